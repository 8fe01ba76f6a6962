/- The walk of the law TallyOrder: the Go text returns true and writes nothing that was there. No condition. -/
import Derived.Test.YtpggdofleehmdaaTallySum
import Derived.Test.YtpggdofleehmdaaTallyNoneWalk
import Derived.Deep.RegionHeld3
namespace Go.Proofs.Ytpggdofleehmdaa.tallyOrder
open Go.RowKit Go.Proofs.Ytpggdofleehmdaa.kit Go.Proofs.Ytpggdofleehmdaa.mem Go.Proofs.Ytpggdofleehmdaa.foot Go.Proofs.Ytpggdofleehmdaa.tally Go.Proofs.Ytpggdofleehmdaa.tallyNone
set_option linter.unusedVariables false
set_option linter.unusedSimpArgs false

theorem i64_and1023 (n : Int) : bits .and .i64 n 1023 = n % 1024 := by
  have h1 : (BitVec.ofInt 64 1023).toNat = 2 ^ 10 - 1 := by decide
  have key : (BitVec.ofInt 64 n &&& BitVec.ofInt 64 1023).toNat = (n % ((2 ^ 64 : Nat) : Int)).toNat % 2 ^ 10 := by
    rw [BitVec.toNat_and, BitVec.toNat_ofInt, h1, Nat.and_two_pow_sub_one_eq_mod]
  show IntKind.i64.wrap ((BitVec.ofInt 64 n &&& BitVec.ofInt 64 1023).toNat : Nat) = n % 1024
  rw [key, IntKind.wrap_i64]
  omega

abbrev AC := Int × Int × Int × Int
/-- what acts come to, at a key; in all -/
def keySum (l : List AC) (k : Int) : Int × Int := (((l.filter fun a => a.2.1 == k).map fun a => a.2.2.1 % 1024).sum, ((l.filter fun a => a.2.1 == k).map fun a => a.2.2.2 % 1024).sum)
def allSum (l : List AC) : Int × Int := ((l.map fun a => a.2.2.1 % 1024).sum, (l.map fun a => a.2.2.2 % 1024).sum)
theorem keySum_snoc (l : List AC) (a : AC) (k : Int) : keySum (l ++ [a]) k = if a.2.1 = k then ((keySum l k).1 + a.2.2.1 % 1024, (keySum l k).2 + a.2.2.2 % 1024) else keySum l k := by
  unfold keySum
  rw [List.filter_append]
  split <;> rename_i h <;> simp [List.filter_cons, h]
theorem allSum_snoc (l : List AC) (a : AC) : allSum (l ++ [a]) = ((allSum l).1 + a.2.2.1 % 1024, (allSum l).2 + a.2.2.2 % 1024) := by simp [allSum]
theorem keySum_perm {l l' : List AC} (h : l.Perm l') (k : Int) : keySum l k = keySum l' k := by
  unfold keySum
  rw [sum_perm ((h.filter _).map fun a => a.2.2.1 % 1024), sum_perm ((h.filter _).map fun a => a.2.2.2 % 1024)]
theorem allSum_perm {l l' : List AC} (h : l.Perm l') : allSum l = allSum l' := by
  unfold allSum
  rw [sum_perm (h.map fun a => a.2.2.1 % 1024), sum_perm (h.map fun a => a.2.2.2 % 1024)]
theorem keySum_bd : ∀ (l : List AC) (k : Int), 0 ≤ (keySum l k).1 ∧ (keySum l k).1 ≤ l.length * 1023 ∧ 0 ≤ (keySum l k).2 ∧ (keySum l k).2 ≤ l.length * 1023
  | [], k => by simp [keySum]
  | a :: l, k => by
    have ih := keySum_bd l k
    by_cases h : a.2.1 = k
    · simp only [keySum, List.filter_cons, h, beq_self_eq_true, if_true, List.map_cons, List.sum_cons, List.length_cons] at ih ⊢
      omega
    · have e : (a.2.1 == k) = false := by simpa using h
      simp only [keySum, List.filter_cons, e, Bool.false_eq_true, if_false, List.length_cons] at ih ⊢
      omega

/-- a tally in which these acts were added -/
structure Ad (w : World) (F : Foot) (t : Nat) (l : List AC) : Prop where
  ex : ∃ rs, Tl w F t rs ∧ (∀ k, tally.valOf rs k = keySum l k) ∧ sumV rs = allSum l ∧ rs.length ≤ l.length
  le : l.length ≤ 40
theorem valOf_put (rs : List TR) (k : Int) (p : Nat × Nat) (v : Int × Int) (j : Int) : tally.valOf ((k, p, v) :: without rs k) j = if k = j then v else tally.valOf rs j := by
  unfold tally.valOf
  rw [List.find?_cons]
  by_cases h : k = j
  · simp [h]
  · have e : (k == j) = false := by simpa using h
    rw [if_neg h]
    simp only [e]
    have : (without rs k).find? (fun r => r.1 == j) = rs.find? (fun r => r.1 == j) := by
      unfold without
      rw [List.find?_filter]
      congr 1
      funext r
      by_cases hr : r.1 = j
      · have e1 : r.1 ≠ k := fun e => h (by omega)
        simp [hr, e1]; omega
      · simp [hr]
    rw [this]
theorem sum_without : ∀ (rs : List TR), rs.Pairwise (fun p r => p.1 ≠ r.1) → ∀ k, sumV rs = ((sumV (without rs k)).1 + (tally.valOf rs k).1, (sumV (without rs k)).2 + (tally.valOf rs k).2)
  | [], _, k => by simp [sumV, without]; exact ⟨rfl, rfl⟩
  | r :: rs, h, k => by
    have ih := sum_without rs (List.pairwise_cons.1 h).2 k
    have h1 := (List.pairwise_cons.1 h).1
    by_cases e : r.1 = k
    · have hw : without (r :: rs) k = rs := by
        unfold without
        rw [List.filter_cons, if_neg (by simp [e]), List.filter_eq_self]
        intro x hx
        have := h1 x hx
        simp; omega
      have hv : tally.valOf (r :: rs) k = r.2.2 := by unfold tally.valOf; simp [List.find?_cons, e]
      rw [hw, hv]
      simp only [sumV, List.map_cons, List.sum_cons]
      exact Prod.ext (by show _ + _ = _ + _; omega) (by show _ + _ = _ + _; omega)
    · have hw : without (r :: rs) k = r :: without rs k := by
        unfold without
        rw [List.filter_cons, if_pos (by simp [e])]
      have hv : tally.valOf (r :: rs) k = tally.valOf rs k := by unfold tally.valOf; simp [List.find?_cons, e]
      rw [hw, hv]
      simp only [sumV, List.map_cons, List.sum_cons, Prod.mk.injEq] at ih ⊢
      omega
theorem without_len (rs : List TR) (k : Int) : (without rs k).length ≤ rs.length := List.length_filter_le _ _

section
variable {w w' : World} {F E : Foot} {t : Nat} {l : List AC}
theorem Ad.chg (h : Ad w F t l) (hc : Chg E w w') (hd : ∀ k, F k → ¬ E k) : Ad w' F t l := by
  obtain ⟨⟨rs, h1, h2⟩, h3⟩ := h
  exact ⟨⟨rs, h1.chg hc hd, h2⟩, h3⟩
theorem Ad.bel (h : Ad w F t l) (hb : Below w.heap.size w w') : Ad w' F t l := h.chg (E := fun _ => False) (Chg.of_below hb _) (fun _ _ e => e)
theorem Ad.lt (h : Ad w F t l) : ∀ k, F k → k < w.heap.size := by obtain ⟨⟨rs, h1, h2⟩, h3⟩ := h; exact h1.lt
theorem Ad.new {t : Nat} (h : Tl w F t []) : Ad w F t [] := ⟨⟨[], h, fun _ => rfl, rfl, by simp⟩, by simp⟩
theorem Ad.perm {l' : List AC} (h : Ad w F t l) (hp : l.Perm l') : Ad w F t l' := by
  obtain ⟨⟨rs, h1, h2, h3, h4⟩, h5⟩ := h
  exact ⟨⟨rs, h1, fun k => (h2 k).trans (keySum_perm hp k), h3.trans (allSum_perm hp), by rw [← hp.length_eq]; exact h4⟩, by rw [← hp.length_eq]; exact h5⟩
/-- one act more -/
theorem Ad.add (h : Ad w F t l) (a : AC) (hk : (Lit.int .u32 a.2.1).wf = true) (hl : l.length < 40) (w0 : World) (hw0 : w0 = w) :
    Calls Try.prog 30 #[.pointer (some ⟨t, 0, none⟩), .int .u32 a.2.1, .int .i64 (a.2.2.1 % 1024), .int .i64 (a.2.2.2 % 1024)] w0 fun e w' => e = .returned (.int .i64 0) ∧ Ad w' F t (l ++ [a]) ∧ Chg F w w' := by
  subst hw0
  obtain ⟨⟨rs, h1, h2, h3, h4⟩, h5⟩ := h
  have hb := keySum_bd l a.2.1
  refine (Add_any a.2.1 (a.2.2.1 % 1024) (a.2.2.2 % 1024) w0 hk (by omega) (by omega) (by omega) h1).mono fun e w' hp => ?_
  obtain ⟨he, ⟨p, ht⟩, hc⟩ := hp.2 (by rw [h2]; simp [fullB]; omega)
  refine ⟨he, ⟨⟨_, ht, fun k => ?_, ?_, ?_⟩, by simp; omega⟩, hc⟩
  · rw [valOf_put, keySum_snoc, h2, h2]
    split
    · rename_i e; rw [e]
    · rfl
  · rw [allSum_snoc, ← h3]
    have h6 := sum_without rs h1.nd a.2.1
    rw [h2] at h6
    simp only [h2, sumV, List.map_cons, List.sum_cons, Prod.mk.injEq] at h6 ⊢
    omega
  · have := without_len rs a.2.1
    simp; omega
end

theorem keeps_act : Keeps 4 RAct := keeps_pair (n := 1) (m := 3) (keeps_int _) (keeps_pair (n := 1) (m := 2) (keeps_int _) (keeps_pair (n := 1) (m := 1) (keeps_int _) (keeps_int _)))
/-- two tallies -/
structure TS (W : World) (F G : Foot) (t u : Nat) (l r : List AC) (w : World) : Prop where
  a : Ad w F t l
  b : Ad w G u r
  fl : ∀ k, F k → W.heap.size ≤ k
  gl : ∀ k, G k → W.heap.size ≤ k ∧ ¬ F k
  bel : Below W.heap.size W w
theorem TS.grow {W w w' : World} {F G : Foot} {t u : Nat} {l r : List AC} (h : TS W F G t u l r w) (hb : Below w.heap.size w w') : TS W F G t u l r w' := ⟨h.a.bel hb, h.b.bel hb, h.fl, h.gl, h.bel.trans (hb.mono h.bel.size)⟩
theorem TS.fst {W w w' : World} {F G : Foot} {t u : Nat} {l l' r : List AC} (h : TS W F G t u l r w) (ha : Ad w' F t l') (hc : Chg F w w') : TS W F G t u l' r w' := ⟨ha, h.b.chg hc fun k hk => (h.gl k hk).2, h.fl, h.gl, h.bel.trans (hc.below h.fl h.bel.size)⟩
theorem TS.snd {W w w' : World} {F G : Foot} {t u : Nat} {l r r' : List AC} (h : TS W F G t u l r w) (hb : Ad w' G u r') (hc : Chg G w w') : TS W F G t u l r' w' := ⟨h.a.chg hc fun k hk e => (h.gl k e).2 hk, hb, h.fl, h.gl, h.bel.trans (hc.below (fun k hk => (h.gl k hk).1) h.bel.size)⟩

theorem TS.add1 {W w w0 : World} {F G : Foot} {t u : Nat} {l r : List AC} (h : TS W F G t u l r w) (hb : Below w.heap.size w w0) (p0 p1 p2 p3 : Int) (hk : (Lit.int .u32 p1).wf = true) (hl : l.length < 40) :
    Calls Try.prog 30 #[.pointer (some ⟨t, 0, none⟩), .int .u32 p1, .int .i64 (p2 % 1024), .int .i64 (p3 % 1024)] w0 fun e w' => e = .returned (.int .i64 0) ∧ TS W F G t u (l ++ [(p0, p1, p2, p3)]) r w' :=
  ((h.grow hb).a.add (p0, p1, p2, p3) hk hl w0 rfl).mono fun e w' ⟨h1, h2, h3⟩ => ⟨h1, (h.grow hb).fst h2 h3⟩
theorem TS.add2 {W w w0 : World} {F G : Foot} {t u : Nat} {l r : List AC} (h : TS W F G t u l r w) (hb : Below w.heap.size w w0) (p0 p1 p2 p3 : Int) (hk : (Lit.int .u32 p1).wf = true) (hl : r.length < 40) :
    Calls Try.prog 30 #[.pointer (some ⟨u, 0, none⟩), .int .u32 p1, .int .i64 (p2 % 1024), .int .i64 (p3 % 1024)] w0 fun e w' => e = .returned (.int .i64 0) ∧ TS W F G t u l (r ++ [(p0, p1, p2, p3)]) w' :=
  ((h.grow hb).b.add (p0, p1, p2, p3) hk hl w0 rfl).mono fun e w' ⟨h1, h2, h3⟩ => ⟨h1, (h.grow hb).snd h2 h3⟩

set_option maxRecDepth 100000 in
set_option maxHeartbeats 2000000 in
theorem core (A : Option Addr) (c : Nat) (l : List AC) (W : World) (hl : l.length ≤ maxLen) (hs : Els 4 RAct W (fun _ => True) A l) :
    Calls Try.prog 9 #[.slice A l.length c] W fun e w' => e = .returned (.bool true) ∧ Below W.heap.size W w' := by
  unfold maxLen at hl
  obtain ⟨x, hx⟩ : ∃ x, x = l.take 40 := ⟨_, rfl⟩
  have hsx : Els 4 RAct W (fun _ => True) A x := by
    rw [hx]
    by_cases h : 40 ≤ l.length
    · exact hs.take keeps_act h
    · rw [List.take_of_length_le (by omega)]; exact hs
  have hxl : x.length = min 40 l.length := by rw [hx]; simp
  have HS := Lib.hid hsx
  have HN := Lib.hid (New_any W)
  clear hs hsx hx
  obtain ⟨n, hn⟩ : ∃ n, n = x.length := ⟨_, rfl⟩
  have HXl : Hid (x.length = min 40 l.length ∧ n = x.length) := ⟨hxl, hn⟩
  clear hxl hn
  go_enter Try.func9, Try.ntmps9
  go_wp2_with fail
  refine HN.out.mono ?_; rintro e w1 ⟨t, F, rfl, ht, hF, hb1⟩
  have HN2 := Lib.hid (New_any w1)
  have HT1 := Lib.hid ht
  have HF := Lib.hid hF
  have HB1 := Lib.hid hb1
  clear ht hF hb1 HN
  go_wp2_with fail
  refine HN2.out.mono ?_; rintro e w2 ⟨u, G, rfl, hu, hG, hb2⟩
  have HTS : Hid (TS W F G t u [] [] w2) := ⟨Ad.new (HT1.out.bel hb2), Ad.new hu, HF.out, fun k hk => ⟨Nat.le_trans HB1.out.size (hG k hk), fun e => by have := HT1.out.lt k e; have := hG k hk; omega⟩, HB1.out.trans (hb2.mono HB1.out.size)⟩
  clear hu hG hb2 HN2 HT1 HF HB1
  by_cases h40 : 40 < l.length
  case' pos =>
    have d40 : decide ((40 : Int) < (l.length : Int)) = true := by simp; omega
    have hnn : n = 40 := by have h1 := HXl.out.1; have h2 := HXl.out.2; omega
    have HNN := Lib.hid hnn
    clear hnn
    go_wp2_with fail
  case' neg =>
    have d40 : decide ((40 : Int) < (l.length : Int)) = false := by simp; omega
    have hnn : n = l.length := by have h1 := HXl.out.1; have h2 := HXl.out.2; omega
    have HNN := Lib.hid hnn
    clear hnn
    go_wp2_with fail
    clear d40
  all_goals
    have hn40 : n ≤ 40 := by have h1 := HXl.out.1; have h2 := HXl.out.2; omega
    have hnl : n ≤ l.length := by have h1 := HXl.out.1; have h2 := HXl.out.2; omega
    obtain ⟨nn, hnn⟩ : ∃ nn : Value, nn = .int .i64 (n : Int) := ⟨_, rfl⟩
    first | rw [show (Value.int .i64 40 : Value) = .int .i64 (n : Int) from by rw [HNN.out]; rfl] | rw [show (Value.int .i64 (l.length : Int) : Value) = .int .i64 (n : Int) from by rw [HNN.out]]
    clear h40 hnn
    go_loopw [6, 7] (fun i _ wr => ∃ k : Nat, k ≤ n ∧ i = .int .i64 k ∧ TS W F G t u (x.take k) (x.reverse.take k) wr) (fun i _ _ => n - (intOf i).toNat)
    case atStart => exact ⟨0, by omega, rfl, HTS.out⟩
    case round =>
      obtain ⟨k, hk, rfl, hts⟩ := hrel
      have HT := Lib.hid hts
      clear hts HTS
      by_cases hlt : k < n
      · have hkx : k < x.length := by have h2 := HXl.out.2; omega
        have hmx : n - 1 - k < x.length := by have h2 := HXl.out.2; omega
        obtain ⟨b, off, cs, rfl, _, hbl, hr, hcell⟩ := HS.out.at_ keeps_act hkx
        obtain ⟨b', off', cs', e', _, _, hr', hcell'⟩ := HS.out.at_ keeps_act hmx
        cases e'
        have htk : x.take (k + 1) = x.take k ++ [x[k]] := List.take_succ_eq_append_getElem hkx
        have htm : x.reverse.take (k + 1) = x.reverse.take k ++ [x[n - 1 - k]] := by
          rw [List.take_succ_eq_append_getElem (by simp; omega)]
          simp [HXl.out.2]
        have HTK := Lib.hid htk
        have HTM := Lib.hid htm
        clear htk htm
        generalize x[k] = p at *
        generalize x[n - 1 - k] = r at *
        obtain ⟨p0, p1, p2, p3⟩ := p
        obtain ⟨r0, r1, r2, r3⟩ := r
        obtain ⟨rfl, _, wp1, _, _⟩ := act_eq hr
        obtain ⟨rfl, _, wr1, _, _⟩ := act_eq hr'
        have HC : Hid (∀ w0, Below W.heap.size W w0 → (w0.cell? ⟨b, off + k * 4 + 1, none⟩ = some (.int .u32 p1) ∧ w0.cell? ⟨b, off + k * 4 + 2, none⟩ = some (.int .i64 p2) ∧ w0.cell? ⟨b, off + k * 4 + 3, none⟩ = some (.int .i64 p3)) ∧
          (w0.cell? ⟨b, off + (n - 1 - k) * 4 + 1, none⟩ = some (.int .u32 r1) ∧ w0.cell? ⟨b, off + (n - 1 - k) * 4 + 2, none⟩ = some (.int .i64 r2) ∧ w0.cell? ⟨b, off + (n - 1 - k) * 4 + 3, none⟩ = some (.int .i64 r3))) := fun w0 hb => by
          have hc : ∀ o, w0.cell? ⟨b, o, none⟩ = W.cell? ⟨b, o, none⟩ := fun o => hb.cell (p := ⟨b, o, none⟩) hbl
          exact ⟨⟨(hc _).trans (hcell 1 _ rfl), (hc _).trans (hcell 2 _ rfl), (hc _).trans (hcell 3 _ rfl)⟩, ⟨(hc _).trans (hcell' 1 _ rfl), (hc _).trans (hcell' 2 _ rfl), (hc _).trans (hcell' 3 _ rfl)⟩⟩
        have hlr : (x.take k).length < 40 ∧ (x.reverse.take k).length < 40 := by simp; omega
        have HA1 := Lib.hid (fun w0 hb => HT.out.add1 (w0 := w0) hb p0 p1 p2 p3 wp1 hlr.1)
        have HL := Lib.hid hlr
        have HWr := Lib.hid wr1
        clear hcell hcell' hr hr' hlr wp1 wr1
        obtain ⟨⟨c1, c2, c3⟩, _⟩ := HC.out wr HT.out.bel
        have n1 := i64_and1023 p2
        have n2 := i64_and1023 p3
        have hkl : (k : Int) < (l.length : Int) := by omega
        go_wp2_with fail
        go_region_held3 (fun w' => w'.cell? ⟨b, off + k * 4 + 1, none⟩ = some (.int .u32 p1) ∧ w'.cell? ⟨b, off + k * 4 + 2, none⟩ = some (.int .i64 p2) ∧ w'.cell? ⟨b, off + k * 4 + 3, none⟩ = some (.int .i64 p3)) (first | exact ⟨c1, c2, c3⟩ | exact ⟨g1, g2, g3⟩)
          ((go_at_call 30; refine (HA1.out _ (Below.refl _ _).drew).mono ?_; rintro e w3 ⟨rfl, hts3⟩; go_must (obtain ⟨⟨g1, g2, g3⟩, g4, g5, g6⟩ := HC.out w3 hts3.bel); have HT3 := Lib.hid hts3; clear hts3))
        clear c1 c2 c3 n1 n2 HA1 g1 g2 g3
        have HA2 := Lib.hid (fun w0 hb => HT3.out.add2 (w0 := w0) hb r0 r1 r2 r3 HWr.out HL.out.2)
        have n1 := i64_and1023 r2
        have n2 := i64_and1023 r3
        have hmi : (n : Int) - 1 - (k : Int) = ((n - 1 - k : Nat) : Int) := by omega
        have hml : ((n - 1 - k : Nat) : Int) < (l.length : Int) := by omega
        generalize n - 1 - k = m at *
        go_wp2_with fail
        go_region_held3 (fun w' => w'.cell? ⟨b, off + m * 4 + 1, none⟩ = some (.int .u32 r1) ∧ w'.cell? ⟨b, off + m * 4 + 2, none⟩ = some (.int .i64 r2) ∧ w'.cell? ⟨b, off + m * 4 + 3, none⟩ = some (.int .i64 r3)) (first | exact ⟨g4, g5, g6⟩ | exact ⟨k4, k5, k6⟩)
          ((go_at_call 30; refine (HA2.out _ (Below.refl _ _).drew).mono ?_; rintro e w4 ⟨rfl, hts4⟩; go_must (obtain ⟨_, k4, k5, k6⟩ := HC.out w4 hts4.bel); have HT4 := Lib.hid hts4; clear hts4))
        go_wp2_with fail
        go_roundw
        case measure => simp [intOf]; omega
        case rel => exact ⟨k + 1, by omega, by go_num, by rw [HTK.out, HTM.out]; exact HT4.out⟩
      · obtain rfl : k = n := by omega
        have HU : Hid (TS W F G t u x x wr) := by
          have h := HT.out
          have e1 : x.take k = x := List.take_of_length_le (by have := HXl.out.2; omega)
          have e2 : x.reverse.take k = x.reverse := List.take_of_length_le (by have := HXl.out.2; simp; omega)
          rw [e1, e2] at h
          exact ⟨h.a, h.b.perm (List.reverse_perm x), h.fl, h.gl, h.bel⟩
        clear HT HNN hlt
        go_wp2_with fail
        go_loopw [8, 9, 10, 11, 12] (fun i _ _ _ _ w' => ∃ j : Nat, j ≤ k ∧ i = .int .i64 j ∧ w' = wr) (fun i _ _ _ _ _ => k - (intOf i).toNat)
        case atStart => exact ⟨0, by omega, rfl, rfl⟩
        case round =>
          obtain ⟨j, hj, rfl, rfl⟩ := hrel
          by_cases hlt : j < k
          · have hjx : j < x.length := by have h2 := HXl.out.2; omega
            obtain ⟨b, off, cs, rfl, _, hbl, hr, hcell⟩ := HS.out.at_ keeps_act hjx
            have hjl : (j : Int) < (l.length : Int) := by omega
            generalize x[j] = p at *
            obtain ⟨p0, p1, p2, p3⟩ := p
            obtain ⟨rfl, _, wp1, _, _⟩ := act_eq hr
            have c1 := (HU.out.bel.cell (p := ⟨b, off + j * 4 + 1, none⟩) hbl).trans (hcell 1 _ rfl)
            obtain ⟨⟨rs, a1, a2, _, _⟩, _⟩ := HU.out.a
            obtain ⟨⟨rs', b1, b2, _, _⟩, _⟩ := HU.out.b
            have hO1 := Of_any p1 _ wp1 a1
            have hO2 := Of_any p1 _ wp1 b1
            rw [a2] at hO1
            rw [b2] at hO2
            have HO1 := Lib.hid hO1
            have HO2 := Lib.hid hO2
            clear hO1 hO2 a1 a2 b1 b2 hcell hr wp1
            generalize keySum x p1 = v at *
            go_wp2_with (first
              | (go_at_call 31; (with_reducible refine HO1.out.mono ?_); rintro e w' ⟨rfl, rfl⟩)
              | (go_at_call 31; (with_reducible refine HO2.out.mono ?_); rintro e w' ⟨rfl, rfl⟩))
            go_roundw
            case measure => simp [intOf]; omega
            case rel => exact ⟨j + 1, by omega, by go_num, by first | rfl | trivial⟩
          · obtain rfl : j = k := by omega
            obtain ⟨⟨rs, a1, _, a3, a4⟩, a5⟩ := HU.out.a
            obtain ⟨⟨rs', b1, _, b3, b4⟩, _⟩ := HU.out.b
            have hS1 := fun w0 hb => Sum_any w0 (by omega) (a1.bel (w' := w0) hb)
            have hS2 := fun w0 hb => Sum_any w0 (by omega) (b1.bel (w' := w0) hb)
            rw [a3] at hS1
            rw [b3] at hS2
            have HS1 := Lib.hid hS1
            have HS2 := Lib.hid hS2
            clear hS1 hS2 a1 a3 a4 a5 b1 b3 b4
            generalize allSum x = v at *
            go_wp2_with (first
              | (go_at_call 32; (with_reducible refine (HS1.out _ (Below.refl _ _)).mono ?_); rintro e w5 ⟨rfl, hb5⟩; have HB5 := Lib.hid hb5; clear hb5)
              | (go_at_call 32; (with_reducible refine (HS2.out _ HB5.out).mono ?_); rintro e w6 ⟨rfl, hb6⟩; have HB6 := Lib.hid (HB5.out.trans (hb6.mono HB5.out.size)); clear hb6)
              | (go_at_call 22; refine (lives_any _).mono ?_; rintro e w7 ⟨rfl, hb7⟩))
            go_ret
            have k1 := HU.out.bel.trans (HB6.out.mono HU.out.bel.size)
            exact ⟨rfl, k1.trans (hb7.mono k1.size)⟩

set_option maxRecDepth 100000 in
theorem walk {H : Type} {enc : TypeId × Value → H} {W : World} {base : Nat} {v0 : Value} {d0 : DataW H} {p0 : List MemPlace}
    (hv0 : Value.okWide Try.prog W .any base 43 v0) (h0 : DataW.Trod enc Try.prog W 0 (fun _ => true) true 43 v0 d0 p0) :
    Calls Try.prog 9 #[v0] W fun e w' => e = .returned (.bool true) ∧ Below W.heap.size W w' := by
  obtain ⟨A, c, l, rfl, hA, hcap, hm, hs⟩ := open_sl Try.underlying43 (opens_sl keeps_act Try.underlying43 (by kernel_rfl) (by omega) opens_act) hv0 h0
  exact core A c l W (by omega) hs
end Go.Proofs.Ytpggdofleehmdaa.tallyOrder
