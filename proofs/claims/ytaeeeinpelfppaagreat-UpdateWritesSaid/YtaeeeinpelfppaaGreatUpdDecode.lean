/- What update.Decode returns. Condition: at most 50000 bytes. -/
import Derived.Test.YtaeeeinpelfppaaGreatUpdSl
namespace Go.Proofs.YtaeeeinpelfppaaGreat.upd
open Go.RowKit Go.Proofs.YtaeeeinpelfppaaGreat.kit Go.Proofs.YtaeeeinpelfppaaGreat.mem Go.Proofs.YtaeeeinpelfppaaGreat.foot Go.Proofs.YtaeeeinpelfppaaGreat.nums Go.Proofs.YtaeeeinpelfppaaGreat.asn Go.Proofs.YtaeeeinpelfppaaGreat.pth Go.Proofs.YtaeeeinpelfppaaGreat.octet Go.Proofs.YtaeeeinpelfppaaGreat.attr Go.Proofs.YtaeeeinpelfppaaGreat.mv
set_option linter.unusedVariables false
set_option linter.unusedSimpArgs false
theorem rget_no {l : List UInt8} {bad : Bool} {n : Int} (h : rok l bad n = false) : rget l bad n = [] ∧ rleft l bad n = [] := by simp [rget, rleft, h]
theorem rget_yes {l : List UInt8} {bad : Bool} {n : Int} (h : rok l bad n = true) : rget l bad n = l.take n.toNat ∧ rleft l bad n = l.drop n.toNat := by simp [rget, rleft, h]
/-- what a length and a Take read -/
theorem part_read (l : List UInt8) :
    (part l = none → rget (rleft l false 2) (!rok l false 2) (num (rget l false 2)) = [] ∧ rok (rleft l false 2) (!rok l false 2) (num (rget l false 2)) = false) ∧
    (∀ x q, part l = some (x, q) → rget (rleft l false 2) (!rok l false 2) (num (rget l false 2)) = x ∧ rleft (rleft l false 2) (!rok l false 2) (num (rget l false 2)) = q ∧ rok (rleft l false 2) (!rok l false 2) (num (rget l false 2)) = true) := by
  by_cases h2 : l.length < 2
  · have hk : rok l false 2 = false := by
      rw [← Bool.not_eq_true, rok_iff]
      omega
    have hk2 : rok (rleft l false 2) (!rok l false 2) (num (rget l false 2)) = false := by
      rw [← Bool.not_eq_true, rok_iff, hk]
      simp
    have hp : part l = none := by unfold part; rw [if_pos h2]
    refine ⟨fun _ => ⟨(rget_no hk2).1, hk2⟩, fun x q h => ?_⟩
    rw [hp] at h; cases h
  · have hk : rok l false 2 = true := by
      rw [rok_iff]
      exact ⟨rfl, by omega, by omega⟩
    obtain ⟨e1, e2⟩ := rget_yes hk
    have hn : num (rget l false 2) = two l := by rw [e1]; rfl
    rw [e2, hn, hk]
    have e3 : l.drop (2 : Int).toNat = l.drop 2 := rfl
    rw [e3, Bool.not_true]
    by_cases h3 : l.length < 2 + two l
    · have hk2 : rok (l.drop 2) false (two l) = false := by
        rw [← Bool.not_eq_true, rok_iff, List.length_drop]
        omega
      have hp : part l = none := by unfold part; rw [if_neg h2, if_pos h3]
      refine ⟨fun _ => ⟨(rget_no hk2).1, hk2⟩, fun x q h => ?_⟩
      rw [hp] at h; cases h
    · have hk2 : rok (l.drop 2) false (two l) = true := by
        rw [rok_iff, List.length_drop]
        exact ⟨rfl, by omega, by omega⟩
      have hp : part l = some ((l.drop 2).take (two l), l.drop (2 + two l)) := by unfold part; rw [if_neg h2, if_neg h3]
      refine ⟨fun h => (by rw [hp] at h; cases h), fun x q h => ?_⟩
      rw [hp] at h
      injection h with h
      injection h with h4 h5
      obtain ⟨e4, e5⟩ := rget_yes hk2
      refine ⟨by rw [e4, ← h4]; rfl, ?_, hk2⟩
      rw [e5, ← h5, List.drop_drop]
      rfl
/-- what nlri's Decode hands back, in one form -/
def gOf : Option (List (Nat × Int)) → List (Nat × Int) | none => [] | some g => g
def kOf : Option (List (Nat × Int)) → Int | none => 2 | some _ => 0
theorem nlri_dec (A : Option Addr) (c : Nat) (x : List UInt8) (w : World) (hl : x.length ≤ 50000) (hA : A = none → c = 0) (hr : Bs w w.heap.size A x) :
    Calls Tryz.prog 19 #[.slice A x.length c] w fun e w' => ∃ A' c', e = .returned (.tuple #[.slice A' (gOf (nlri.dec x)).length c', .int .i64 (kOf (nlri.dec x))]) ∧ Pw w' (fun k => w.heap.size ≤ k) A' c' (gOf (nlri.dec x)) ∧ Below w.heap.size w w' := by
  refine (nlri.Decode_any A c w.heap.size x w (by omega) hA (Nat.le_refl _) hr).mono fun e w' h => ?_
  unfold nlri.DecPost at h
  generalize nlri.dec x = D at *
  rcases D with _ | g
  · exact ⟨none, 0, h.1, Pw.nil_ _ _, h.2⟩
  · obtain ⟨A', c', h1, h2⟩ := h
    exact ⟨A', c', h1, Pw.new h2, h2.bel⟩
theorem rest_read (l : List UInt8) : rget l false l.length = l ∧ rok l false l.length = true := by
  have hk : rok l false l.length = true := by
    rw [rok_iff]
    exact ⟨rfl, by omega, by omega⟩
  refine ⟨?_, hk⟩
  rw [(rget_yes hk).1]
  simp
theorem nob_zero : ∀ v ∈ zeroC, ∀ n : Int, v ≠ Value.int .u8 n := by
  intro v hv n e
  subst e
  simp [zeroC] at hv
theorem nob_zeroN : ∀ v ∈ zeroN, ∀ n : Int, v ≠ Value.int .u8 n := by
  intro v hv n e
  subst e
  simp [zeroN] at hv
theorem nob_upc {A1 A2 : Option Addr} {n1 c1 n2 c2 : Nat} {cs : List Value} (h : ∀ v ∈ cs, ∀ n : Int, v ≠ Value.int .u8 n) : ∀ v ∈ upc A1 n1 c1 cs A2 n2 c2, ∀ n : Int, v ≠ Value.int .u8 n := by
  intro v hv n
  unfold upc at hv
  rw [List.mem_append, List.mem_append] at hv
  rcases hv with (hv | hv) | hv
  · simp at hv
    rw [hv]
    intro e; cases e
  · exact h v hv n
  · simp at hv
    rw [hv]
    intro e; cases e
theorem zero_one : ∀ u ∈ zeroC, u.oneCell' = true := by
  intro u hu
  simp only [zeroC, List.mem_cons, List.not_mem_nil, or_false] at hu
  rcases hu with rfl | rfl | rfl | rfl | rfl | rfl | rfl | rfl | rfl <;> rfl
theorem atc_one {a : Atr} {Ap Ac : Option Addr} {cp cc : Nat} : ∀ u ∈ atc a Ap cp Ac cc, u.oneCell' = true := by
  intro u hu
  simp [atc] at hu
  rcases hu with rfl | rfl | rfl | rfl | rfl | rfl | rfl | rfl | rfl <;> rfl
/-- a whole block written (one operation) -/
theorem wp_storeBk {P : Program} {o : Oper} {a : Act} {w : World} {K : Act → World → Prop} {Q : Exit → Act → World → Prop} (ty : TypeId) (x y : Operand) (ho : o.op = .store ty x y)
    (g : Nat) (hx : a.eval x = .pointer (some ⟨g, 0, none⟩)) (cs : Array Value) (hy : a.eval y = .agg cs) (t : TypeId) (old : Array Value) (hg : Bk w g t old)
    (hi : (P.info? ty).map (·.size) = some cs.size) (hold : old.size = cs.size) (h1 : cs.toList.all (·.oneCell') = true)
    (h : ∀ w', Bk w' g t cs → Chg (fun k => k = g) w w' → w'.heap.size = w.heap.size → K (a.put o.dst undef) w') : o.wp P a w K Q :=
  wp_store_row ty x y ho g cs hx hy t old hg hi hold (by rw [← Array.all_toList]; exact h1) (h _ (bk_row hg cs) (chg_row w g cs) (by simp))
theorem _root_.Go.Proofs.YtaeeeinpelfppaaGreat.mem.Bk.all {w : World} {g : Nat} {t : TypeId} {cs : List Value} (h : Bk w g t cs.toArray) : w.rangeAt g 0 cs := fun j v hv => by
  rw [h.cell, List.getElem?_toArray, Nat.zero_add]
  exact hv
/-- the four blocks of update.Decode -/
structure US (w : World) (uc nc : List Value) (w' : World) : Prop where
  k2 : Bk w' w.heap.size 31 zeroUC.toArray
  k3 : Bk w' (w.heap.size + 1) 33 zeroN.toArray
  k4 : Bk w' (w.heap.size + 2) 31 uc.toArray
  k6 : Bk w' (w.heap.size + 3) 33 nc.toArray
  bel : Below w.heap.size w w'
section
variable {w w' w'' : World} {uc nc uc' nc' : List Value} {F : Foot}
theorem US.chg (h : US w uc nc w') (hc : Chg F w' w'') (hF : ∀ k, F k → w.heap.size + 3 < k) : US w uc nc w'' :=
  ⟨h.k2.chg hc fun e => by have := hF _ e; omega, h.k3.chg hc fun e => by have := hF _ e; omega, h.k4.chg hc fun e => by have := hF _ e; omega, h.k6.chg hc fun e => by have := hF _ e; omega, h.bel.trans (hc.below (fun k e => by have := hF _ e; omega) h.bel.size)⟩
theorem US.go (h : US w uc nc w') (hb : Below w'.heap.size w' w'') : US w uc nc w'' := h.chg (Chg.of_below hb fun _ => False) fun _ e => e.elim
/-- the Update's block turned -/
theorem US.upd (h : US w uc nc w') (hc : Chg (fun k => k = w.heap.size + 2) w' w'') (hk : Bk w'' (w.heap.size + 2) 31 uc'.toArray) : US w uc' nc w'' :=
  ⟨h.k2.chg hc (by omega), h.k3.chg hc (by omega), hk, h.k6.chg hc (by omega), h.bel.trans (hc.below (fun k e => by omega) h.bel.size)⟩
theorem US.not (h : US w uc nc w') (hc : Chg (fun k => k = w.heap.size + 3) w' w'') (hk : Bk w'' (w.heap.size + 3) 33 nc'.toArray) : US w uc nc' w'' :=
  ⟨h.k2.chg hc (by omega), h.k3.chg hc (by omega), h.k4.chg hc (by omega), hk, h.bel.trans (hc.below (fun k e => by omega) h.bel.size)⟩
/-- cells that are no bytes -/
theorem US.rdr {r : Nat} {q : List UInt8} {b : Bool} (h : US w uc nc w') (hr : Rdr w' r q b) (hc : Chg (fun k => k = w.heap.size + 2) w' w'') (hn : ∀ v ∈ uc, ∀ n : Int, v ≠ Value.int .u8 n) (hlr : w.heap.size + 3 < r) : Rdr w'' r q b := by
  obtain ⟨A0, c0, t1, t2, t3, t4, t5⟩ := hr
  exact ⟨A0, c0, t1.chg hc (by omega), t2, t3, t4, bs_chg t5 h.k4 (fun i v hv => hn v (List.mem_of_getElem? (by simpa using hv))) hc (Nat.le_of_lt t1.lt)⟩
theorem US.rdrN {r : Nat} {q : List UInt8} {b : Bool} (h : US w uc nc w') (hr : Rdr w' r q b) (hc : Chg (fun k => k = w.heap.size + 3) w' w'') (hn : ∀ v ∈ nc, ∀ n : Int, v ≠ Value.int .u8 n) (hlr : w.heap.size + 3 < r) : Rdr w'' r q b := by
  obtain ⟨A0, c0, t1, t2, t3, t4, t5⟩ := hr
  exact ⟨A0, c0, t1.chg hc (by omega), t2, t3, t4, bs_chg t5 h.k6 (fun i v hv => hn v (List.mem_of_getElem? (by simpa using hv))) hc (Nat.le_of_lt t1.lt)⟩
theorem US.lt (h : US w uc nc w') : w.heap.size + 3 < w'.heap.size := h.k6.lt
end
theorem US.start (w : World) : US w zeroUC zeroN ((((w.alloc (.cells zeroUC.toArray 31)).alloc (.cells zeroN.toArray 33)).alloc (.cells zeroUC.toArray 31)).alloc (.cells zeroN.toArray 33)) := by
  have h := allocs_at [.cells zeroUC.toArray 31, .cells zeroN.toArray 33, .cells zeroUC.toArray 31, .cells zeroN.toArray 33] w
  exact ⟨h 0 _ _ rfl, h 1 _ _ rfl, h 2 _ _ rfl, h 3 _ _ rfl, allocs_below [.cells zeroUC.toArray 31, .cells zeroN.toArray 33, .cells zeroUC.toArray 31, .cells zeroN.toArray 33] w⟩
set_option maxRecDepth 100000 in
set_option maxHeartbeats 8000000 in
theorem Decode_any (A : Option Addr) (c : Nat) (l : List UInt8) (w : World) (hl : l.length ≤ 50000) (hA : A = none → c = 0) (hs : Bs w w.heap.size A l) :
    Calls Tryz.prog 6 #[.slice A l.length c] w (RetUp (fun w k => w.heap.size ≤ k) (updS l) w) := by
  have HSu : Hid ((Tryz.prog.info? 31).map (·.size) = some 11) := info_upd
  have HSn : Hid ((Tryz.prog.info? 33).map (·.size) = some 3) := info_ntc
  have HSz : Hid ((Tryz.prog.info? 29).map (·.size) = some 9) := info_atr
  obtain ⟨w1, hw1⟩ : ∃ w1, w1 = (((w.alloc (.cells zeroUC.toArray 31)).alloc (.cells zeroN.toArray 33)).alloc (.cells zeroUC.toArray 31)).alloc (.cells zeroN.toArray 33) := ⟨_, rfl⟩
  have hst := US.start w
  rw [← hw1] at hst
  have HS1 := Lib.hid hst
  have HNw := Lib.hid (New_any A c w.heap.size l w1 (by omega) hA hst.bel.size (hs.below hst.bel (Nat.le_refl _)))
  obtain ⟨D, hD⟩ : ∃ D, D = updS l := ⟨_, rfl⟩
  obtain ⟨Q, hQ⟩ : ∃ Q, Q = RetUp (fun w k => w.heap.size ≤ k) D w := ⟨_, rfl⟩
  have HQ1 : Hid (∀ (s : Nat) (w' : World), D = .err s [] → Below w.heap.size w w' → Q (.returned (.tuple #[.agg zeroUC.toArray, .agg (nt 3 (s : Int) none 0 0).toArray])) w') := fun s w' h1 h2 => by
    rw [hQ, h1]
    exact ⟨none, 0, none, 0, none, 0, none, 0, none, 0, rfl, Um.zero _ _, Bn.nil_ _ _, h2⟩
  have HQ2 : Hid (∀ (s : Nat) (d : List UInt8) (An : Option Addr) (cn : Nat) (w' : World), D = .err s d → Bn w' (fun k => w.heap.size ≤ k) An cn d → Below w.heap.size w w' → Q (.returned (.tuple #[.agg zeroUC.toArray, .agg (nt 3 (s : Int) An d.length cn).toArray])) w') := fun s d An cn w' h1 h2 h3 => by
    rw [hQ, h1]
    exact ⟨none, 0, none, 0, none, 0, none, 0, An, cn, rfl, Um.zero _ _, h2, h3⟩
  have HQ3 : Hid (∀ (u : Upd) (A1 : Option Addr) (c1 : Nat) (Ap : Option Addr) (cp : Nat) (Ac : Option Addr) (cc : Nat) (A2 : Option Addr) (c2 : Nat) (w' : World), D = .ok u → Um w' (fun k => w.heap.size ≤ k) u A1 c1 Ap cp Ac cc A2 c2 → Below w.heap.size w w' → Q (.returned (.tuple #[.agg (upc A1 u.gone.length c1 (atc u.a Ap cp Ac cc) A2 u.here.length c2).toArray, .agg (nt 0 0 none 0 0).toArray])) w') := fun u A1 c1 Ap cp Ac cc A2 c2 w' h1 h2 h3 => by
    rw [hQ, h1]
    exact ⟨A1, c1, Ap, cp, Ac, cc, A2, c2, none, 0, rfl, h2, Bn.nil_ _ _, h3⟩
  have HQ4 : Hid (∀ (u : Upd) (A1 : Option Addr) (c1 : Nat) (Ap : Option Addr) (cp : Nat) (Ac : Option Addr) (cc : Nat) (A2 : Option Addr) (c2 : Nat) (An : Option Addr) (cn : Nat) (w' : World), D = .ok u → Um w' (fun k => w.heap.size ≤ k) u A1 c1 Ap cp Ac cc A2 c2 → Bn w' (fun k => w.heap.size ≤ k) An cn [] → Below w.heap.size w w' → Q (.returned (.tuple #[.agg (upc A1 u.gone.length c1 (atc u.a Ap cp Ac cc) A2 u.here.length c2).toArray, .agg (nt 0 0 An 0 cn).toArray])) w') := fun u A1 c1 Ap cp Ac cc A2 c2 An cn w' h1 h2 h4 h3 => by
    rw [hQ, h1]
    exact ⟨A1, c1, Ap, cp, Ac, cc, A2, c2, An, cn, rfl, h2, h4, h3⟩
  rw [← hD, ← hQ]
  have HWr := Lib.hid (fun (s : Int) (w' : World) => wrong_any s w')
  have hpr := part_read l
  have hD1 : (part l = none → D = .err 1 []) ∧ (∀ x q, part l = some (x, q) → nlri.dec x = none → D = .err 1 []) ∧ (∀ x q g, part l = some (x, q) → nlri.dec x = some g → D = updB g q) := by
    rw [hD]
    unfold updS
    refine ⟨fun h => by rw [h], fun x q h h2 => by rw [h]; dsimp only; rw [h2], fun x q g h h2 => by rw [h]; dsimp only; rw [h2]⟩
  have HD1 := Lib.hid hD1
  have HPr := Lib.hid hpr
  have hw0 := hw1
  simp only [zeroUC, upc, zeroC, zeroN, List.cons_append, List.nil_append] at hw0
  clear hD hQ hD1 hpr hw1 hA hs hst
  go_enter Tryz.func6, Tryz.ntmps6
  go_upto_region 4 with fail
  rw [show (_ : World) = w1 from hw0.symm]
  clear hw0
  go_upto_region 5 with (go_at_call 18; refine HNw.out.mono ?_; rintro e w2 ⟨⟨r, rfl, h1, h2⟩, h3⟩; have HR2 := Lib.hid h2; have HS2 := Lib.hid (HS1.out.go h3); have HLr := Lib.hid (Nat.lt_of_lt_of_le HS1.out.lt h1); clear h1 h2 h3)
  have HU1 := Lib.hid (u16_any r l false w2 HR2.out)
  have HT1 := Lib.hid (fun (w' : World) (h : Rdr w' r (rleft l false 2) (!rok l false 2)) => Take_any r (rleft l false 2) (!rok l false 2) (num (rget l false 2)) w' (by have := rleft_len l false 2; omega) h)
  have hx : (rget (rleft l false 2) (!rok l false 2) (num (rget l false 2))).length ≤ 50000 := by
    have h1 := rget_len (rleft l false 2) (!rok l false 2) (num (rget l false 2))
    have h2 := rleft_len l false 2
    omega
  have hq : (rleft (rleft l false 2) (!rok l false 2) (num (rget l false 2))).length ≤ 50000 := by
    have h1 := rleft_len (rleft l false 2) (!rok l false 2) (num (rget l false 2))
    have h2 := rleft_len l false 2
    omega
  generalize rget (rleft l false 2) (!rok l false 2) (num (rget l false 2)) = x at *
  generalize rleft (rleft l false 2) (!rok l false 2) (num (rget l false 2)) = q at *
  generalize rok (rleft l false 2) (!rok l false 2) (num (rget l false 2)) = ok at *
  generalize num (rget l false 2) = n1 at *
  generalize rleft l false 2 = l2 at *
  generalize (!rok l false 2) = b2 at *
  have HNd := Lib.hid (fun (A : Option Addr) (c : Nat) (w' : World) (h1 : A = none → c = 0) (h2 : Bs w' w'.heap.size A x) => nlri_dec A c x w' hx h1 h2)
  obtain ⟨g, hg⟩ : ∃ g, g = gOf (nlri.dec x) := ⟨_, rfl⟩
  obtain ⟨ke, hke⟩ : ∃ k, k = kOf (nlri.dec x) := ⟨_, rfl⟩
  rw [← hg, ← hke] at HNd
  have HGg := Lib.hid hg
  have HKe := Lib.hid hke
  clear hg hke
  go_upto_region 6 with (first
    | (go_at_call 21; refine HU1.out.mono ?_; rintro e w3 ⟨rfl, h1, h2⟩; have HR3 := Lib.hid h1; have HS3 := Lib.hid (HS2.out.chg (chg_of_grown h2) (fun k e => by rw [e]; exact HLr.out)); clear h1 h2)
    | (go_at_call 20; refine (HT1.out w3 HR3.out).mono ?_; rintro e w4 ⟨A4, c4, rfl, hA4, hlc, hcm, hbs, hrd, hgr⟩; have HR4 := Lib.hid hrd; have HS4 := Lib.hid (HS3.out.chg (chg_of_grown hgr) (fun k e => by rw [e]; exact HLr.out)); have HN4 := Lib.hid (HNd.out A4 c4 w4 hA4 hbs); clear hA4 hlc hcm hbs hrd hgr)
    | (go_at_call 19; refine HN4.out.mono ?_; rintro e w5 ⟨A5, c5, rfl, h1, h2⟩; have HP5 := Lib.hid h1; have HS5 := Lib.hid (HS4.out.go h2); have HR5 := Lib.hid (HR4.out.below h2 HR4.out.lt); have x0 := HS5.out.k4.cell 0; have f0 := HS5.out.k4.free 0; simp [zeroUC, upc] at x0; clear h1 h2))
  have hc6 : Chg (fun k => k = w.heap.size + 2) w5 (w5.setCell ⟨w.heap.size + 1 + 1, 0, none⟩ (.slice A5 g.length c5)) := (Chg.refl (fun k => k = w.heap.size + 2) w5).put (.inl rfl) _
  have hk6 : Bk (w5.setCell ⟨w.heap.size + 1 + 1, 0, none⟩ (.slice A5 g.length c5)) (w.heap.size + 2) 31 (upc A5 g.length c5 zeroC none 0 0).toArray := HS5.out.k4.put 0 (.slice A5 g.length c5)
  generalize w5.setCell ⟨w.heap.size + 1 + 1, 0, none⟩ (.slice A5 g.length c5) = w6 at *
  have HS6 := Lib.hid (HS5.out.upd hc6 hk6)
  have HR6 := Lib.hid (HS5.out.rdr HR5.out hc6 (nob_upc nob_zero) HLr.out)
  have HL4 := Lib.hid HS4.out.lt
  have HP6 := Lib.hid ((HP5.out.chg hc6 fun k _ hk e => by have := HL4.out; omega).mono (H := fun k => w.heap.size + 3 < k ∧ k ≠ r) fun k _ hk => by have := HL4.out; have := HR4.out.lt; omega)
  have HBd := Lib.hid (Bad_any r q (!ok) w6 HR6.out)
  clear x0 f0 hc6 hk6 HR5 HP5 HS5 HNd HN4 HU1 HT1 HR2 HR3 HS2 HS3 HS4 HR4
  rcases hp : part l with _ | ⟨x', q'⟩
  · obtain ⟨rfl, rfl⟩ := HPr.out.1 hp
    have HDe := Lib.hid (HD1.out.1 hp)
    obtain rfl : ke = 0 := HKe.out
    clear HPr HD1 hp
    go_wp2_with (first
      | (go_at_call 22; refine HBd.out.mono ?_; rintro e w' ⟨rfl, rfl⟩)
      | (go_at_call 23; refine (HWr.out _ _).mono ?_; rintro e w7 ⟨rfl, h⟩; have HS7 := Lib.hid (HS6.out.go h); clear h)
      | (refine wpList_storeBk rfl 31 (.tmp 2) (.tmp 27) rfl w.heap.size (by rfl) zeroUC.toArray (by rfl) 31 zeroUC.toArray HS7.out.k2 HSu.out rfl (by rfl) ?_; intro w8 k8 c8 l8; have K8 := Lib.hid k8; have C8 := Lib.hid c8; have Z8 := Lib.hid (HS7.out.k3.chg c8 (by omega)); have B8 := Lib.hid (HS7.out.bel.trans (c8.below (fun k e => Nat.le_of_eq e.symm) HS7.out.bel.size)); clear k8 c8 l8)
      | (refine wpList_storeBk rfl 33 (.tmp 3) (.tmp 28) rfl (w.heap.size + 1) (by rfl) (nt 3 1 none 0 0).toArray (by rfl) 33 zeroN.toArray Z8.out HSn.out rfl (by rfl) ?_; intro w9 k9 c9 l9; have K9 := Lib.hid k9; have B9 := Lib.hid (B8.out.trans (c9.below (fun k e => by omega) B8.out.size)); have K10 := Lib.hid (K8.out.chg c9 (by omega)); clear k9 c9 l9))
    refine bodyPost_ret (res_cc rfl _ _ w.heap.size (w.heap.size + 1) 31 33 zeroUC.toArray (nt 3 1 none 0 0).toArray (0, 0) (0, 0) _ _ rfl K10.out Tryz.underlying31 rfl HSu.out rfl K9.out Tryz.underlying33 rfl HSn.out) rfl (HQ1.out 1 _ HDe.out B9.out)
  · obtain ⟨rfl, rfl, rfl⟩ := HPr.out.2 x' q' hp
    rcases hd : nlri.dec x with _ | gg
    · have HDe := Lib.hid (HD1.out.2.1 x q hp hd)
      obtain rfl : ke = 2 := by rw [HKe.out, hd]; rfl
      clear HPr HD1 hp hd
      go_wp2_with (first
        | (go_at_call 22; refine HBd.out.mono ?_; rintro e w' ⟨rfl, rfl⟩)
        | (go_at_call 23; refine (HWr.out _ _).mono ?_; rintro e w7 ⟨rfl, h⟩; have HS7 := Lib.hid (HS6.out.go h); clear h)
        | (refine wpList_storeBk rfl 31 (.tmp 2) (.tmp 27) rfl w.heap.size (by rfl) zeroUC.toArray (by rfl) 31 zeroUC.toArray HS7.out.k2 HSu.out rfl (by rfl) ?_; intro w8 k8 c8 l8; have K8 := Lib.hid k8; have C8 := Lib.hid c8; have Z8 := Lib.hid (HS7.out.k3.chg c8 (by omega)); have B8 := Lib.hid (HS7.out.bel.trans (c8.below (fun k e => Nat.le_of_eq e.symm) HS7.out.bel.size)); clear k8 c8 l8)
        | (refine wpList_storeBk rfl 33 (.tmp 3) (.tmp 28) rfl (w.heap.size + 1) (by rfl) (nt 3 1 none 0 0).toArray (by rfl) 33 zeroN.toArray Z8.out HSn.out rfl (by rfl) ?_; intro w9 k9 c9 l9; have K9 := Lib.hid k9; have B9 := Lib.hid (B8.out.trans (c9.below (fun k e => by omega) B8.out.size)); have K10 := Lib.hid (K8.out.chg c9 (by omega)); clear k9 c9 l9))
      refine bodyPost_ret (res_cc rfl _ _ w.heap.size (w.heap.size + 1) 31 33 zeroUC.toArray (nt 3 1 none 0 0).toArray (0, 0) (0, 0) _ _ rfl K10.out Tryz.underlying31 rfl HSu.out rfl K9.out Tryz.underlying33 rfl HSn.out) rfl (HQ1.out 1 _ HDe.out B9.out)
    · obtain rfl : g = gg := by rw [HGg.out, hd]; rfl
      obtain rfl : ke = 0 := by rw [HKe.out, hd]; rfl
      have HDb := Lib.hid (HD1.out.2.2 x q g hp hd)
      clear HPr HD1 hp hd HGg HKe
      go_upto_region 8 with (go_at_call 22; refine HBd.out.mono ?_; rintro e w' ⟨rfl, rfl⟩)
      have HR7 : Hid (Rdr w6 r q false) := HR6.out
      have HU2 := Lib.hid (u16_any r q false w6 HR7.out)
      have HT2 := Lib.hid (fun (w' : World) (h : Rdr w' r (rleft q false 2) (!rok q false 2)) => Take_any r (rleft q false 2) (!rok q false 2) (num (rget q false 2)) w' (by have := rleft_len q false 2; omega) h)
      have HPr := Lib.hid (part_read q)
      have hy : (rget (rleft q false 2) (!rok q false 2) (num (rget q false 2))).length ≤ 50000 := by
        have h1 := rget_len (rleft q false 2) (!rok q false 2) (num (rget q false 2))
        have h2 := rleft_len q false 2
        omega
      have hq2 : (rleft (rleft q false 2) (!rok q false 2) (num (rget q false 2))).length ≤ 50000 := by
        have h1 := rleft_len (rleft q false 2) (!rok q false 2) (num (rget q false 2))
        have h2 := rleft_len q false 2
        omega
      generalize rget (rleft q false 2) (!rok q false 2) (num (rget q false 2)) = y at *
      generalize rleft (rleft q false 2) (!rok q false 2) (num (rget q false 2)) = q2 at *
      generalize rok (rleft q false 2) (!rok q false 2) (num (rget q false 2)) = ok2 at *
      generalize num (rget q false 2) = n2 at *
      generalize rleft q false 2 = l3 at *
      generalize (!rok q false 2) = b3 at *
      clear HR6 HBd
      go_upto_region 9 with (first
        | (go_at_call 21; refine HU2.out.mono ?_; rintro e w8 ⟨rfl, h1, h2⟩; have HR8 := Lib.hid h1; have HS8 := Lib.hid (HS6.out.chg (chg_of_grown h2) (fun k e => by rw [e]; exact HLr.out)); have HP8 := Lib.hid (HP6.out.chg (chg_of_grown h2) (fun k _ hk e => hk.2 e)); clear h1 h2)
        | (go_at_call 20; refine (HT2.out w8 HR8.out).mono ?_; rintro e w9 ⟨A9, c9, rfl, hA9, hlc, hcm, hbs, hrd, hgr⟩; have HR9 := Lib.hid hrd; have HS9 := Lib.hid (HS8.out.chg (chg_of_grown hgr) (fun k e => by rw [e]; exact HLr.out)); have HP9 := Lib.hid (HP8.out.chg (chg_of_grown hgr) (fun k _ hk e => hk.2 e)); have HA9 := Lib.hid (And.intro hA9 hbs); clear hA9 hlc hcm hbs hrd hgr))
      clear HS6 HP6 HR7 HU2 HT2 HR8 HS8 HP8
      have HBd := Lib.hid (Bad_any r q2 (!ok2) w9 HR9.out)
      rcases hp : part q with _ | ⟨x', q'⟩
      · obtain ⟨rfl, rfl⟩ := HPr.out.1 hp
        have HDe : Hid (D = .err 1 []) := by rw [Hid, HDb.out]; unfold updB; rw [hp]
        clear HPr hp
        go_wp2_with (first
          | (go_at_call 22; refine HBd.out.mono ?_; rintro e w' ⟨rfl, rfl⟩)
          | (go_at_call 23; refine (HWr.out _ _).mono ?_; rintro e w7 ⟨rfl, h⟩; have HS7 := Lib.hid (HS9.out.go h); clear h)
          | (refine wpList_storeBk rfl 31 (.tmp 2) (.tmp 36) rfl w.heap.size (by rfl) zeroUC.toArray (by rfl) 31 zeroUC.toArray HS7.out.k2 HSu.out rfl (by rfl) ?_; intro w8 k8 c8 l8; have K8 := Lib.hid k8; have C8 := Lib.hid c8; have Z8 := Lib.hid (HS7.out.k3.chg c8 (by omega)); have B8 := Lib.hid (HS7.out.bel.trans (c8.below (fun k e => Nat.le_of_eq e.symm) HS7.out.bel.size)); clear k8 c8 l8)
          | (refine wpList_storeBk rfl 33 (.tmp 3) (.tmp 37) rfl (w.heap.size + 1) (by rfl) (nt 3 1 none 0 0).toArray (by rfl) 33 zeroN.toArray Z8.out HSn.out rfl (by rfl) ?_; intro w9 k9 c9 l9; have K9 := Lib.hid k9; have B9 := Lib.hid (B8.out.trans (c9.below (fun k e => by omega) B8.out.size)); have K10 := Lib.hid (K8.out.chg c9 (by omega)); clear k9 c9 l9))
        refine bodyPost_ret (res_cc rfl _ _ w.heap.size (w.heap.size + 1) 31 33 zeroUC.toArray (nt 3 1 none 0 0).toArray (0, 0) (0, 0) _ _ rfl K10.out Tryz.underlying31 rfl HSu.out rfl K9.out Tryz.underlying33 rfl HSn.out) rfl (HQ1.out 1 _ HDe.out B9.out)
      · obtain ⟨rfl, rfl, rfl⟩ := HPr.out.2 x' q' hp
        have HDc : Hid ((∀ s d, decS y = .err s d → D = .err s d) ∧ (∀ a, decS y = .ok a → D = updC g a q2)) := by
          rw [Hid, HDb.out]
          unfold updB
          rw [hp]
          dsimp only
          exact ⟨fun s d h => by rw [h], fun a h => by rw [h]⟩
        have HDa := Lib.hid (attr.Decode_any A9 c9 y w9 hy HA9.out.1 HA9.out.2)
        clear HPr hp HDb
        go_upto_region 11 with (go_at_call 22; refine HBd.out.mono ?_; rintro e w' ⟨rfl, rfl⟩)
        rcases hd : decS y with a | ⟨s, d⟩
        · have HDe := Lib.hid (HDc.out.2 a hd)
          rw [hd] at HDa
          clear HDc hd
          go_upto_region 12 with (first
            | (go_at_call 24; refine HDa.out.mono ?_; rintro e w10 ⟨Ap, cp, Ac, cc, rfl, h1, h⟩; have HA10 := Lib.hid h1; have HS10 := Lib.hid (HS9.out.go h); have HR10 := Lib.hid (HR9.out.below h HR9.out.lt); have HP10 := Lib.hid (HP9.out.bel h); have HA10r := Lib.hid (Nat.lt_of_lt_of_le HR9.out.lt (Nat.le_refl _)); clear h1 h)
            | (refine wpList_storeMid rfl 29 (.tmp 43) (.tmp 41) rfl (w.heap.size + 2) 1 (by rfl) (atc a Ap cp Ac cc) (by rfl) 31 [.slice A5 g.length c5] zeroC [.slice none 0 0] HS10.out.k4 rfl HSz.out rfl atc_one ?_; intro w11 k11 c11 l11; have HS11 := Lib.hid (HS10.out.upd (uc' := upc A5 g.length c5 (atc a Ap cp Ac cc) none 0 0) c11 k11); have C11 := Lib.hid c11; clear k11 c11 l11)
            | (refine wpList_storeBk rfl 33 (.tmp 6) (.tmp 42) rfl (w.heap.size + 3) (by rfl) zeroN.toArray (by rfl) 33 zeroN.toArray HS11.out.k6 HSn.out rfl (by rfl) ?_; intro w12 k12 c12 l12; have HS12 := Lib.hid (HS11.out.not (nc' := zeroN) c12 k12); have C12 := Lib.hid c12; clear k12 c12 l12))
          have HL9 := HS9.out.lt
          have HA10r' := HA10r.out
          have HR12 := Lib.hid (HS11.out.rdrN (HS10.out.rdr HR10.out C11.out (nob_upc nob_zero) HLr.out) C12.out nob_zeroN HLr.out)
          have HA12 := Lib.hid (((HA10.out.chg C11.out fun k _ hk e => by omega).chg C12.out fun k _ hk e => by omega).mono (H := fun k => w.heap.size + 3 < k ∧ k ≠ r) fun k _ hk => by omega)
          have HP12 := Lib.hid ((HP10.out.chg C11.out fun k _ hk e => by omega).chg C12.out fun k _ hk e => by omega)
          clear HR9 HS9 HP9 HA9 HA10 HS10 HR10 HP10 HS11 C11 C12 HL9 HA10r HA10r' HBd HDa
          have x0 := HS12.out.k6.cell 0
          simp [zeroN] at x0
          go_upto_region 14 with fail
          clear x0
          have HLf := Lib.hid (Left_any r q2 false w12 HR12.out)
          have hatl : (atc a Ap cp Ac cc).length = 9 := rfl
          rcases Nat.eq_zero_or_pos q2.length with h0 | hpos
          · have HDu : Hid (D = .ok ⟨g, zeroA, []⟩) := by rw [Hid, HDe.out]; unfold updC; rw [if_pos h0]
            rw [h0] at HLf
            clear HDe h0
            go_upto_region 15 with (go_at_call 25; refine HLf.out.mono ?_; rintro e w' ⟨rfl, rfl⟩)
            refine wp_region_lit ?_
            go_upto_region 16 with (refine wpList_storeMid rfl 29 (.tmp 53) (.tmp 52) rfl (w.heap.size + 2) 1 (by rfl) zeroC (by rfl) 31 [.slice A5 g.length c5] (atc a Ap cp Ac cc) [.slice none 0 0] HS12.out.k4 rfl HSz.out hatl zero_one ?_; intro w13 k13 c13 l13; have HS13 := Lib.hid (HS12.out.upd (uc' := upc A5 g.length c5 zeroC none 0 0) c13 k13); have HP13 := Lib.hid (HP12.out.chg c13 fun k _ hk e => by omega); clear k13 c13 l13)
            refine region_mv (S := fun w' => Bk w' (w.heap.size + 2) 31 (upc A5 g.length c5 zeroC none 0 0).toArray ∧ Bk w' (w.heap.size + 3) 33 zeroN.toArray) (A := List.range 4) (sq := [.p 0, .p 1, .c 2, .c 3]) (by kernel_rfl) (by kernel_rfl) ?_ (fun hHeld => ?_)
            · exact ⟨HS13.out.k4.drew, HS13.out.k6.drew⟩
            repeat ((with_reducible refine mv_at ?_); (first
              | (refine ⟨_, .agg (upc A5 g.length c5 zeroC none 0 0).toArray, rfl, yieldsIf_load_mid (by rfl) 31 (.tmp 4) rfl (w.heap.size + 2) 0 (by rfl) (upc A5 g.length c5 zeroC none 0 0) _ (fun w h => (h.1).all) Tryz.underlying31 (by rfl) HSu.out, ?_⟩)
              | (refine ⟨_, .agg zeroN.toArray, rfl, yieldsIf_load_mid (by rfl) 33 (.tmp 6) rfl (w.heap.size + 3) 0 (by rfl) zeroN _ (fun w h => (h.2).all) Tryz.underlying33 (by rfl) HSn.out, ?_⟩)
              | (refine ⟨_, ?_, rfl, Or.inl ⟨by rfl, ?_⟩, ?_⟩; rotate_left; · (intro w hSw; (try dsimp only at hSw); go_simp <;> with_reducible rfl))
              | (refine ⟨_, undef, rfl, Or.inr ⟨by rfl, rfl⟩, ?_⟩)); try simp only [Act.put, List.getElem_toArray, List.getElem_cons_succ, List.getElem_cons_zero, List.setIfInBounds_toArray, List.set_cons_zero, List.set_cons_succ])
            refine mv_c (o := _) rfl (fun K hK => ?_)
            refine wp_storeBk 31 (.tmp 2) (.tmp 54) rfl w.heap.size (by rfl) (upc A5 g.length c5 zeroC none 0 0).toArray (by rfl) 31 zeroUC.toArray HS13.out.k2.drew HSu.out rfl (by rfl) ?_
            intro w14 k14 c14 l14
            refine hK.out _ _ ?_ (fun hHeld => ?_)
            · exact ⟨HS13.out.k4.drew.chg c14 (by omega), HS13.out.k6.drew.chg c14 (by omega)⟩
            clear hK K
            try simp only [Act.put, List.getElem_toArray, List.getElem_cons_succ, List.getElem_cons_zero, List.setIfInBounds_toArray, List.set_cons_zero, List.set_cons_succ]
            refine mv_c (o := _) rfl (fun K hK => ?_)
            refine wp_storeBk 33 (.tmp 3) (.tmp 55) rfl (w.heap.size + 1) (by rfl) zeroN.toArray (by rfl) 33 zeroN.toArray (HS13.out.k3.drew.chg c14 (by omega)) HSn.out rfl (by rfl) ?_
            intro w15 k15 c15 l15
            refine hK.out _ _ ?_ (fun hHeld => ?_)
            · exact ⟨(HS13.out.k4.drew.chg c14 (by omega)).chg c15 (by omega), (HS13.out.k6.drew.chg c14 (by omega)).chg c15 (by omega)⟩
            clear hK K
            try simp only [Act.put, List.getElem_toArray, List.getElem_cons_succ, List.getElem_cons_zero, List.setIfInBounds_toArray, List.set_cons_zero, List.set_cons_succ]
            refine mv_end ?_
            have K15 := Lib.hid (k14.chg c15 (by omega))
            have K16 := Lib.hid k15
            have HB14 := HS13.out.bel.drew.trans (c14.below (fun k e => Nat.le_of_eq e.symm) HS13.out.bel.drew.size)
            have HB15 := Lib.hid (HB14.trans (c15.below (fun k e => by omega) HB14.size))
            have C14 := Lib.hid c14
            have C15 := Lib.hid c15
            clear k14 c14 l14 k15 c15 l15 HB14
            go_wp2_with fail
            refine bodyPost_ret (res_cc rfl _ _ w.heap.size (w.heap.size + 1) 31 33 (upc A5 g.length c5 zeroC none 0 0).toArray zeroN.toArray (0, 0) (0, 0) _ _ rfl K15.out Tryz.underlying31 rfl HSu.out rfl K16.out Tryz.underlying33 rfl HSn.out) rfl (HQ3.out ⟨g, zeroA, []⟩ A5 c5 none 0 none 0 none 0 _ HDu.out ⟨(((HP13.out.bel (Below.refl _ _).drew).chg C14.out fun k _ hk e => by omega).chg C15.out fun k _ hk e => by omega).mono fun k _ hk => by omega, Am.zero _ _, Pw.nil_ _ _⟩ HB15.out)
          · have dz : ((q2.length : Int) == 0) = false := by rw [beq_eq_false_iff_ne]; omega
            have hne : ¬ q2.length = 0 := by omega
            have HWl := Lib.hid (fun (w' : World) => Well_any a Ap Ac cp cc w')
            unfold RetN at HWl
            have HDm : Hid (missK a.has ≠ 0 → D = .err 3 [UInt8.ofNat (missK a.has)]) := fun h => by rw [HDe.out]; unfold updC; rw [if_neg hne, if_pos h]
            have HDn : Hid (missK a.has = 0 → (nlri.dec q2 = none → D = .err 10 []) ∧ (∀ h, nlri.dec q2 = some h → D = .ok ⟨g, a, h⟩)) := fun h => by
              rw [HDe.out]
              unfold updC
              rw [if_neg hne, if_neg (by omega)]
              exact ⟨fun h2 => by rw [h2], fun h3 h2 => by rw [h2]⟩
            clear HDe hpos hne
            generalize missK a.has = mk at *
            go_upto_region 18 with (first
              | (go_at_call 25; refine HLf.out.mono ?_; rintro e w' ⟨rfl, rfl⟩)
              | (refine wpList_loadMid rfl 29 (.tmp 56) rfl (w.heap.size + 2) 1 (by rfl) 31 [.slice A5 g.length c5] (atc a Ap cp Ac cc) [.slice none 0 0] _ HS12.out.k4 rfl Tryz.underlying29 (by rfl) HSz.out ?_)
              | (go_at_call 26; refine (HWl.out _).mono ?_; rintro e w13 ⟨An, cn, rfl, h1, h⟩; have HN13 := Lib.hid h1; have HS13 := Lib.hid (HS12.out.go h); have HR13 := Lib.hid (HR12.out.below h HR12.out.lt); have HP13 := Lib.hid (HP12.out.bel h); have HA13 := Lib.hid (HA12.out.bel h); clear h1 h)
              | (refine wpList_storeBk rfl 33 (.tmp 6) (.tmp 58) rfl (w.heap.size + 3) (by rfl) (nt (missC mk) (missC mk) An (missD mk).length cn).toArray (by rfl) 33 zeroN.toArray HS13.out.k6 HSn.out rfl (by rfl) ?_; intro w14 k14 c14 l14; have HS14 := Lib.hid (HS13.out.not (nc' := nt (missC mk) (missC mk) An (missD mk).length cn) c14 k14); have C14 := Lib.hid c14; clear k14 c14 l14))
            have HL12 := HS12.out.lt
            have HLr12 := HR12.out.lt
            have HR14 := Lib.hid (HS13.out.rdrN HR13.out C14.out nob_zeroN HLr.out)
            have HP14 := Lib.hid (HP13.out.chg C14.out fun k _ hk e => by omega)
            have HA14 := Lib.hid (HA13.out.chg C14.out fun k _ hk e => by omega)
            have HN14 := Lib.hid ((HN13.out.chg C14.out fun k _ hk e => by omega).mono (H := fun k => w.heap.size + 3 < k ∧ k ≠ r) fun k _ hk => by omega)
            clear HR12 HS12 HP12 HA12 HR13 HS13 HP13 HA13 HN13 C14 HL12 HLr12 HLf HWl
            have x0 := HS14.out.k6.cell 0
            simp [nt] at x0
            by_cases hm : mk = 0
            · have HDe := Lib.hid (HDn.out hm)
              obtain ⟨e1, e2⟩ : missC mk = 0 ∧ missD mk = [] := ⟨by unfold missC; rw [if_pos hm], by unfold missD; rw [if_pos hm]⟩
              rw [e1, e2] at HS14
              rw [e1] at x0 ⊢
              rw [e2] at ⊢
              rw [e2] at HN14
              clear e1 e2 HDm HDn hm
              have hl0 : ([] : List UInt8).length = 0 := rfl
              rw [hl0] at HS14 ⊢
              clear hl0
              obtain ⟨e1, e2⟩ := rest_read q2
              have HRs := Rest_any r q2 false w14 (by omega) HR14.out
              rw [e1, e2] at HRs
              have HRx := Lib.hid HRs
              clear e1 e2 HRs
              have HNd := Lib.hid (fun (A : Option Addr) (c : Nat) (w' : World) (h1 : A = none → c = 0) (h2 : Bs w' w'.heap.size A q2) => nlri_dec A c q2 w' hq2 h1 h2)
              obtain ⟨g2, hg⟩ : ∃ g, g = gOf (nlri.dec q2) := ⟨_, rfl⟩
              obtain ⟨k2, hke⟩ : ∃ k, k = kOf (nlri.dec q2) := ⟨_, rfl⟩
              rw [← hg, ← hke] at HNd
              have HGg := Lib.hid hg
              have HKe := Lib.hid hke
              clear hg hke
              go_upto_region 21 with (first
                | (go_at_call 27; refine HRx.out.mono ?_; rintro e w15 ⟨A15, c15, rfl, hA15, hlc, hcm, hbs, hrd, hgr⟩; have HS15 := Lib.hid (HS14.out.chg (chg_of_grown hgr) (fun k e => by rw [e]; exact HLr.out)); have HP15 := Lib.hid (HP14.out.chg (chg_of_grown hgr) (fun k _ hk e => hk.2 e)); have HA15 := Lib.hid (HA14.out.chg (chg_of_grown hgr) (fun k _ hk e => hk.2 e)); have HN15 := Lib.hid (HNd.out A15 c15 w15 hA15 hbs); have HNa15 := Lib.hid (HN14.out.chg (chg_of_grown hgr) (fun k _ hk e => by rw [e] at hk; exact hk.2 rfl)); clear hA15 hlc hcm hbs hrd hgr)
                | (go_at_call 19; refine HN15.out.mono ?_; rintro e w16 ⟨A16, c16, rfl, h1, h⟩; have HH16 := Lib.hid h1; have HS16 := Lib.hid (HS15.out.go h); have HP16 := Lib.hid (HP15.out.bel h); have HA16 := Lib.hid (HA15.out.bel h); have HNa16 := Lib.hid (HNa15.out.bel h); have y0 := HS16.out.k4.cell 10; have f0 := HS16.out.k4.free 10; simp [upc, atc] at y0; clear h1 h))
              have hc17 : Chg (fun k => k = w.heap.size + 2) w16 (w16.setCell ⟨w.heap.size + 1 + 1, 10, none⟩ (.slice A16 g2.length c16)) := (Chg.refl (fun k => k = w.heap.size + 2) w16).put (.inl rfl) _
              have hk17 : Bk (w16.setCell ⟨w.heap.size + 1 + 1, 10, none⟩ (.slice A16 g2.length c16)) (w.heap.size + 2) 31 (upc A5 g.length c5 (atc a Ap cp Ac cc) A16 g2.length c16).toArray := HS16.out.k4.put 10 (.slice A16 g2.length c16)
              generalize w16.setCell ⟨w.heap.size + 1 + 1, 10, none⟩ (.slice A16 g2.length c16) = w17 at *
              have HS17 := Lib.hid (HS16.out.upd hc17 hk17)
              have HL15 := HS15.out.lt
              have HP17 := Lib.hid (HP16.out.chg hc17 fun k _ hk e => by omega)
              have HA17 := Lib.hid (HA16.out.chg hc17 fun k _ hk e => by omega)
              have HNa17 := Lib.hid (HNa16.out.chg hc17 fun k _ hk e => by omega)
              have HH17 := Lib.hid ((HH16.out.chg hc17 fun k _ hk e => by omega).mono (H := fun k => w.heap.size + 3 < k) fun k _ hk => by omega)
              clear y0 f0 hc17 hk17 HS14 HS15 HS16 HP14 HP15 HP16 HA14 HA15 HA16 HH16 HN15 HNd HRx HR14 HL15 x0
              rcases hd : nlri.dec q2 with _ | gg
              · have HDf := Lib.hid (HDe.out.1 hd)
                obtain rfl : k2 = 2 := by rw [HKe.out, hd]; rfl
                clear HDe hd HGg HKe
                go_wp2_with (first
                  | (go_at_call 23; refine (HWr.out _ _).mono ?_; rintro e w7 ⟨rfl, h⟩; have HS7 := Lib.hid (HS17.out.go h); clear h)
                  | (refine wpList_storeBk rfl 31 (.tmp 2) (.tmp 74) rfl w.heap.size (by rfl) zeroUC.toArray (by rfl) 31 zeroUC.toArray HS7.out.k2 HSu.out rfl (by rfl) ?_; intro w8 k8 c8 l8; have K8 := Lib.hid k8; have C8 := Lib.hid c8; have Z8 := Lib.hid (HS7.out.k3.chg c8 (by omega)); have B8 := Lib.hid (HS7.out.bel.trans (c8.below (fun k e => Nat.le_of_eq e.symm) HS7.out.bel.size)); clear k8 c8 l8)
                  | (refine wpList_storeBk rfl 33 (.tmp 3) (.tmp 75) rfl (w.heap.size + 1) (by rfl) (nt 3 10 none 0 0).toArray (by rfl) 33 zeroN.toArray Z8.out HSn.out rfl (by rfl) ?_; intro w9 k9 c9 l9; have K9 := Lib.hid k9; have B9 := Lib.hid (B8.out.trans (c9.below (fun k e => by omega) B8.out.size)); have K10 := Lib.hid (K8.out.chg c9 (by omega)); clear k9 c9 l9))
                refine bodyPost_ret (res_cc rfl _ _ w.heap.size (w.heap.size + 1) 31 33 zeroUC.toArray (nt 3 10 none 0 0).toArray (0, 0) (0, 0) _ _ rfl K10.out Tryz.underlying31 rfl HSu.out rfl K9.out Tryz.underlying33 rfl HSn.out) rfl (HQ1.out 10 _ HDf.out B9.out)
              · obtain rfl : g2 = gg := by rw [HGg.out, hd]; rfl
                obtain rfl : k2 = 0 := by rw [HKe.out, hd]; rfl
                have HDf := Lib.hid (HDe.out.2 g2 hd)
                clear HDe hd HGg HKe
                go_upto_region 23 with fail
                refine region_mv (S := fun w' => Bk w' (w.heap.size + 2) 31 (upc A5 g.length c5 (atc a Ap cp Ac cc) A16 g2.length c16).toArray ∧ Bk w' (w.heap.size + 3) 33 (nt 0 0 An 0 cn).toArray) (A := List.range 4) (sq := [.p 0, .p 1, .c 2, .c 3]) (by kernel_rfl) (by kernel_rfl) ?_ (fun hHeld => ?_)
                · exact ⟨HS17.out.k4.drew, HS17.out.k6.drew⟩
                repeat ((with_reducible refine mv_at ?_); (first
                  | (refine ⟨_, .agg (upc A5 g.length c5 (atc a Ap cp Ac cc) A16 g2.length c16).toArray, rfl, yieldsIf_load_mid (by rfl) 31 (.tmp 4) rfl (w.heap.size + 2) 0 (by rfl) (upc A5 g.length c5 (atc a Ap cp Ac cc) A16 g2.length c16) _ (fun w h => (h.1).all) Tryz.underlying31 (by rfl) HSu.out, ?_⟩)
                  | (refine ⟨_, .agg (nt 0 0 An 0 cn).toArray, rfl, yieldsIf_load_mid (by rfl) 33 (.tmp 6) rfl (w.heap.size + 3) 0 (by rfl) (nt 0 0 An 0 cn) _ (fun w h => (h.2).all) Tryz.underlying33 (by rfl) HSn.out, ?_⟩)
                  | (refine ⟨_, ?_, rfl, Or.inl ⟨by rfl, ?_⟩, ?_⟩; rotate_left; · (intro w hSw; (try dsimp only at hSw); go_simp <;> with_reducible rfl))
                  | (refine ⟨_, undef, rfl, Or.inr ⟨by rfl, rfl⟩, ?_⟩)); try simp only [Act.put, List.getElem_toArray, List.getElem_cons_succ, List.getElem_cons_zero, List.setIfInBounds_toArray, List.set_cons_zero, List.set_cons_succ])
                refine mv_c (o := _) rfl (fun K hK => ?_)
                refine wp_storeBk 31 (.tmp 2) (.tmp 76) rfl w.heap.size (by rfl) (upc A5 g.length c5 (atc a Ap cp Ac cc) A16 g2.length c16).toArray (by rfl) 31 zeroUC.toArray HS17.out.k2.drew HSu.out rfl (by rfl) ?_
                intro w14 k14 c14 l14
                refine hK.out _ _ ?_ (fun hHeld => ?_)
                · exact ⟨HS17.out.k4.drew.chg c14 (by omega), HS17.out.k6.drew.chg c14 (by omega)⟩
                clear hK K
                try simp only [Act.put, List.getElem_toArray, List.getElem_cons_succ, List.getElem_cons_zero, List.setIfInBounds_toArray, List.set_cons_zero, List.set_cons_succ]
                refine mv_c (o := _) rfl (fun K hK => ?_)
                refine wp_storeBk 33 (.tmp 3) (.tmp 77) rfl (w.heap.size + 1) (by rfl) (nt 0 0 An 0 cn).toArray (by rfl) 33 zeroN.toArray (HS17.out.k3.drew.chg c14 (by omega)) HSn.out rfl (by rfl) ?_
                intro w15 k15 c15 l15
                refine hK.out _ _ ?_ (fun hHeld => ?_)
                · exact ⟨(HS17.out.k4.drew.chg c14 (by omega)).chg c15 (by omega), (HS17.out.k6.drew.chg c14 (by omega)).chg c15 (by omega)⟩
                clear hK K
                try simp only [Act.put, List.getElem_toArray, List.getElem_cons_succ, List.getElem_cons_zero, List.setIfInBounds_toArray, List.set_cons_zero, List.set_cons_succ]
                refine mv_end ?_
                have K15 := Lib.hid (k14.chg c15 (by omega))
                have K16 := Lib.hid k15
                have HB14 := HS17.out.bel.drew.trans (c14.below (fun k e => Nat.le_of_eq e.symm) HS17.out.bel.drew.size)
                have HB15 := Lib.hid (HB14.trans (c15.below (fun k e => by omega) HB14.size))
                have C14 := Lib.hid c14
                have C15 := Lib.hid c15
                clear k14 c14 l14 k15 c15 l15 HB14
                go_wp2_with fail
                refine bodyPost_ret (res_cc rfl _ _ w.heap.size (w.heap.size + 1) 31 33 (upc A5 g.length c5 (atc a Ap cp Ac cc) A16 g2.length c16).toArray (nt 0 0 An 0 cn).toArray (0, 0) (0, 0) _ _ rfl K15.out Tryz.underlying31 rfl HSu.out rfl K16.out Tryz.underlying33 rfl HSn.out) rfl (HQ4.out ⟨g, a, g2⟩ A5 c5 Ap cp Ac cc A16 c16 An cn _ HDf.out ⟨(((HP17.out.bel (Below.refl _ _).drew).chg C14.out fun k _ hk e => by omega).chg C15.out fun k _ hk e => by omega).mono fun k _ hk => by omega, (((HA17.out.bel (Below.refl _ _).drew).chg C14.out fun k _ hk e => by omega).chg C15.out fun k _ hk e => by omega).mono fun k _ hk => by omega, (((HH17.out.bel (Below.refl _ _).drew).chg C14.out fun k _ hk e => by omega).chg C15.out fun k _ hk e => by omega).mono fun k _ hk => by omega⟩ ((((HNa17.out.bel (Below.refl _ _).drew).chg C14.out fun k _ hk e => by omega).chg C15.out fun k _ hk e => by omega).mono fun k _ hk => by omega) HB15.out)
            · have HDe := Lib.hid (HDm.out hm)
              obtain ⟨e1, e2⟩ : missC mk = 3 ∧ missD mk = [UInt8.ofNat mk] := ⟨by unfold missC; rw [if_neg hm], by unfold missD; rw [if_neg hm]⟩
              rw [e1, e2] at HS14
              rw [e2] at HN14
              rw [e1] at x0 ⊢
              rw [e2] at ⊢
              clear e1 e2 HDm HDn hm
              have hl1 : ([UInt8.ofNat mk] : List UInt8).length = 1 := rfl
              rw [hl1] at HS14 ⊢
              clear hl1
              go_upto_region 19 with fail
              refine region_mv (S := fun w' => Bk w' (w.heap.size + 3) 33 (nt 3 3 An 1 cn).toArray) (A := List.range 4) (sq := [.p 0, .p 1, .c 2, .c 3]) (by kernel_rfl) (by kernel_rfl) ?_ (fun hHeld => ?_)
              · exact HS14.out.k6.drew
              repeat ((with_reducible refine mv_at ?_); (first
                | (refine ⟨_, .agg (nt 3 3 An 1 cn).toArray, rfl, yieldsIf_load_mid (by rfl) 33 (.tmp 6) rfl (w.heap.size + 3) 0 (by rfl) (nt 3 3 An 1 cn) _ (fun w h => (h).all) Tryz.underlying33 (by rfl) HSn.out, ?_⟩)
                | (refine ⟨_, ?_, rfl, Or.inl ⟨by rfl, ?_⟩, ?_⟩; rotate_left; · (intro w hSw; (try dsimp only at hSw); go_simp <;> with_reducible rfl))
                | (refine ⟨_, undef, rfl, Or.inr ⟨by rfl, rfl⟩, ?_⟩)); try simp only [Act.put, List.getElem_toArray, List.getElem_cons_succ, List.getElem_cons_zero, List.setIfInBounds_toArray, List.set_cons_zero, List.set_cons_succ])
              refine mv_c (o := _) rfl (fun K hK => ?_)
              refine wp_storeBk 31 (.tmp 2) (.tmp 62) rfl w.heap.size (by rfl) zeroUC.toArray (by rfl) 31 zeroUC.toArray HS14.out.k2.drew HSu.out rfl (by rfl) ?_
              intro w14 k14 c14 l14
              refine hK.out _ _ ?_ (fun hHeld => ?_)
              · exact HS14.out.k6.drew.chg c14 (by omega)
              clear hK K
              try simp only [Act.put, List.getElem_toArray, List.getElem_cons_succ, List.getElem_cons_zero, List.setIfInBounds_toArray, List.set_cons_zero, List.set_cons_succ]
              refine mv_c (o := _) rfl (fun K hK => ?_)
              refine wp_storeBk 33 (.tmp 3) (.tmp 63) rfl (w.heap.size + 1) (by rfl) (nt 3 3 An 1 cn).toArray (by rfl) 33 zeroN.toArray (HS14.out.k3.drew.chg c14 (by omega)) HSn.out rfl (by rfl) ?_
              intro w15 k15 c15 l15
              refine hK.out _ _ ?_ (fun hHeld => ?_)
              · exact (HS14.out.k6.drew.chg c14 (by omega)).chg c15 (by omega)
              clear hK K
              try simp only [Act.put, List.getElem_toArray, List.getElem_cons_succ, List.getElem_cons_zero, List.setIfInBounds_toArray, List.set_cons_zero, List.set_cons_succ]
              refine mv_end ?_
              have K15 := Lib.hid (k14.chg c15 (by omega))
              have K16 := Lib.hid k15
              have HB14 := HS14.out.bel.drew.trans (c14.below (fun k e => Nat.le_of_eq e.symm) HS14.out.bel.drew.size)
              have HB15 := Lib.hid (HB14.trans (c15.below (fun k e => by omega) HB14.size))
              have C14 := Lib.hid c14
              have C15 := Lib.hid c15
              clear k14 c14 l14 k15 c15 l15 HB14
              go_wp2_with fail
              refine bodyPost_ret (res_cc rfl _ _ w.heap.size (w.heap.size + 1) 31 33 zeroUC.toArray (nt 3 3 An 1 cn).toArray (0, 0) (0, 0) _ _ rfl K15.out Tryz.underlying31 rfl HSu.out rfl K16.out Tryz.underlying33 rfl HSn.out) rfl (HQ2.out 3 [UInt8.ofNat mk] An cn _ HDe.out ((((HN14.out.bel (Below.refl _ _).drew).chg C14.out fun k _ hk e => by omega).chg C15.out fun k _ hk e => by omega).mono fun k _ hk => by omega) HB15.out)
        · have HDe := Lib.hid (HDc.out.1 s d hd)
          rw [hd] at HDa
          clear HDc hd
          go_upto_region 12 with (first
            | (go_at_call 24; refine HDa.out.mono ?_; rintro e w10 ⟨An, cn, rfl, h1, h⟩; have HN10 := Lib.hid h1; have HS10 := Lib.hid (HS9.out.go h); clear h1 h)
            | (refine wpList_storeMid rfl 29 (.tmp 43) (.tmp 41) rfl (w.heap.size + 2) 1 (by rfl) zeroC (by rfl) 31 [.slice A5 g.length c5] zeroC [.slice none 0 0] HS10.out.k4 rfl HSz.out rfl zero_one ?_; intro w11 k11 c11 l11; have HS11 := Lib.hid (HS10.out.upd (uc' := upc A5 g.length c5 zeroC none 0 0) c11 k11); have C11 := Lib.hid c11; clear k11 c11 l11)
            | (refine wpList_storeBk rfl 33 (.tmp 6) (.tmp 42) rfl (w.heap.size + 3) (by rfl) (nt 3 (s : Int) An d.length cn).toArray (by rfl) 33 zeroN.toArray HS11.out.k6 HSn.out rfl (by rfl) ?_; intro w12 k12 c12 l12; have HS12 := Lib.hid (HS11.out.not (nc' := (nt 3 (s : Int) An d.length cn)) c12 k12); have C12 := Lib.hid c12; clear k12 c12 l12))
          have HL9 := HS9.out.lt
          have HN12 := Lib.hid (((HN10.out.chg C11.out fun k _ hk e => by omega).chg C12.out fun k _ hk e => by omega).mono (H := fun k => w.heap.size + 3 < k) fun k _ hk => by omega)
          have x0 := HS12.out.k6.cell 0
          simp [nt] at x0
          go_upto_region 13 with fail
          refine region_mv (S := fun w' => Bk w' (w.heap.size + 3) 33 (nt 3 (s : Int) An d.length cn).toArray) (A := List.range 4) (sq := [.p 0, .p 1, .c 2, .c 3]) (by kernel_rfl) (by kernel_rfl) ?_ (fun hHeld => ?_)
          · exact HS12.out.k6.drew
          repeat ((with_reducible refine mv_at ?_); (first
            | (refine ⟨_, .agg (nt 3 (s : Int) An d.length cn).toArray, rfl, yieldsIf_load_mid (by rfl) 33 (.tmp 6) rfl (w.heap.size + 3) 0 (by rfl) (nt 3 (s : Int) An d.length cn) _ (fun w h => (h).all) Tryz.underlying33 (by rfl) HSn.out, ?_⟩)
            | (refine ⟨_, ?_, rfl, Or.inl ⟨by rfl, ?_⟩, ?_⟩; rotate_left; · (intro w hSw; (try dsimp only at hSw); go_simp <;> with_reducible rfl))
            | (refine ⟨_, undef, rfl, Or.inr ⟨by rfl, rfl⟩, ?_⟩)); try simp only [Act.put, List.getElem_toArray, List.getElem_cons_succ, List.getElem_cons_zero, List.setIfInBounds_toArray, List.set_cons_zero, List.set_cons_succ])
          refine mv_c (o := _) rfl (fun K hK => ?_)
          refine wp_storeBk 31 (.tmp 2) (.tmp 47) rfl w.heap.size (by rfl) zeroUC.toArray (by rfl) 31 zeroUC.toArray HS12.out.k2.drew HSu.out rfl (by rfl) ?_
          intro w14 k14 c14 l14
          refine hK.out _ _ ?_ (fun hHeld => ?_)
          · exact HS12.out.k6.drew.chg c14 (by omega)
          clear hK K
          try simp only [Act.put, List.getElem_toArray, List.getElem_cons_succ, List.getElem_cons_zero, List.setIfInBounds_toArray, List.set_cons_zero, List.set_cons_succ]
          refine mv_c (o := _) rfl (fun K hK => ?_)
          refine wp_storeBk 33 (.tmp 3) (.tmp 48) rfl (w.heap.size + 1) (by rfl) (nt 3 (s : Int) An d.length cn).toArray (by rfl) 33 zeroN.toArray (HS12.out.k3.drew.chg c14 (by omega)) HSn.out rfl (by rfl) ?_
          intro w15 k15 c15 l15
          refine hK.out _ _ ?_ (fun hHeld => ?_)
          · exact (HS12.out.k6.drew.chg c14 (by omega)).chg c15 (by omega)
          clear hK K
          try simp only [Act.put, List.getElem_toArray, List.getElem_cons_succ, List.getElem_cons_zero, List.setIfInBounds_toArray, List.set_cons_zero, List.set_cons_succ]
          refine mv_end ?_
          have K15 := Lib.hid (k14.chg c15 (by omega))
          have K16 := Lib.hid k15
          have HB14 := HS12.out.bel.drew.trans (c14.below (fun k e => Nat.le_of_eq e.symm) HS12.out.bel.drew.size)
          have HB15 := Lib.hid (HB14.trans (c15.below (fun k e => by omega) HB14.size))
          have C14 := Lib.hid c14
          have C15 := Lib.hid c15
          clear k14 c14 l14 k15 c15 l15 HB14
          go_wp2_with fail
          refine bodyPost_ret (res_cc rfl _ _ w.heap.size (w.heap.size + 1) 31 33 zeroUC.toArray (nt 3 (s : Int) An d.length cn).toArray (0, 0) (0, 0) _ _ rfl K15.out Tryz.underlying31 rfl HSu.out rfl K16.out Tryz.underlying33 rfl HSn.out) rfl (HQ2.out s d An cn _ HDe.out (((HN12.out.chg (Chg.of_below ((Below.refl _ _).drew) (fun _ => False)) (fun _ _ _ e => e)).chg C14.out (fun k _ hk e => by omega)).chg C15.out (fun k _ hk e => by omega) |>.mono fun k _ hk => by omega) HB15.out)
end Go.Proofs.YtaeeeinpelfppaaGreat.upd
