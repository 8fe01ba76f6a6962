/- A tally in memory; what tally's New, full, add, Add, Of return and leave; confluencelaw05.lives. Conditions as each lemma states. -/
import Derived.Test.YtafepficapdepaaTallyFns
import Derived.Test.YtafepficapdepaaMap
namespace Go.Proofs.Ytafepficapdepaa.tally
open Go.RowKit Go.Proofs.Ytafepficapdepaa.flt Go.Proofs.Ytafepficapdepaa.kit Go.Proofs.Ytafepficapdepaa.mem Go.Proofs.Ytafepficapdepaa.foot Go.Proofs.Ytafepficapdepaa.maps
set_option linter.unusedVariables false
set_option linter.unusedSimpArgs false

/-- complex numbers, as their two words -/
def cE : Elem (Nat × Nat) where
  mkv p := .complex .f64 p.1 p.2
  dat p := .agg [.lit (.int .i64 p.1), .lit (.int .i64 p.2)]
  rd v := match v with | .complex .f64 x y => some (.agg [.lit (.int .i64 x), .lit (.int .i64 y)], []) | _ => none
  rd_mk _ := rfl
  inv {v y} h := by
    split at h
    · rename_i x z
      cases h
      exact ⟨(x, z), rfl, rfl⟩
    · cases h
  inj {a b} h := by
    obtain ⟨a1, a2⟩ := a
    obtain ⟨b1, b2⟩ := b
    simp at h
    exact Prod.ext (by show a1 = b1; omega) (by show a2 = b2; omega)

/-- a key, its number's two words, and what these are -/
abbrev TR := Int × (Nat × Nat) × (Int × Int)
structure Sound (r : TR) : Prop where
  re : IsF r.2.1.1 r.2.2.1 2200
  im : IsF r.2.1.2 r.2.2.2 2200
  lo : 0 ≤ r.2.2.1 ∧ 0 ≤ r.2.2.2
  hi : r.2.2.1 ≤ 549755813888 ∧ r.2.2.2 ≤ 549755813888
def raw (rs : List TR) : List (Int × (Nat × Nat)) := rs.map fun r => (r.1, r.2.1)
def without (rs : List TR) (k : Int) : List TR := rs.filter fun r => r.1 != k
theorem raw_put (rs : List TR) (k : Int) (p : Nat × Nat) (v : Int × Int) : put (raw rs) k p = raw ((k, p, v) :: without rs k) := by
  simp [put, raw, without, List.filter_map, Function.comp_def]
theorem raw_cut (rs : List TR) (k : Int) : cut (raw rs) k = raw (without rs k) := by
  simp [cut, raw, without, List.filter_map, Function.comp_def]
/-- block t is a tally with these counts -/
structure Tl (w : World) (F : Foot) (t : Nat) (rs : List TR) : Prop where
  ex : ∃ b n, Bk w t 111 #[.map (some b)] ∧ Mp cE Try.prog 22 .u32 w b n (raw rs) ∧ F b ∧ t ≠ b
  mem : F t
  lt : ∀ k, F k → k < w.heap.size
  sound : ∀ r ∈ rs, Sound r
section
variable {w w' : World} {F E : Foot} {t : Nat} {rs : List TR}
theorem Tl.chg (h : Tl w F t rs) (hc : Chg E w w') (hd : ∀ k, F k → ¬ E k) : Tl w' F t rs := by
  obtain ⟨⟨b, n, h1, h2, h3, h4⟩, h5, h6, h7⟩ := h
  exact ⟨⟨b, n, h1.chg hc (hd t h5), h2.chg hc (hd b h3), h3, h4⟩, h5, fun k hk => Nat.lt_of_lt_of_le (h6 k hk) hc.size, h7⟩
theorem Tl.bel (h : Tl w F t rs) (hb : Below w.heap.size w w') : Tl w' F t rs := h.chg (E := fun _ => False) (Chg.of_below hb _) (fun _ _ e => e)
theorem Tl.nd (h : Tl w F t rs) : rs.Pairwise (fun p r => p.1 ≠ r.1) := by
  obtain ⟨⟨b, n, _, h2, _⟩, _⟩ := h
  have := h2.nd
  unfold raw at this
  rw [List.pairwise_map] at this
  exact this
theorem Tl.perm {rs' : List TR} (h : Tl w F t rs) (hp : rs.Perm rs') : Tl w F t rs' := by
  obtain ⟨⟨b, n, h1, h2, h3, h4⟩, h5, h6, h7⟩ := h
  exact ⟨⟨b, n, h1, h2.perm (hp.map _), h3, h4⟩, h5, h6, fun r hr => h7 r (hp.mem_iff.2 hr)⟩
end

theorem New_any (w : World) : Calls Try.prog 18 #[] w fun e w' => ∃ t F, e = .returned (.pointer (some ⟨t, 0, none⟩)) ∧ Tl w' F t [] ∧ (∀ k, F k → w.heap.size ≤ k) ∧ Below w.heap.size w w' := by
  have hmm := @run_makeMap Try.prog
  go_enter Try.func18, Try.ntmps18
  go_wp2_with fail
  go_ret
  refine ⟨w.heap.size + 1, fun k => k = w.heap.size ∨ k = w.heap.size + 1, rfl, ⟨⟨w.heap.size, 0, ?_, ?_, .inl rfl, by omega⟩, .inr rfl, fun k hk => ?_, by simp⟩, fun k hk => by rcases hk with e | e <;> omega, ((Below.refl _ _).alloc (Nat.le_refl _) _).alloc (by simp) _⟩
  · have := Bk.new (w.alloc (.map #[] 0)) 111 #[.map (some w.heap.size)]
    simpa using this
  · exact (Mp.made w).bel ((Below.refl _ _).alloc (Nat.le_refl _) _)
  · rcases hk with e | e <;> rw [e] <;> simp <;> omega

theorem isF_top : IsF 4782822804267466752 549755813888 2200 := by
  have h := of_int 549755813888 (by omega)
  have e : floatOfInt .f64 549755813888 = 4782822804267466752 := by decide +kernel
  rw [e] at h
  exact h
theorem gt_top {x : Nat} {a : Int} (hx : IsF x a 2200) : (FloatKind.format .f64).order x 4782822804267466752 = some (compare a 549755813888) := order_exact hx isF_top
theorem cmp_gt (a b : Int) : (some (compare a b) == some Ordering.gt) = decide (b < a) := by
  rw [Bool.eq_iff_iff]
  simp only [beq_iff_eq, Option.some.injEq, decide_eq_true_eq, compare, compareOfLessAndEq]
  split
  · simp; omega
  · split
    · simp; omega
    · simp; omega
/-- whether a number's parts are too great -/
def fullB (a b : Int) : Bool := decide (549755813888 < a) || decide (549755813888 < b)
theorem full_any (x y : Nat) (a b : Int) (hx : IsF x a 2200) (hy : IsF y b 2200) (w : World) : Calls Try.prog 94 #[.complex .f64 x y] w fun e w' => e = .returned (.bool (fullB a b)) ∧ w = w' := by
  have h1 : ((FloatKind.format .f64).order x 4782822804267466752 == some Ordering.gt) = decide (549755813888 < a) := by rw [gt_top hx, cmp_gt]
  have h2 : ((FloatKind.format .f64).order y 4782822804267466752 == some Ordering.gt) = decide (549755813888 < b) := by rw [gt_top hy, cmp_gt]
  have HF : Hid (fullB a b = (decide (549755813888 < a) || decide (549755813888 < b))) := rfl
  clear hx hy
  generalize decide (549755813888 < b) = d2 at *
  generalize decide (549755813888 < a) = d1 at *
  rcases d1 with _ | _
  all_goals
    go_enter Try.func94, Try.ntmps94
    go_wp2_with fail
    go_ret
    exact ⟨by rw [HF.out]; first | rfl | simp, rfl⟩

/-- the counts of a key -/
def valOf (rs : List TR) (k : Int) : Int × Int := match rs.find? (fun r => r.1 == k) with | some r => r.2.2 | none => (0, 0)
/-- the words of a key -/
def bitsOf (rs : List TR) (k : Int) : Nat × Nat := match rs.find? (fun r => r.1 == k) with | some r => r.2.1 | none => (0, 0)
theorem zero_c (w : World) : (zeroValue 112).run Try.prog w = .ok (cE.mkv (0, 0)) w := by kernel_rfl
theorem Tl.look {w : World} {F : Foot} {t : Nat} {rs : List TR} (h : Tl w F t rs) {k : Int} (hk : (Lit.int .u32 k).wf = true) : ∃ b, Bk w t 111 #[.map (some b)] ∧
    (Instr.lookup 109 (.map (some b)) (.int .u32 k) false).run Try.prog w = .ok (.complex .f64 (bitsOf rs k).1 (bitsOf rs k).2) w ∧
    (Instr.lookup 109 (.map (some b)) (.int .u32 k) true).run Try.prog w = .ok (.tuple #[.complex .f64 (bitsOf rs k).1 (bitsOf rs k).2, .bool (rs.any fun r => r.1 == k)]) w ∧
    IsF (bitsOf rs k).1 (valOf rs k).1 2200 ∧ IsF (bitsOf rs k).2 (valOf rs k).2 2200 ∧ 0 ≤ (valOf rs k).1 ∧ 0 ≤ (valOf rs k).2 ∧ (valOf rs k).1 ≤ 549755813888 ∧ (valOf rs k).2 ≤ 549755813888 := by
  obtain ⟨⟨b, n, h1, h2, h3, h4⟩, h5, h6, h7⟩ := h
  refine ⟨b, h1, ?_⟩
  rcases hf : rs.find? (fun r => r.1 == k) with _ | r
  · have hn : ∀ p ∈ raw rs, p.1 ≠ k := by
      intro p hp
      simp only [raw, List.mem_map] at hp
      obtain ⟨r, hr, rfl⟩ := hp
      have := List.find?_eq_none.1 hf r hr
      simpa using this
    obtain ⟨g1, g2⟩ := h2.look_miss Try.underlying22 Try.underlying109 (z := (0, 0)) (zero_c w) hk hn
    have ha : rs.any (fun r => r.1 == k) = false := by
      rw [List.any_eq_false]; intro r hr; have := List.find?_eq_none.1 hf r hr; simpa using this
    have e1 : bitsOf rs k = (0, 0) := by unfold bitsOf; rw [hf]
    have e2 : valOf rs k = (0, 0) := by unfold valOf; rw [hf]
    rw [ha, e1, e2]
    exact ⟨g1, g2, isF_zero, isF_zero, by omega, by omega, by omega, by omega⟩
  · have hr := List.mem_of_find?_eq_some hf
    have hk' : r.1 = k := by have := List.find?_some hf; simpa using this
    subst hk'
    obtain ⟨g1, g2⟩ := h2.look_hit Try.underlying22 Try.underlying109 (z := (0, 0)) (zero_c w) (x := r.1) (a := r.2.1) (by simp only [raw, List.mem_map]; exact ⟨r, hr, rfl⟩)
    have ha : rs.any (fun x => x.1 == r.1) = true := by rw [List.any_eq_true]; exact ⟨r, hr, by simp⟩
    have hs := h7 r hr
    have e1 : bitsOf rs r.1 = r.2.1 := by unfold bitsOf; rw [hf]
    have e2 : valOf rs r.1 = r.2.2 := by unfold valOf; rw [hf]
    rw [ha, e1, e2]
    exact ⟨g1, g2, hs.re, hs.im, hs.lo.1, hs.lo.2, hs.hi.1, hs.hi.2⟩

/-- what adding hands back, and leaves -/
def AddP (rs : List TR) (k u v : Int) (F : Foot) (t : Nat) (w : World) (e : Ending) (w' : World) : Prop :=
  (fullB ((valOf rs k).1 + u) ((valOf rs k).2 + v) = true → e = .returned (.int .i64 3) ∧ w = w') ∧
  (fullB ((valOf rs k).1 + u) ((valOf rs k).2 + v) = false → e = .returned (.int .i64 0) ∧ (∃ p, Tl w' F t ((k, p, ((valOf rs k).1 + u, (valOf rs k).2 + v)) :: without rs k)) ∧ Chg F w w')

set_option maxRecDepth 100000 in
set_option maxHeartbeats 1000000 in
theorem add_any {F : Foot} {t : Nat} {rs : List TR} (k u v : Int) (x y : Nat) (w : World) (hk : (Lit.int .u32 k).wf = true) (hx : IsF x u 2200) (hy : IsF y v 2200) (hu : 0 ≤ u ∧ u ≤ 549755813888) (hv : 0 ≤ v ∧ v ≤ 549755813888) (hn : rs.length < 10000) (h : Tl w F t rs) :
    Calls Try.prog 54 #[.pointer (some ⟨t, 0, none⟩), .int .u32 k, .complex .f64 x y] w (AddP rs k u v F t w) := by
  obtain ⟨b, hb, l1, l2, hre, him, z1, z2, z3, z4⟩ := h.look hk
  have hlt := h.lt
  have hb0 := hb.cell 0
  simp at hb0
  obtain ⟨re, im, hm, hre2, him2⟩ := csum_exact hre him hx hy (by omega) (by omega)
  have m1 := fun w => run_complex_sum (P := Try.prog) w .add (.inl rfl) 112 .f64 _ _ _ _ re im hm
  have HF := Lib.hid (full_any re im _ _ hre2 him2)
  have hlen : ∀ ty, (Builtin.len_ #[109] ty #[.map (some b)]).run Try.prog w = .ok (.int .i64 (rs.length : Int)) w := by
    obtain ⟨⟨b', n, h1, h2, _⟩, _⟩ := h
    have e := h1.symm.trans hb
    simp [Bk] at e
    subst e
    intro ty
    have := h2.len Try.underlying109 ty
    simpa [raw] using this
  have hmp : Mp cE Try.prog 22 .u32 w b rs.length (raw rs) ∧ F b ∧ t ≠ b := by
    obtain ⟨⟨b', n, h1, h2, h3, h4⟩, _⟩ := h
    have e := h1.symm.trans hb
    simp [Bk] at e
    subst e
    have := h2.tight
    simp only [raw, List.length_map] at this
    exact ⟨this, h3, h4⟩
  have HMp := Lib.hid hmp
  have HFin : Hid (fullB ((valOf rs k).1 + u) ((valOf rs k).2 + v) = false → ∀ w', Mp cE Try.prog 22 .u32 w' b (rs.length + 1) (put (raw rs) k (re, im)) → Chg (fun j => j = b) w w' → (∃ p, Tl w' F t ((k, p, ((valOf rs k).1 + u, (valOf rs k).2 + v)) :: without rs k)) ∧ Chg F w w') := fun hf w' g1 g2 => by
    have hFb := hmp.2.1
    refine ⟨⟨(re, im), ⟨b, _, hb.chg g2 hmp.2.2, by rw [raw_put] at g1; exact g1, hFb, hmp.2.2⟩, h.mem, fun j hj => Nat.lt_of_lt_of_le (hlt j hj) g2.size, fun r hr => ?_⟩, g2.mono fun i _ e => by rw [e]; exact hFb⟩
    rcases List.mem_cons.1 hr with rfl | hr
    · simp [fullB] at hf
      exact ⟨hre2, him2, ⟨by show 0 ≤ (valOf rs k).1 + u; omega, by show 0 ≤ (valOf rs k).2 + v; omega⟩, ⟨hf.1, hf.2⟩⟩
    · exact h.sound r (List.mem_filter.1 hr).1
  have HK := Lib.hid hk
  have hn2 : (rs.length : Int) < 10000 := by omega
  have dn : decide ((10000 : Int) ≤ (rs.length : Int)) = false := by simp; omega
  have HA : Hid (AddP rs k u v F t w = fun e w' => (fullB ((valOf rs k).1 + u) ((valOf rs k).2 + v) = true → e = .returned (.int .i64 3) ∧ w = w') ∧
  (fullB ((valOf rs k).1 + u) ((valOf rs k).2 + v) = false → e = .returned (.int .i64 0) ∧ (∃ p, Tl w' F t ((k, p, ((valOf rs k).1 + u, (valOf rs k).2 + v)) :: without rs k)) ∧ Chg F w w')) := rfl
  rw [HA.out]
  clear hb hre him z1 z2 z3 z4 hre2 him2 hm hx hy hu hv h hlt hk hmp HA
  generalize bitsOf rs k = p0 at *
  generalize hfb : fullB ((valOf rs k).1 + u) ((valOf rs k).2 + v) = fb at *
  clear hfb
  generalize (rs.any fun r => r.1 == k) = ok at *
  rcases fb with _ | _
  · have HFi := Lib.hid (HFin.out rfl)
    clear HFin
    rcases ok with _ | _
    all_goals
      go_enter Try.func54, Try.ntmps54
      go_wp2_with (first
        | (go_at_call 94; refine (HF.out _).mono ?_; rintro e w' ⟨rfl, rfl⟩)
        | (at_mapUpdate; (refine wpList_put (E := cE) rfl (.tmp 37) (.tmp 38) (.tmp 41) _ rfl 112 Try.underlying22 Try.underlying109 b rs.length (raw rs) rfl HMp.out.1 (by unfold maxLen; omega) k (re, im) HK.out (by rfl) (by rfl) ?_); intro w1 g1 g2; have HE := Lib.hid (HFi.out w1 g1 g2); clear g1 g2))
      go_ret
      exact ⟨(fun h => by simp at h), fun _ => ⟨rfl, HE.out⟩⟩
  · go_enter Try.func54, Try.ntmps54
    go_wp2_with (go_at_call 94; refine (HF.out _).mono ?_; rintro e w' ⟨rfl, rfl⟩)
    go_ret
    exact ⟨fun _ => ⟨rfl, rfl⟩, (fun h => by simp at h)⟩

theorem Add_any {F : Foot} {t : Nat} {rs : List TR} (k u v : Int) (w : World) (hk : (Lit.int .u32 k).wf = true) (hu : 0 ≤ u ∧ u ≤ 1073741824) (hv : 0 ≤ v ∧ v ≤ 1073741824) (hn : rs.length < 10000) (h : Tl w F t rs) :
    Calls Try.prog 22 #[.pointer (some ⟨t, 0, none⟩), .int .u32 k, .int .i64 u, .int .i64 v] w (AddP rs k u v F t w) := by
  have HA := Lib.hid (add_any k u v _ _ w hk (of_int u (by omega)) (of_int v (by omega)) (by omega) (by omega) hn h)
  have hE : ∀ e w', AddP rs k u v F t w e w' → ∃ n : Int, e = .returned (.int .i64 n) := fun e w' h => by
    rcases hf : fullB ((valOf rs k).1 + u) ((valOf rs k).2 + v) with _ | _
    · exact ⟨0, (h.2 hf).1⟩
    · exact ⟨3, (h.1 hf).1⟩
  obtain ⟨Q, hQ⟩ : ∃ Q, Q = AddP rs k u v F t w := ⟨_, rfl⟩
  rw [← hQ] at hE
  rw [← hQ] at HA ⊢
  clear hk hn h hQ
  obtain ⟨u0, u1⟩ := hu
  obtain ⟨v0, v1⟩ := hv
  have u2 : decide (u < 0) = false := by simp; omega
  have v2 : decide (v < 0) = false := by simp; omega
  have u3 : decide (1073741824 < u) = false := by simp; omega
  have v3 : decide (1073741824 < v) = false := by simp; omega
  go_enter Try.func22, Try.ntmps22
  go_wp2_with (first
    | (go_at_call 55; refine (pair_any _ _ _).mono ?_; rintro e w' ⟨rfl, rfl⟩)
    | (go_at_call 54; refine HA.out.mono ?_; rintro e w' hp; go_must (obtain ⟨n, rfl⟩ := hE e w' hp); have HP := Lib.hid hp; clear hp))
  all_goals first | exact HP.out | (go_ret; exact HP.out)
theorem Of_any {F : Foot} {t : Nat} {rs : List TR} (k : Int) (w : World) (hk : (Lit.int .u32 k).wf = true) (h : Tl w F t rs) :
    Calls Try.prog 27 #[.pointer (some ⟨t, 0, none⟩), .int .u32 k] w fun e w' => e = .returned (.tuple #[.int .i64 (valOf rs k).1, .int .i64 (valOf rs k).2]) ∧ w = w' := by
  obtain ⟨b, hb, l1, l2, hre, him, z1, z2, z3, z4⟩ := h.look hk
  have hb0 := hb.cell 0
  simp at hb0
  have HP := Lib.hid (parts_any _ _ _ _ hre him (by omega) (by omega))
  clear hb l2 hre him z1 z2 z3 z4 h hk
  generalize bitsOf rs k = p0 at *
  generalize valOf rs k = v0 at *
  go_enter Try.func27, Try.ntmps27
  go_wp2_with (go_at_call 57; refine (HP.out _).mono ?_; rintro e w' ⟨rfl, rfl⟩)
  go_ret2
  exact ⟨rfl, rfl⟩

theorem farv_34 : farv 3 4 = 25 := by decide
set_option maxRecDepth 100000 in
theorem lives_any (w : World) : Calls Try.prog 29 #[] w fun e w' => e = .returned (.bool true) ∧ Below w.heap.size w w' := by
  have HN := Lib.hid (New_any w)
  go_enter Try.func29, Try.ntmps29
  go_wp2_with fail
  refine HN.out.mono ?_; rintro e w1 ⟨t, F, rfl, ht, hF, hb1⟩
  have HA := Lib.hid (Add_any 7 2 1 w1 (by decide) (by omega) (by omega) (by simp) ht)
  have HB1 := Lib.hid hb1
  have HF := Lib.hid hF
  clear ht hF hb1 HN
  go_wp2_with fail
  refine HA.out.mono ?_; rintro e w2 hp
  obtain ⟨rfl, ⟨p, ht2⟩, hc2⟩ := hp.2 (by decide)
  have HB2 := Lib.hid (HB1.out.trans (hc2.below HF.out HB1.out.size))
  have HA2 := Lib.hid (Add_any 7 1 0 w2 (by decide) (by omega) (by omega) (by simp [without]) ht2)
  clear hp ht2 hc2 HA HB1
  go_wp2_with fail
  refine HA2.out.mono ?_; rintro e w3 hp
  obtain ⟨rfl, ⟨p3, ht3⟩, hc3⟩ := hp.2 (by simp [valOf, without, fullB])
  have HB3 := Lib.hid (HB2.out.trans (hc3.below HF.out HB2.out.size))
  have hO := Of_any 7 w3 (by decide) ht3
  have e3 : ∀ l : List TR, valOf ((7, p3, ((valOf ((7, p, ((valOf ([] : List TR) 7).1 + 2, (valOf ([] : List TR) 7).2 + 1)) :: without [] 7) 7).1 + 1, (valOf ((7, p, ((valOf ([] : List TR) 7).1 + 2, (valOf ([] : List TR) 7).2 + 1)) :: without [] 7) 7).2 + 0)) :: l) 7 = (3, 1) := fun l => by simp [valOf]
  rw [e3] at hO
  have HO := Lib.hid hO
  have HFa := Lib.hid (far_any 3 4)
  rw [farv_34] at HFa
  clear hp ht3 hc3 hO HA2 HB2 e3
  go_wp2_with (first
    | (go_at_call 27; refine HO.out.mono ?_; rintro e w' ⟨rfl, rfl⟩)
    | (go_at_call 58; refine (HFa.out _).mono ?_; rintro e w' ⟨rfl, hb⟩))
  go_ret
  exact ⟨rfl, HB3.out.trans (hb.mono HB3.out.size)⟩
end Go.Proofs.Ytafepficapdepaa.tally
