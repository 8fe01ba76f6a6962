/- What prefix.has, covers, Has, Covers, Within, Bit return. No condition beyond those that each lemma states. -/
import Derived.Test.YtpabblkppbfbjaaDoorPfxFns
import Derived.Test.YtpabblkppbfbjaaDoorFoot
import Derived.Deep.RegionHeld3
import Derived.Deep.RegionWith
namespace Go.Proofs.YtpabblkppbfbjaaDoor.pfx
open Go.RowKit Go.Proofs.YtpabblkppbfbjaaDoor.kit Go.Proofs.YtpabblkppbfbjaaDoor.mem Go.Proofs.YtpabblkppbfbjaaDoor.foot
set_option linter.unusedVariables false
set_option linter.unusedSimpArgs false

/-- a good prefix has an address -/
def hasB (a : Nat) (n : Int) (x : Nat) : Bool := goodB a n && (cutv x n.toNat == a)
theorem has_in (a : Nat) (n : Int) (x : Nat) (ha : a < 4294967296) (hx : x < 4294967296) (w : World) : Calls Tryd.prog 42 #[.agg #[.int .u32 a, .int .i64 n], .int .u32 x] w fun e w' => e = .returned (.bool (hasB a n x)) ∧ Below w.heap.size w w' := by
  have HG := Lib.hid (good_in a n ha)
  have HH : Hid (hasB a n x = (goodB a n && (cutv x n.toNat == a))) := rfl
  by_cases g1 : goodB a n = true
  · have hn := (goodB_iff a n).1 g1
    rw [g1] at HG HH
    obtain ⟨k, rfl⟩ := Int.eq_ofNat_of_zero_le hn.1
    have Hm := Lib.hid (mask_any k (by omega))
    have hand := and_mask x k hx (by omega)
    have HE : Hid (hasB a (k : Int) x = ((cutv x k : Int) == (a : Int))) := by
      rw [Hid, HH.out, Int.toNat_natCast, Bool.true_and, Bool.eq_iff_iff, beq_iff_eq, beq_iff_eq]; omega
    clear g1 hn HH
    generalize hasB a (k : Int) x = r at *
    generalize cutv x k = c at *
    generalize maskv k = m at *
    have q0 : ((w.alloc (.cells #[.int .u32 a, .int .i64 k] 24)).drew).cell? ⟨w.heap.size, 0, none⟩ = some (.int .u32 a) := by go_simp
    have q1 : ((w.alloc (.cells #[.int .u32 a, .int .i64 k] 24)).drew).cell? ⟨w.heap.size, 1, none⟩ = some (.int .i64 k) := by go_simp
    have HB0 : Hid (Below w.heap.size w (w.alloc (.cells #[.int .u32 a, .int .i64 k] 24)).drew) := ((Below.refl _ _).alloc (Nat.le_refl _) _).drew
    have hl : w.heap.size < ((w.alloc (.cells #[.int .u32 a, .int .i64 k] 24)).drew).heap.size := by simp
    go_enter Tryd.func42, Tryd.ntmps42
    go_wp2_with fail
    go_region_held3 (fun w' => w'.cell? ⟨w.heap.size, 0, none⟩ = some (.int .u32 a) ∧ w'.cell? ⟨w.heap.size, 1, none⟩ = some (.int .i64 k)) (exact ⟨q0, q1⟩) (first
      | (go_at_call 19; refine (HG.out _).mono ?_; rintro e w1 ⟨rfl, hb1⟩; go_must (have q0 := (hb1.cell (p := ⟨w.heap.size, 0, none⟩) hl).trans q0); go_must (have q1 := (hb1.cell (p := ⟨w.heap.size, 1, none⟩) hl).trans q1); go_must (have HB1 := Lib.hid (HB0.out.trans (hb1.mono HB0.out.size))); clear hb1)
      | (go_at_call 20; refine (Hm.out _).mono ?_; rintro e w' ⟨rfl, rfl⟩))
    all_goals
      go_wp2_with fail
      go_ret
      exact ⟨by rw [HE.out]; rfl, HB1.out⟩
  · have g1 : goodB a n = false := by simpa using g1
    rw [g1] at HG HH
    have HE : Hid (hasB a n x = false) := by rw [Hid, HH.out]; rfl
    clear g1 HH
    generalize hasB a n x = r at *
    have q0 : ((w.alloc (.cells #[.int .u32 a, .int .i64 n] 24)).drew).cell? ⟨w.heap.size, 0, none⟩ = some (.int .u32 a) := by go_simp
    have q1 : ((w.alloc (.cells #[.int .u32 a, .int .i64 n] 24)).drew).cell? ⟨w.heap.size, 1, none⟩ = some (.int .i64 n) := by go_simp
    have HB0 : Hid (Below w.heap.size w (w.alloc (.cells #[.int .u32 a, .int .i64 n] 24)).drew) := ((Below.refl _ _).alloc (Nat.le_refl _) _).drew
    have hl : w.heap.size < ((w.alloc (.cells #[.int .u32 a, .int .i64 n] 24)).drew).heap.size := by simp
    go_enter Tryd.func42, Tryd.ntmps42
    go_wp2_with fail
    refine wp_region_held_drew (S := (fun w' => w'.cell? ⟨w.heap.size, 0, none⟩ = some (.int .u32 a) ∧ w'.cell? ⟨w.heap.size, 1, none⟩ = some (.int .i64 n))) (by kernel_rfl) ?_ (fun hHeld => ?_)
    · exact ⟨q0, q1⟩
    refine wpAnyH_take (i := 0) (oi := _) (v := ?_) rfl (by kernel_rfl) (by kernel_rfl) (by kernel_rfl) (fun _ _ _ h => h) (Or.inl ⟨by rfl, ?_⟩) (by assumption) ?_
    rotate_left
    · (intro w hSw; (try dsimp only at hSw); go_simp <;> with_reducible rfl)
    try simp only [Act.put, List.getElem_toArray, List.getElem_cons_succ, List.getElem_cons_zero, List.setIfInBounds_toArray, List.set_cons_zero, List.set_cons_succ]
    refine wpAnyH_ready (rs := [1]) (by kernel_rfl) (by simp) ?_
    refine AllReadyH.cons (o := _) rfl (fun K hK => ?_) AllReadyH.nil
    (go_simp; go_at_call 19; refine (HG.out _).mono ?_; rintro e w1 ⟨rfl, hb1⟩; have HB1 := Lib.hid (HB0.out.trans (hb1.mono HB0.out.size)))
    refine hK.out _ _ ?_ (fun hHeld => ?_)
    · exact ⟨(hb1.cell (p := ⟨w.heap.size, 0, none⟩) hl).trans q0, (hb1.cell (p := ⟨w.heap.size, 1, none⟩) hl).trans q1⟩
    clear hK K
    try simp only [Act.put, List.getElem_toArray, List.getElem_cons_succ, List.getElem_cons_zero, List.setIfInBounds_toArray, List.set_cons_zero, List.set_cons_succ]
    refine wpAnyH_take (i := 2) (oi := _) (v := ?_) rfl (by kernel_rfl) (by kernel_rfl) (by kernel_rfl) (fun _ _ _ h => h) (Or.inl ⟨by rfl, ?_⟩) (by assumption) ?_
    rotate_left
    · (intro w hSw; (try dsimp only at hSw); go_simp <;> with_reducible rfl)
    try simp only [Act.put, List.getElem_toArray, List.getElem_cons_succ, List.getElem_cons_zero, List.setIfInBounds_toArray, List.set_cons_zero, List.set_cons_succ]
    refine wpAnyH_take (i := 3) (oi := _) (v := undef) rfl (by kernel_rfl) (by kernel_rfl) (by kernel_rfl) (fun _ _ _ h => h) (Or.inr ⟨by rfl, rfl⟩) (by assumption) ?_
    try simp only [Act.put, List.getElem_toArray, List.getElem_cons_succ, List.getElem_cons_zero, List.setIfInBounds_toArray, List.set_cons_zero, List.set_cons_succ]
    refine wpAnyH_take (i := 4) (oi := _) (v := undef) rfl (by kernel_rfl) (by kernel_rfl) (by kernel_rfl) (fun _ _ _ h => h) (Or.inr ⟨by rfl, rfl⟩) (by assumption) ?_
    try simp only [Act.put, List.getElem_toArray, List.getElem_cons_succ, List.getElem_cons_zero, List.setIfInBounds_toArray, List.set_cons_zero, List.set_cons_succ]
    refine wpAnyH_take (i := 5) (oi := _) (v := undef) rfl (by kernel_rfl) (by kernel_rfl) (by kernel_rfl) (fun _ _ _ h => h) (Or.inr ⟨by rfl, rfl⟩) (by assumption) ?_
    try simp only [Act.put, List.getElem_toArray, List.getElem_cons_succ, List.getElem_cons_zero, List.setIfInBounds_toArray, List.set_cons_zero, List.set_cons_succ]
    refine wpAnyH_take (i := 6) (oi := _) (v := undef) rfl (by kernel_rfl) (by kernel_rfl) (by kernel_rfl) (fun _ _ _ h => h) (Or.inr ⟨by rfl, rfl⟩) (by assumption) ?_
    try simp only [Act.put, List.getElem_toArray, List.getElem_cons_succ, List.getElem_cons_zero, List.setIfInBounds_toArray, List.set_cons_zero, List.set_cons_succ]
    refine wpAnyH_take (i := 7) (oi := _) (v := undef) rfl (by kernel_rfl) (by kernel_rfl) (by kernel_rfl) (fun _ _ _ h => h) (Or.inr ⟨by rfl, rfl⟩) (by assumption) ?_
    try simp only [Act.put, List.getElem_toArray, List.getElem_cons_succ, List.getElem_cons_zero, List.setIfInBounds_toArray, List.set_cons_zero, List.set_cons_succ]
    refine wpAnyH_take (i := 8) (oi := _) (v := undef) rfl (by kernel_rfl) (by kernel_rfl) (by kernel_rfl) (fun _ _ _ h => h) (Or.inr ⟨by rfl, rfl⟩) (by assumption) ?_
    try simp only [Act.put, List.getElem_toArray, List.getElem_cons_succ, List.getElem_cons_zero, List.setIfInBounds_toArray, List.set_cons_zero, List.set_cons_succ]
    refine wpAnyH_take (i := 9) (oi := _) (v := undef) rfl (by kernel_rfl) (by kernel_rfl) (by kernel_rfl) (fun _ _ _ h => h) (Or.inr ⟨by rfl, rfl⟩) (by assumption) ?_
    try simp only [Act.put, List.getElem_toArray, List.getElem_cons_succ, List.getElem_cons_zero, List.setIfInBounds_toArray, List.set_cons_zero, List.set_cons_succ]
    refine wpAnyH_take (i := 10) (oi := _) (v := undef) rfl (by kernel_rfl) (by kernel_rfl) (by kernel_rfl) (fun _ _ _ h => h) (Or.inr ⟨by rfl, rfl⟩) (by assumption) ?_
    try simp only [Act.put, List.getElem_toArray, List.getElem_cons_succ, List.getElem_cons_zero, List.setIfInBounds_toArray, List.set_cons_zero, List.set_cons_succ]
    refine wpAnyH_take (i := 11) (oi := _) (v := ?_) rfl (by kernel_rfl) (by kernel_rfl) (by kernel_rfl) (fun _ _ _ h => h) (Or.inl ⟨by rfl, ?_⟩) (by assumption) ?_
    rotate_left
    · (intro w hSw; (try dsimp only at hSw); go_simp <;> with_reducible rfl)
    try simp only [Act.put, List.getElem_toArray, List.getElem_cons_succ, List.getElem_cons_zero, List.setIfInBounds_toArray, List.set_cons_zero, List.set_cons_succ]
    refine wpAnyH_take (i := 12) (oi := _) (v := ?_) rfl (by kernel_rfl) (by kernel_rfl) (by kernel_rfl) (fun _ _ _ h => h) (Or.inl ⟨by rfl, ?_⟩) (by assumption) ?_
    rotate_left
    · (intro w hSw; (try dsimp only at hSw); go_simp <;> with_reducible rfl)
    try simp only [Act.put, List.getElem_toArray, List.getElem_cons_succ, List.getElem_cons_zero, List.setIfInBounds_toArray, List.set_cons_zero, List.set_cons_succ]
    refine wpAnyH_done (by kernel_rfl) ?_ _
    all_goals
      go_wp2_with fail
      go_ret
      exact ⟨by rw [HE.out]; rfl, HB1.out⟩

/-- a prefix covers another one -/
def coverB (a : Nat) (n : Int) (b : Nat) (m : Int) : Bool := goodB b m && (decide (n ≤ m) && hasB a n b)
set_option maxHeartbeats 1000000 in
theorem covers_in (a : Nat) (n : Int) (b : Nat) (m : Int) (ha : a < 4294967296) (hb : b < 4294967296) (w : World) : Calls Tryd.prog 34 #[.agg #[.int .u32 a, .int .i64 n], .agg #[.int .u32 b, .int .i64 m]] w fun e w' => e = .returned (.bool (coverB a n b m)) ∧ Below w.heap.size w w' := by
  have HG := Lib.hid (good_in b m hb)
  have HA := Lib.hid (has_in a n b ha hb)
  have HE : Hid (coverB a n b m = (goodB b m && (decide (n ≤ m) && hasB a n b))) := rfl
  have HB0 : Hid (Below w.heap.size w ((w.alloc (.cells #[.int .u32 a, .int .i64 n] 24)).alloc (.cells #[.int .u32 b, .int .i64 m] 24))) := Go.Joins.below_alloc2 w _ _
  generalize hd : decide (n ≤ m) = d at *
  generalize goodB b m = g1 at *
  generalize hasB a n b = g2 at *
  generalize coverB a n b m = r at *
  have K0 := Lib.hid ((Bk.new w 24 #[.int .u32 a, .int .i64 n]).alloc (.cells #[.int .u32 b, .int .i64 m] 24))
  have K1 : Hid (Bk ((w.alloc (.cells #[.int .u32 a, .int .i64 n] 24)).alloc (.cells #[.int .u32 b, .int .i64 m] 24)) (w.heap.size + 1) 24 #[.int .u32 b, .int .i64 m]) := by
    have := Bk.new (w.alloc (.cells #[.int .u32 a, .int .i64 n] 24)) 24 #[.int .u32 b, .int .i64 m]
    simpa [Hid] using this
  go_enter Tryd.func34, Tryd.ntmps34
  go_wp2_with fail
  refine (HG.out _).mono ?_; rintro e w1 ⟨rfl, hb1⟩
  have p0 := (K0.out.below hb1 K0.out.lt).cell 0
  have p1 := (K0.out.below hb1 K0.out.lt).cell 1
  have r0 := (K1.out.below hb1 K1.out.lt).cell 0
  have r1 := (K1.out.below hb1 K1.out.lt).cell 1
  have l0 := (K0.out.below hb1 K0.out.lt).lt
  have l1 := (K1.out.below hb1 K1.out.lt).lt
  have HB1 := Lib.hid (HB0.out.trans (hb1.mono HB0.out.size))
  simp at p0 p1 r0 r1
  clear hb1 K0 K1
  rcases g1 with _ | _
  · go_wp2_with fail
    go_ret
    exact ⟨by rw [HE.out]; rfl, HB1.out⟩
  · rcases d with _ | _
    · go_wp2_with fail
      go_ret
      exact ⟨by rw [HE.out]; rfl, HB1.out⟩
    · go_wp2_with (go_at_call 42; refine (HA.out _).mono ?_; rintro e w2 ⟨rfl, hb2⟩; go_must (have HB2 := Lib.hid (HB1.out.trans (hb2.mono HB1.out.size))); clear hb2)
      go_ret
      exact ⟨by rw [HE.out]; rfl, HB2.out⟩

theorem covers_any (a : Nat) (n : Int) (b : Nat) (m : Int) (ha : a < 4294967296) (hb : b < 4294967296) (w : World) : Calls Tryd.prog 26 #[.agg #[.int .u32 a, .int .i64 n], .agg #[.int .u32 b, .int .i64 m]] w fun e w' => e = .returned (.bool (coverB a n b m)) ∧ Below w.heap.size w w' := by
  have HC := Lib.hid (covers_in a n b m ha hb)
  have HB0 : Hid (Below w.heap.size w ((w.alloc (.cells #[.int .u32 a, .int .i64 n] 24)).alloc (.cells #[.int .u32 b, .int .i64 m] 24))) := Go.Joins.below_alloc2 w _ _
  go_enter Tryd.func26, Tryd.ntmps26
  go_wp2_with fail
  refine (HC.out _).mono ?_; rintro e w1 ⟨rfl, hb1⟩
  have HB1 := Lib.hid (HB0.out.trans (hb1.mono HB0.out.size))
  clear hb1
  go_wp2_with fail
  go_ret
  exact ⟨rfl, HB1.out⟩

/-- p lies within q, and is another one -/
def withinB (a : Nat) (n : Int) (b : Nat) (m : Int) : Bool := coverB b m a n && !(decide (a = b) && decide (n = m))
end Go.Proofs.YtpabblkppbfbjaaDoor.pfx
