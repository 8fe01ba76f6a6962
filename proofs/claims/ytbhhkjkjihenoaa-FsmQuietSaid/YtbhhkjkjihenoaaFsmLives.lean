/- That confluencelaw25.lives is true, and how a session comes about. No condition beyond those that each lemma states. -/
import Derived.Test.YtbhhkjkjihenoaaFsmRunW
namespace Go.Proofs.Ytbhhkjkjihenoaa.fsm
open Go.RowKit Go.Proofs.Ytbhhkjkjihenoaa.kit Go.Proofs.Ytbhhkjkjihenoaa.mem Go.Proofs.Ytbhhkjkjihenoaa.foot
set_option linter.unusedVariables false
set_option linter.unusedSimpArgs false

/-- a side that holds for so long; the events with which a session comes about; its state then -/
def sideOf (sh : Int) : Sd := ⟨1, 1, 2, sh, 5, false⟩
def comes (oh : Int) : List (List Value) := [evV 1 keepZ, evV 3 keepZ, evV 6 (openV 2 oh 2 true), evV 6 keepV]
def estF (h oh : Int) (hl kl : Int) : Fs := ⟨5, h, hl, kl, 0, 2, oh, 2, true⟩
def comesO : List Ot := [⟨true, false, false, false⟩, ⟨false, false, false, false⟩, ⟨false, false, false, false⟩, ⟨false, false, true, false⟩]
theorem one_evV (k : Int) (x : List Value) (h : ∀ u ∈ x, u.oneCell' = true) : ∀ u ∈ evV k x, u.oneCell' = true := by
  intro u hu
  unfold evV at hu
  rcases List.mem_cons.1 hu with rfl | hu
  · rfl
  · rcases List.mem_append.1 hu with hu | hu
    · exact h u hu
    · exact List.all_eq_true.1 (by rfl) u hu
theorem one_keepZ : ∀ u ∈ keepZ, u.oneCell' = true := fun u hu => List.all_eq_true.1 (by rfl) u hu
theorem one_keepV : ∀ u ∈ keepV, u.oneCell' = true := fun u hu => List.all_eq_true.1 (by rfl) u hu
theorem one_openV (a b c : Int) (d : Bool) : ∀ u ∈ openV a b c d, u.oneCell' = true := fun u hu => List.all_eq_true.1 (by rfl) u hu
theorem comes_runs (sh oh h : Int) (hh : h = max (min sh oh) 0) (h3 : 3 ≤ h) (h6 : h ≤ 1000000) : Runs (sideOf sh) (f0 0) (comes oh) (estF h oh h (h / 3)) comesO := by
  subst hh
  refine .cons (step_start _ _ rfl rfl) rfl (one_evV _ _ one_keepZ) (.cons (step_up _ _ rfl) rfl (one_evV _ _ one_keepZ) (.cons (step_open (sideOf sh) _ oh 2 rfl rfl h3 h6) rfl (one_evV _ _ (one_openV _ _ _ _)) (.cons (step_keep _ _ (.inl rfl)) rfl (one_evV _ _ one_keepV) ?_)))
  exact .nil _
theorem info_evz : (Try.prog.info? 68).map (fun i => (i.zero, i.size, i.bytes)) = some (some (.agg #[.int .i64 0, .int .i64 0, .int .u32 0, .int .i64 0, .int .u32 0, .bool false, .slice none 0 0, .int .i64 0, .int .i64 0, .slice none 0 0, .int .u32 0, .int .u32 0, .int .u32 0, .int .u32 0, .int .u32 0, .slice none 0 0, .slice none 0 0, .int .i64 0, .int .i64 0, .slice none 0 0, .int .i64 0, .int .i64 0, .slice none 0 0]), 23, 256) := by kernel_rfl

set_option maxRecDepth 100000 in
set_option maxHeartbeats 2000000 in
theorem lives25 (w : World) : Calls Try.prog 35 #[] w fun e w' => e = .returned (.bool true) ∧ Below w.heap.size w w' := by
  have HRun : Hid (∀ w2 : World, Calls Try.prog 33 #[.agg (sdV (sideOf 9)).toArray, .agg (fsV (f0 0)).toArray, .slice (some ⟨w2.heap.size, 0, none⟩) 4 4] (w2.alloc (.cells (comes 90).flatten.toArray 68)) fun r w' => ∃ A' c' xs, r = .returned (.tuple #[.agg (fsV (estF 9 90 9 3)).toArray, .slice A' 4 c']) ∧ Own w' 76 5 A' 4 c' xs ∧ OutRows comesO xs ∧ (∀ k, sf A' k → (w2.alloc (.cells (comes 90).flatten.toArray 68)).heap.size ≤ k) ∧ Below (w2.alloc (.cells (comes 90).flatten.toArray 68)).heap.size (w2.alloc (.cells (comes 90).flatten.toArray 68)) w') := fun w2 =>
    Run_any (comes_runs 9 90 9 (by decide) (by decide) (by decide)) (by decide) (w2.alloc (.cells (comes 90).flatten.toArray 68)) (some ⟨w2.heap.size, 0, none⟩) 4 (Rg.new w2 68 23 4 (comes 90).flatten.toArray (by rfl))
  have HZ : Hid (∀ w : World, Bk (w.alloc (.cells #[.int .i64 0, .int .u32 0, .int .i64 0, .int .u32 0, .bool false, .slice none 0 0, .int .i64 0, .int .i64 0, .slice none 0 0, .int .u32 0, .int .u32 0, .int .u32 0, .int .u32 0, .int .u32 0, .slice none 0 0, .slice none 0 0, .int .i64 0, .int .i64 0, .slice none 0 0] 66)) w.heap.size 66 #[.int .i64 0, .int .u32 0, .int .i64 0, .int .u32 0, .bool false, .slice none 0 0, .int .i64 0, .int .i64 0, .slice none 0 0, .int .u32 0, .int .u32 0, .int .u32 0, .int .u32 0, .int .u32 0, .slice none 0 0, .slice none 0 0, .int .i64 0, .int .i64 0, .slice none 0 0]) := fun w => Bk.new w _ _
  have HS : Hid ((Try.prog.info? 66).map (·.size) = some 19) := info_m19
  have HB1 : Hid (Below w.heap.size w (w.alloc (.cells #[.int .u32 1, .int .u32 1, .int .u32 2, .int .i64 9, .int .i64 5, .bool false] 53))) := (Below.refl _ _).alloc (Nat.le_refl _) _
  have HS1 : Hid (Bk (w.alloc (.cells #[.int .u32 1, .int .u32 1, .int .u32 2, .int .i64 9, .int .i64 5, .bool false] 53)) w.heap.size 53 #[.int .u32 1, .int .u32 1, .int .u32 2, .int .i64 9, .int .i64 5, .bool false]) := Bk.new w _ _
  go_enter Try.func35, Try.ntmps35
  go_wp2_with (first
    | (refine wpList_storeBk rfl 66 (.tmp 2) (.tmp 7) rfl (w.heap.size + 1) (by rfl) #[.int .i64 1, .int .u32 2, .int .i64 90, .int .u32 2, .bool true, .slice none 0 0, .int .i64 0, .int .i64 0, .slice none 0 0, .int .u32 0, .int .u32 0, .int .u32 0, .int .u32 0, .int .u32 0, .slice none 0 0, .slice none 0 0, .int .i64 0, .int .i64 0, .slice none 0 0] (by rfl) 66 #[.int .i64 0, .int .u32 0, .int .i64 0, .int .u32 0, .bool false, .slice none 0 0, .int .i64 0, .int .i64 0, .slice none 0 0, .int .u32 0, .int .u32 0, .int .u32 0, .int .u32 0, .int .u32 0, .slice none 0 0, .slice none 0 0, .int .i64 0, .int .i64 0, .slice none 0 0] (by have h := HZ.out (w.alloc (.cells #[.int .u32 1, .int .u32 1, .int .u32 2, .int .i64 9, .int .i64 5, .bool false] 53)); simpa using h) HS.out rfl (by rfl) ?_; intro w2 h2 hc2 hs2; have hb2 : Below (w.alloc (.cells #[.int .u32 1, .int .u32 1, .int .u32 2, .int .i64 9, .int .i64 5, .bool false] 53)).heap.size (w.alloc (.cells #[.int .u32 1, .int .u32 1, .int .u32 2, .int .i64 9, .int .i64 5, .bool false] 53)) w2 := ((Below.refl _ _).alloc (Nat.le_refl _) _).trans (hc2.below (fun k e => by rw [e]; simp) (by simp)); have H2 := Lib.hid (And.intro h2 (HB1.out.trans (hb2.mono (by simp)))); have hs2' := HS1.out.below hb2 (by simp); have ks := fun i => hs2'.cell i; have ks1 := hs2'.lt; clear h2 hc2 hs2 hb2 hs2')
    | (refine wpList_loadBk rfl 66 (.tmp 2) rfl (w.heap.size + 1) (by rfl) 66 #[.int .i64 1, .int .u32 2, .int .i64 90, .int .u32 2, .bool true, .slice none 0 0, .int .i64 0, .int .i64 0, .slice none 0 0, .int .u32 0, .int .u32 0, .int .u32 0, .int .u32 0, .int .u32 0, .slice none 0 0, .slice none 0 0, .int .i64 0, .int .i64 0, .slice none 0 0] _ H2.out.1 Try.underlying66 (by rfl) HS.out ?_))
  refine (HRun.out w2).mono ?_
  rintro r w5 ⟨A5, c5, xs, rfl, ho5, hor, _, hb5⟩
  have HB5 := Lib.hid (H2.out.2.trans (((Below.refl _ _).alloc (Nat.le_refl _) _).trans (hb5.mono (by simp)) |>.mono H2.out.2.size))
  obtain ⟨b, off, rfl, _, hbl, hc⟩ := ho5.rg.2 (by omega)
  have k18 : w5.cell? ⟨b, off + 18, none⟩ = some (.bool true) := hc 18 _ (rows_at hor 3 _ rfl)
  simp only [fsV, estF]
  clear ho5 hor hb5 hc ks ks1 HRun HZ HS1 HB1 H2 HS
  go_wp2_with fail
  go_ret
  exact ⟨rfl, HB5.out.alloc HB5.out.size _⟩
end Go.Proofs.Ytbhhkjkjihenoaa.fsm
