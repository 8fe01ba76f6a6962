/- What fsm's Step and Run return. Conditions: at most ten events. -/
import Derived.Test.YtbhhkjkjihenoaaFsmRun
namespace Go.Proofs.Ytbhhkjkjihenoaa.fsm
open Go.RowKit Go.Proofs.Ytbhhkjkjihenoaa.kit Go.Proofs.Ytbhhkjkjihenoaa.mem Go.Proofs.Ytbhhkjkjihenoaa.foot
set_option linter.unusedVariables false
set_option linter.unusedSimpArgs false

theorem step_handed2 {w w7 : World} {g3 g4 : Nat} {f' : Fs} {o' : Ot} {A : Option Addr} {n c : Nat} {X : List Value} (j3 : Bk w7 g3 70 (fsV (f0 0)).toArray) (j4 : Bk w7 g4 76 (otV none 0 0 ⟨false, false, false, false⟩).toArray) (e3 : g3 ≠ g4)
    (hown : Own w7 66 19 A n c X) (hA : ∀ k, sf A k → k ≠ g3 ∧ k ≠ g4) (hB : Below w.heap.size w w7) (h3 : w.heap.size ≤ g3) (h4 : w.heap.size ≤ g4) :
    (stores (stores w7 g3 0 (fsV f')) g4 0 (otV A n c o')).heap[g3]? = some (.cells (fsV f').toArray 70 (0, 0)) ∧
    (stores (stores w7 g3 0 (fsV f')) g4 0 (otV A n c o')).heap[g4]? = some (.cells (otV A n c o').toArray 76 (0, 0)) ∧
    Own (stores (stores w7 g3 0 (fsV f')) g4 0 (otV A n c o')) 66 19 A n c X ∧ Below w.heap.size w (stores (stores w7 g3 0 (fsV f')) g4 0 (otV A n c o')) := by
  have a1 := stores_all (fsV f') j3 rfl
  have a2 := stores_far (fsV f') 0 j4 (Ne.symm e3)
  have a3 := stores_all (otV A n c o') a2 rfl
  have a4 := stores_far (otV A n c o') 0 a1 e3
  have c1 := stores_chg (g := g3) (fsV f') 0 w7
  have c2 := stores_chg (g := g4) (otV A n c o') 0 (stores w7 g3 0 (fsV f'))
  refine ⟨a4, a3, ?_, ?_⟩
  · exact ((hown.chg c1 fun k _ hk e => (hA k hk).1 e).chg c2 fun k _ hk e => (hA k hk).2 e)
  · have b1 := hB.trans (c1.below (fun k e => by rw [e]; exact h3) hB.size)
    exact b1.trans (c2.below (fun k e => by rw [e]; exact h4) b1.size)

set_option maxRecDepth 100000 in
set_option maxHeartbeats 1000000 in
theorem Step_any {s : Sd} {f f' : Fs} {o' : Ot} {e X : List Value} (he : e.length = 23) (hM : MStep s f e f' o' X) (w : World) :
    Calls Try.prog 34 #[.agg (sdV s).toArray, .agg (fsV f).toArray, .agg e.toArray] w (RetS w f' o' X) := by
  obtain ⟨w5, hw5⟩ : ∃ w5, w5 = ((((w.alloc (.cells (sdV s).toArray 53)).alloc (.cells (fsV f).toArray 70)).alloc (.cells e.toArray 68)).alloc (.cells (fsV (f0 0)).toArray 70)).alloc (.cells (otV none 0 0 ⟨false, false, false, false⟩).toArray 76) := ⟨_, rfl⟩
  have hs5 : w5.heap.size = w.heap.size + 5 := by rw [hw5]; simp
  have hB5 : Below w.heap.size w w5 := by rw [hw5]; exact (((((Below.refl _ _).alloc (Nat.le_refl _) _).alloc (by simp) _).alloc (by simp; omega) _).alloc (by simp; omega) _).alloc (by simp; omega) _
  have hk2 : Bk w5 (w.heap.size + 2) 68 e.toArray := by
    rw [hw5]
    have h := Bk.new ((w.alloc (.cells (sdV s).toArray 53)).alloc (.cells (fsV f).toArray 70)) 68 e.toArray
    have h2 := h.below ((((Below.refl _ _).alloc (Nat.le_refl _) (.cells (fsV (f0 0)).toArray 70))).alloc (by simp) (.cells (otV none 0 0 ⟨false, false, false, false⟩).toArray 76)) (by simp)
    simpa using h2
  have hk3 : Bk w5 (w.heap.size + 3) 70 (fsV (f0 0)).toArray := by
    rw [hw5]
    have h := Bk.new (((w.alloc (.cells (sdV s).toArray 53)).alloc (.cells (fsV f).toArray 70)).alloc (.cells e.toArray 68)) 70 (fsV (f0 0)).toArray
    have h2 := h.below ((Below.refl _ _).alloc (Nat.le_refl _) (.cells (otV none 0 0 ⟨false, false, false, false⟩).toArray 76)) (by simp)
    simpa using h2
  have hk4 : Bk w5 (w.heap.size + 4) 76 (otV none 0 0 ⟨false, false, false, false⟩).toArray := by
    rw [hw5]
    have h := Bk.new ((((w.alloc (.cells (sdV s).toArray 53)).alloc (.cells (fsV f).toArray 70)).alloc (.cells e.toArray 68)).alloc (.cells (fsV (f0 0)).toArray 70)) 76 (otV none 0 0 ⟨false, false, false, false⟩).toArray
    simpa using h
  have hC := step_any he hM w5
  have HC := Lib.hid hC
  have HK := Lib.hid (And.intro hk2 (And.intro hk3 (And.intro hk4 (And.intro hB5 hs5))))
  have HE : Hid ((Try.prog.info? 68).map (·.size) = some e.toArray.size) := by rw [List.size_toArray, he]; exact info_ev
  clear hC hk2 hk3 hk4 hM he hB5 hs5
  obtain ⟨s0, s1, s2, s3, s4, s5⟩ := s
  obtain ⟨f0', f1, f2, f3, f4, p0, p1, p2, p3⟩ := f
  unfold sdV fsV otV fsm.f0 at hw5
  unfold sdV fsV
  unfold sdV fsV at HC
  dsimp only at hw5 HC HK ⊢
  rw [hw5] at HC HK
  clear hw5
  go_enter Try.func34, Try.ntmps34
  go_wp2_with (refine wpList_loadBk rfl 68 (.tmp 5) rfl (w.heap.size + 2) (by rfl) 68 e.toArray _ HK.out.1 Try.underlying68 (by rfl) HE.out ?_)
  refine HC.out.mono ?_
  rintro r w7 ⟨A, n, c, rfl, hown, hA, hb7⟩
  obtain ⟨hk2, hk3, hk4, hB5, hs5⟩ := HK.out
  have j3 : Bk w7 (w.heap.size + 1 + 1 + 1) 70 (fsV (fsm.f0 0)).toArray := Bk.below hk3 hb7 hk3.lt
  have j4 : Bk w7 (w.heap.size + 1 + 1 + 1 + 1) 76 (otV none 0 0 ⟨false, false, false, false⟩).toArray := Bk.below hk4 hb7 hk4.lt
  have hB7 : Below w.heap.size w w7 := hB5.trans (hb7.mono (by omega))
  rw [hs5] at hA
  have hgt : w.heap.size ≤ w.heap.size + 1 + 1 + 1 := by omega
  clear HC HK hk2 hk3 hk4 hB5 hs5 hb7
  obtain ⟨g4, hg4⟩ : ∃ m, m = w.heap.size + 1 + 1 + 1 + 1 := ⟨_, rfl⟩
  obtain ⟨g3, hg3⟩ : ∃ m, m = w.heap.size + 1 + 1 + 1 := ⟨_, rfl⟩
  rw [← hg4] at j4 ⊢
  rw [← hg3] at j3 hgt ⊢
  have e3 : g3 ≠ g4 := by omega
  have e4 : g4 ≠ g3 := by omega
  have hle4 : w.heap.size ≤ g4 := by omega
  have hA2 : ∀ k, sf A k → k ≠ g3 ∧ k ≠ g4 := fun k hk => by have := hA k hk; constructor <;> omega
  have hA3 : ∀ k, sf A k → w.heap.size ≤ k := fun k hk => by have := hA k hk; omega
  clear hg4 hg3 hA
  have t3 := fun i => j3.cell i
  have t3l := j3.lt
  have t3f := fun i => j3.free i
  have t4 := fun i => j4.cell i
  have t4l := j4.lt
  have t4f := fun i => j4.free i
  have HX := Lib.hid (And.intro hown (And.intro j3 (And.intro j4 (And.intro hB7 (And.intro hA2 (And.intro hA3 hle4))))))
  simp only [fsV, fsm.f0] at t3
  simp only [otV] at t4
  simp only [fsV, otV]
  clear hown j3 j4 hB7 hA2 hA3
  go_wp2_with fail
  obtain ⟨hown, j3, j4, hB7, hA2, hA3, hle4⟩ := HX.out
  obtain ⟨q3, q4, qo, qb⟩ := step_handed2 (f' := f') (o' := o') j3 j4 e3 hown hA2 hB7 hgt hle4
  refine bodyPost_ret (res_cc rfl _ _ g3 g4 70 76 (fsV f').toArray (otV A n c o').toArray (0, 0) (0, 0) _ _ rfl q3 Try.underlying70 rfl info_fs rfl q4 Try.underlying76 rfl info_out) rfl ?_
  exact ⟨A, n, c, rfl, qo, hA3, qb⟩
end Go.Proofs.Ytbhhkjkjihenoaa.fsm
