/- What fsm's step, Step, Run return. Conditions as each lemma states. -/
import Derived.Test.YtbhhkjkjihenoaaFsmStep
namespace Go.Proofs.Ytbhhkjkjihenoaa.fsm
open Go.RowKit Go.Proofs.Ytbhhkjkjihenoaa.kit Go.Proofs.Ytbhhkjkjihenoaa.mem Go.Proofs.Ytbhhkjkjihenoaa.foot
set_option linter.unusedVariables false
set_option linter.unusedSimpArgs false

theorem info_fs : (Try.prog.info? 70).map (·.size) = some 9 := by kernel_rfl
theorem info_out : (Try.prog.info? 76).map (·.size) = some 5 := by kernel_rfl
def otV (A : Option Addr) (n c : Nat) (o : Ot) : List Value := [.slice A n c, .bool o.con, .bool o.cls, .bool o.up, .bool o.lost]

/-- a new machine -/
theorem Mc.new (w : World) (s : Sd) (f : Fs) : Mc (w.alloc (.cells (mcV s f none 0 0 ⟨false, false, false, false⟩) 172)) (fun k => k = w.heap.size) w.heap.size s f ⟨false, false, false, false⟩ [] :=
  ⟨⟨none, 0, 0, Bk.new w _ _, Own.none_ _ _ _, fun k hk => absurd hk (sf_none k), sf_none _, by omega⟩, (fun u hu => by cases hu), rfl, fun k hk => by simp [hk]⟩

/-- what is handed back -/
def RetS (w : World) (f' : Fs) (o' : Ot) (X : List Value) (r : Ending) (w' : World) : Prop :=
  ∃ A n c, r = .returned (.tuple #[.agg (fsV f').toArray, .agg (otV A n c o').toArray]) ∧ Own w' 66 19 A n c X ∧ (∀ k, sf A k → w.heap.size ≤ k) ∧ Below w.heap.size w w'

theorem bk_drew1 {w : World} {g : Nat} {t : TypeId} {cs : Array Value} (h : Bk w g t cs) : w.drew.heap[g]? = some (.cells cs t (0, 0)) := h
theorem step_handed {w w7 : World} {g3 g4 : Nat} {f' : Fs} {o' : Ot} {A : Option Addr} {n c : Nat} {X : List Value} (j3 : Bk w7 g3 70 (fsV (f0 0)).toArray) (j4 : Bk w7 g4 76 (otV none 0 0 ⟨false, false, false, false⟩).toArray) (e3 : g3 ≠ g4)
    (hown : Own w7 66 19 A n c X) (hA : ∀ k, sf A k → k ≠ g3 ∧ k ≠ g4) (hB : Below w.heap.size w w7) (h3 : w.heap.size ≤ g3) (h4 : w.heap.size ≤ g4) :
    (stores (stores w7 g3 0 (fsV f')) g4 0 (otV A n c o')).drew.heap[g3]? = some (.cells (fsV f').toArray 70 (0, 0)) ∧
    (stores (stores w7 g3 0 (fsV f')) g4 0 (otV A n c o')).drew.heap[g4]? = some (.cells (otV A n c o').toArray 76 (0, 0)) ∧
    Own (stores (stores w7 g3 0 (fsV f')) g4 0 (otV A n c o')).drew 66 19 A n c X ∧ Below w.heap.size w (stores (stores w7 g3 0 (fsV f')) g4 0 (otV A n c o')).drew := by
  have a1 := stores_all (fsV f') j3 rfl
  have a2 := stores_far (fsV f') 0 j4 (Ne.symm e3)
  have a3 := stores_all (otV A n c o') a2 rfl
  have a4 := stores_far (otV A n c o') 0 a1 e3
  have c1 := stores_chg (g := g3) (fsV f') 0 w7
  have c2 := stores_chg (g := g4) (otV A n c o') 0 (stores w7 g3 0 (fsV f'))
  refine ⟨bk_drew1 a4, bk_drew1 a3, ?_, ?_⟩
  · exact ((hown.chg c1 fun k _ hk e => (hA k hk).1 e).chg c2 fun k _ hk e => (hA k hk).2 e).bel (Below.refl _ _).drew
  · have b1 := hB.trans (c1.below (fun k e => by rw [e]; exact h3) hB.size)
    exact (b1.trans (c2.below (fun k e => by rw [e]; exact h4) b1.size)).drew

set_option maxRecDepth 100000 in
set_option maxHeartbeats 1000000 in
theorem step_any {s : Sd} {f f' : Fs} {o' : Ot} {e X : List Value} (he : e.length = 23) (hM : MStep s f e f' o' X) (w : World) :
    Calls Try.prog 85 #[.agg (sdV s).toArray, .agg (fsV f).toArray, .agg e.toArray] w (RetS w f' o' X) := by
  obtain ⟨w5, hw5⟩ : ∃ w5, w5 = ((((w.alloc (.cells (sdV s).toArray 53)).alloc (.cells (fsV f).toArray 70)).alloc (.cells e.toArray 68)).alloc (.cells (fsV (f0 0)).toArray 70)).alloc (.cells (otV none 0 0 ⟨false, false, false, false⟩).toArray 76) := ⟨_, rfl⟩
  have hs5 : w5.heap.size = w.heap.size + 5 := by rw [hw5]; simp
  have hB5 : Below w.heap.size w w5 := by rw [hw5]; exact (((((Below.refl _ _).alloc (Nat.le_refl _) _).alloc (by simp) _).alloc (by simp; omega) _).alloc (by simp; omega) _).alloc (by simp; omega) _
  have hk2 : Bk w5 (w.heap.size + 2) 68 e.toArray := by
    rw [hw5]
    have h := Bk.new ((w.alloc (.cells (sdV s).toArray 53)).alloc (.cells (fsV f).toArray 70)) 68 e.toArray
    have h2 := h.below ((((Below.refl _ _).alloc (Nat.le_refl _) (.cells (fsV (f0 0)).toArray 70))).alloc (by simp) (.cells (otV none 0 0 ⟨false, false, false, false⟩).toArray 76)) (by simp)
    simpa using h2
  have hk3 : Bk w5 (w.heap.size + 3) 70 (fsV (f0 0)).toArray := by
    rw [hw5]
    have h := Bk.new (((w.alloc (.cells (sdV s).toArray 53)).alloc (.cells (fsV f).toArray 70)).alloc (.cells e.toArray 68)) 70 (fsV (f0 0)).toArray
    have h2 := h.below ((Below.refl _ _).alloc (Nat.le_refl _) (.cells (otV none 0 0 ⟨false, false, false, false⟩).toArray 76)) (by simp)
    simpa using h2
  have hk4 : Bk w5 (w.heap.size + 4) 76 (otV none 0 0 ⟨false, false, false, false⟩).toArray := by
    rw [hw5]
    have h := Bk.new ((((w.alloc (.cells (sdV s).toArray 53)).alloc (.cells (fsV f).toArray 70)).alloc (.cells e.toArray 68)).alloc (.cells (fsV (f0 0)).toArray 70)) 76 (otV none 0 0 ⟨false, false, false, false⟩).toArray
    simpa using h
  have hm6 := Mc.new w5 s f
  have hC := hM _ _ _ hm6
  have hk2' := hk2.below ((Below.refl _ _).alloc (Nat.le_refl _) (.cells (mcV s f none 0 0 ⟨false, false, false, false⟩) 172)) hk2.lt
  have hk3' := hk3.below ((Below.refl _ _).alloc (Nat.le_refl _) (.cells (mcV s f none 0 0 ⟨false, false, false, false⟩) 172)) hk3.lt
  have hk4' := hk4.below ((Below.refl _ _).alloc (Nat.le_refl _) (.cells (mcV s f none 0 0 ⟨false, false, false, false⟩) 172)) hk4.lt
  have hB6 := hB5.alloc hB5.size (.cells (mcV s f none 0 0 ⟨false, false, false, false⟩) 172)
  rw [hs5] at hC
  have hsz : (w5.alloc (.cells (mcV s f none 0 0 ⟨false, false, false, false⟩) 172)).heap.size = w.heap.size + 6 := by simp [hs5]
  have HC := Lib.hid hC
  have HK := Lib.hid (And.intro hk2' (And.intro hk3' (And.intro hk4' (And.intro hB6 hsz))))
  have HE : Hid ((Try.prog.info? 68).map (·.size) = some e.toArray.size) := by rw [List.size_toArray, he]; exact info_ev
  clear hC hk2 hk3 hk4 hk2' hk3' hk4' hm6 hM he hB5 hB6 hs5 hsz
  obtain ⟨s0, s1, s2, s3, s4, s5⟩ := s
  obtain ⟨f0', f1, f2, f3, f4, p0, p1, p2, p3⟩ := f
  unfold sdV fsV otV fsm.f0 at hw5
  unfold sdV fsV
  unfold mcV at HC HK
  dsimp only at hw5 HC HK ⊢
  rw [hw5] at HC HK
  clear hw5
  go_enter Try.func85, Try.ntmps85
  go_wp2_with (refine wpList_loadBk rfl 68 (.tmp 5) rfl (w.heap.size + 2) (by rfl) 68 e.toArray _ HK.out.1 Try.underlying68 (by rfl) HE.out ?_)
  refine HC.out.mono ?_
  rintro r w7 ⟨rfl, F1, hm7, hc7, hf7⟩
  obtain ⟨hk2, hk3, hk4, hB6, hsz⟩ := HK.out
  obtain ⟨A, n, c, hb7, hown, hsub, _, _⟩ := hm7.ex
  have j3 : Bk w7 (w.heap.size + 1 + 1 + 1) 70 (fsV (fsm.f0 0)).toArray := Bk.chg hk3 hc7 (by show ¬ _; omega)
  have j4 : Bk w7 (w.heap.size + 1 + 1 + 1 + 1) 76 (otV none 0 0 ⟨false, false, false, false⟩).toArray := Bk.chg hk4 hc7 (by show ¬ _; omega)
  have hB7 : Below w.heap.size w w7 := hB6.trans (hc7.below (fun k e => by omega) (by omega))
  have hA : ∀ k, sf A k → w.heap.size + 1 + 1 + 1 + 1 + 1 ≤ k := fun k hk => by
    rcases hf7 k (hsub k hk) with g | g
    · omega
    · omega
  have hb7' : Bk w7 (w.heap.size + 1 + 1 + 1 + 1 + 1) _ _ := hb7
  have hnm : ¬ sf A (w.heap.size + 1 + 1 + 1 + 1 + 1) := by assumption
  have hgt : w.heap.size ≤ w.heap.size + 1 + 1 + 1 := by omega
  clear HC HK hk2 hk3 hk4 hB6 hsz hm7 hc7 hf7 hsub hb7
  obtain ⟨m, hm⟩ : ∃ m, m = w.heap.size + 1 + 1 + 1 + 1 + 1 := ⟨_, rfl⟩
  obtain ⟨g4, hg4⟩ : ∃ m, m = w.heap.size + 1 + 1 + 1 + 1 := ⟨_, rfl⟩
  obtain ⟨g3, hg3⟩ : ∃ m, m = w.heap.size + 1 + 1 + 1 := ⟨_, rfl⟩
  rw [← hm] at hb7' hA hnm ⊢
  rw [← hg4] at j4 ⊢
  rw [← hg3] at j3 hgt ⊢
  have e1 : m ≠ g3 := by omega
  have e2 : m ≠ g4 := by omega
  have e3 : g3 ≠ g4 := by omega
  have e4 : g4 ≠ g3 := by omega
  have hle4 : w.heap.size ≤ g4 := by omega
  have hlt : g4 < m := by omega
  have hlt3 : g3 < m := by omega
  clear hm hg4 hg3
  have qa := fun i => hb7'.cell i
  have ql := hb7'.lt
  have qf := fun i => hb7'.free i
  have t3 := fun i => j3.cell i
  have t3l := j3.lt
  have t3f := fun i => j3.free i
  have t4 := fun i => j4.cell i
  have t4l := j4.lt
  have t4f := fun i => j4.free i
  have HX := Lib.hid (And.intro hb7' (And.intro hown (And.intro j3 (And.intro j4 (And.intro hB7 (And.intro hA (And.intro hle4 (And.intro hlt (And.intro hgt hlt3)))))))))
  simp only [mcV] at qa
  simp only [fsV, fsm.f0] at t3
  simp only [otV] at t4
  clear hb7' hown j3 j4 hB7 hA hnm
  go_wp2_with fail
  go_region_held3 (fun w' => w'.cell? ⟨m, 6, none⟩ = some (.int .i64 f'.st) ∧ w'.cell? ⟨m, 7, none⟩ = some (.int .i64 f'.hold) ∧ w'.cell? ⟨m, 8, none⟩ = some (.int .i64 f'.hl) ∧ w'.cell? ⟨m, 9, none⟩ = some (.int .i64 f'.kl) ∧ w'.cell? ⟨m, 10, none⟩ = some (.int .i64 f'.rl) ∧ w'.cell? ⟨m, 11, none⟩ = some (.int .u32 f'.p0) ∧ w'.cell? ⟨m, 12, none⟩ = some (.int .i64 f'.p1) ∧ w'.cell? ⟨m, 13, none⟩ = some (.int .u32 f'.p2) ∧ w'.cell? ⟨m, 14, none⟩ = some (.bool f'.p3) ∧ w'.cell? ⟨m, 15, none⟩ = some (.slice A n c) ∧ w'.cell? ⟨m, 16, none⟩ = some (.bool o'.con) ∧ w'.cell? ⟨m, 17, none⟩ = some (.bool o'.cls) ∧ w'.cell? ⟨m, 18, none⟩ = some (.bool o'.up) ∧ w'.cell? ⟨m, 19, none⟩ = some (.bool o'.lost)) (exact ⟨by go_simp, by go_simp, by go_simp, by go_simp, by go_simp, by go_simp, by go_simp, by go_simp, by go_simp, by go_simp, by go_simp, by go_simp, by go_simp, by go_simp⟩) (fail)
  all_goals
    go_wp2_with fail
  obtain ⟨hb7, hown, j3, j4, hB7, hA, hle4, hlt, hgt, hlt3⟩ := HX.out
  obtain ⟨q3, q4, qo, qb⟩ := step_handed (f' := f') (o' := o') j3 j4 e3 hown (fun k hk => by have := hA k hk; constructor <;> omega) hB7 hgt hle4
  refine bodyPost_ret (res_cc rfl _ _ g3 g4 70 76 (fsV f').toArray (otV A n c o').toArray (0, 0) (0, 0) _ _ rfl q3 Try.underlying70 rfl info_fs rfl q4 Try.underlying76 rfl info_out) rfl ?_
  exact ⟨A, n, c, rfl, qo, fun k hk => by have := hA k hk; omega, qb⟩
end Go.Proofs.Ytbhhkjkjihenoaa.fsm
