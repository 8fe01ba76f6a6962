/- The walk of the law TallyFar: the Go text returns true and writes nothing that was there. No condition. -/
import Derived.Test.YtpggdofleehmdaaTally
namespace Go.Proofs.Ytpggdofleehmdaa.tallyFar
open Go.RowKit Go.Proofs.Ytpggdofleehmdaa.kit Go.Proofs.Ytpggdofleehmdaa.mem Go.Proofs.Ytpggdofleehmdaa.tally
set_option linter.unusedVariables false
set_option linter.unusedSimpArgs false

theorem small_any (n : Int) (w : World) : Calls Try.prog 27 #[.int .i64 n] w fun e w' => e = .returned (.bool (isNear n)) ∧ w = w' := by
  have HN : Hid (isNear n = (decide (-1048576 ≤ n) && decide (n ≤ 1048576))) := rfl
  rcases Int.lt_or_le n (-1048576) with h | h
  · have e1 : decide (-1048576 ≤ n) = false := by simp; omega
    go_enter Try.func27, Try.ntmps27
    go_wp2_with fail
    go_ret
    exact ⟨by rw [HN.out, e1]; rfl, rfl⟩
  · have e1 : decide (-1048576 ≤ n) = true := by simp; omega
    go_enter Try.func27, Try.ntmps27
    go_wp2_with fail
    go_ret
    exact ⟨by rw [HN.out, e1]; rfl, rfl⟩

theorem apart_comm (a b c d : Int) : apartv c d a b = apartv a b c d := by
  unfold apartv
  have h : ∀ x y : Int, (x - y) * (x - y) = (y - x) * (y - x) := fun x y => by
    rw [show y - x = -(x - y) from by omega, Int.neg_mul_neg]
  rw [h c a, h d b]
  have e : (isNear c && isNear d && isNear a && isNear b) = (isNear a && isNear b && isNear c && isNear d) := by
    cases isNear a <;> cases isNear b <;> cases isNear c <;> cases isNear d <;> rfl
  rw [e]
/-- both arrays' cells where nothing was written to them -/
def Two (W : World) (a b c d : Int) (w : World) : Prop :=
  Below W.heap.size W w ∧ w.cell? ⟨W.heap.size, 0, none⟩ = some (.int .i64 a) ∧ w.cell? ⟨W.heap.size, 1, none⟩ = some (.int .i64 b) ∧ w.cell? ⟨W.heap.size + 1, 0, none⟩ = some (.int .i64 c) ∧ w.cell? ⟨W.heap.size + 1, 1, none⟩ = some (.int .i64 d) ∧ W.heap.size + 1 < w.heap.size
theorem Two.bel {W w w' : World} {a b c d : Int} (h : Two W a b c d w) (hb : Below w.heap.size w w') : Two W a b c d w' := by
  obtain ⟨h0, h1, h2, h3, h4, h5⟩ := h
  exact ⟨h0.trans (hb.mono h0.size), (hb.cell (by show W.heap.size < _; omega)).trans h1, (hb.cell (by show W.heap.size < _; omega)).trans h2, (hb.cell h5).trans h3, (hb.cell h5).trans h4, by have := hb.size; omega⟩
theorem Two.start (W : World) (a b c d : Int) : Two W a b c d ((W.alloc (.cells #[.int .i64 a, .int .i64 b] 36)).alloc (.cells #[.int .i64 c, .int .i64 d] 36)) :=
  ⟨Go.Joins.below_alloc2 W _ _, by go_simp, by go_simp, by go_simp, by go_simp, by simp⟩

theorem near_b {n : Int} (h : isNear n = true) : -1048576 ≤ n ∧ n ≤ 1048576 := by simpa [isNear] using h
theorem sq_b (n : Int) (h : -2097152 ≤ n ∧ n ≤ 2097152) : 0 ≤ n * n ∧ n * n ≤ 4398046511104 := by
  have h1 := sq_nonneg n
  have h2 := sq_bound n 2097152 (by omega)
  omega

set_option maxRecDepth 100000 in
set_option maxHeartbeats 4000000 in
theorem core (a b c d : Int) (W : World) :
    Calls Try.prog 8 #[.agg #[.int .i64 a, .int .i64 b], .agg #[.int .i64 c, .int .i64 d]] W fun e w' => e = .returned (.bool true) ∧ Below W.heap.size W w' := by
  have HT := Lib.hid (Two.start W a b c d)
  have HF := Lib.hid (far_any a b)
  have HA1 := Lib.hid (apart_any a b c d)
  have HA2 := Lib.hid (apart_any c d a b)
  rw [apart_comm] at HA2
  have HS1 := Lib.hid (small_any a)
  have HS2 := Lib.hid (small_any b)
  have HS3 := Lib.hid (small_any c)
  have HS4 := Lib.hid (small_any d)
  have ef : farv a b = if (isNear a && isNear b) = true then a * a + b * b else 0 := rfl
  have ea : apartv a b c d = if (isNear a && isNear b && isNear c && isNear d) = true then (a - c) * (a - c) + (b - d) * (b - d) else 0 := rfl
  generalize farv a b = fv at *
  generalize apartv a b c d = av at *
  have hna : isNear a = true → -1048576 ≤ a ∧ a ≤ 1048576 := near_b
  have hnb : isNear b = true → -1048576 ≤ b ∧ b ≤ 1048576 := near_b
  have hnc : isNear c = true → -1048576 ≤ c ∧ c ≤ 1048576 := near_b
  have hnd : isNear d = true → -1048576 ≤ d ∧ d ≤ 1048576 := near_b
  generalize isNear a = na at *
  generalize isNear b = nb at *
  generalize isNear c = nc at *
  generalize isNear d = nd at *
  have hcases : na = false ∨ (na = true ∧ nb = false) ∨ (na = true ∧ nb = true ∧ nc = false) ∨ (na = true ∧ nb = true ∧ nc = true ∧ nd = false) ∨ (na = true ∧ nb = true ∧ nc = true ∧ nd = true) := by
    cases na <;> cases nb <;> cases nc <;> cases nd <;> simp
  rcases hcases with rfl | ⟨rfl, rfl⟩ | ⟨rfl, rfl, rfl⟩ | ⟨rfl, rfl, rfl, rfl⟩ | ⟨rfl, rfl, rfl, rfl⟩
  case' inr.inr.inl =>
    obtain ⟨a1, a2⟩ := hna rfl
    obtain ⟨b1, b2⟩ := hnb rfl
    obtain ⟨qa1, qa2⟩ := sq_b a (by omega)
    obtain ⟨qb1, qb2⟩ := sq_b b (by omega)
  case' inr.inr.inr.inl =>
    obtain ⟨a1, a2⟩ := hna rfl
    obtain ⟨b1, b2⟩ := hnb rfl
    obtain ⟨qa1, qa2⟩ := sq_b a (by omega)
    obtain ⟨qb1, qb2⟩ := sq_b b (by omega)
  case' inr.inr.inr.inr =>
    obtain ⟨a1, a2⟩ := hna rfl
    obtain ⟨b1, b2⟩ := hnb rfl
    obtain ⟨c1, c2⟩ := hnc rfl
    obtain ⟨d1, d2⟩ := hnd rfl
    obtain ⟨qa1, qa2⟩ := sq_b a (by omega)
    obtain ⟨qb1, qb2⟩ := sq_b b (by omega)
    obtain ⟨qc1, qc2⟩ := sq_b (a - c) (by omega)
    obtain ⟨qd1, qd2⟩ := sq_b (b - d) (by omega)
    have z1 : IntKind.i64.wrap (a - c) = a - c := IntWalk.i64_in _ (by omega)
    have z2 : IntKind.i64.wrap (b - d) = b - d := IntWalk.i64_in _ (by omega)
  all_goals
    simp only [Bool.false_and, Bool.and_false, Bool.true_and, Bool.and_true, Bool.false_eq_true, if_false, if_true] at ef ea
    subst ef ea
    clear hna hnb hnc hnd
    go_enter Try.func8, Try.ntmps8
    go_wp2_with (first
      | (go_at_call 27; (with_reducible refine (HS1.out _).mono ?_); rintro e w' ⟨rfl, rfl⟩)
      | (go_at_call 27; (with_reducible refine (HS2.out _).mono ?_); rintro e w' ⟨rfl, rfl⟩)
      | (go_at_call 27; (with_reducible refine (HS3.out _).mono ?_); rintro e w' ⟨rfl, rfl⟩)
      | (go_at_call 27; (with_reducible refine (HS4.out _).mono ?_); rintro e w' ⟨rfl, rfl⟩)
      | (go_at_call 21; refine (HF.out _).mono ?_; rintro e w1 ⟨rfl, hb1⟩; have HT1 := Lib.hid (HT.out.bel ⟨hb1.os, hb1.tape, hb1.output, hb1.size, hb1.block⟩); have k1 := HT1.out.2.1; have k2 := HT1.out.2.2.1; have k3 := HT1.out.2.2.2.1; have k4 := HT1.out.2.2.2.2.1; clear hb1)
      | (go_at_call 28; (with_reducible refine (HA1.out _).mono ?_); rintro e w2 ⟨rfl, hb2⟩; have HT2 := Lib.hid (HT1.out.bel hb2); have m1 := HT2.out.2.1; have m2 := HT2.out.2.2.1; have m3 := HT2.out.2.2.2.1; have m4 := HT2.out.2.2.2.2.1; clear hb2)
      | (go_at_call 28; (with_reducible refine (HA2.out _).mono ?_); rintro e w3 ⟨rfl, hb3⟩; have HT3 := Lib.hid (HT2.out.bel hb3); clear hb3)
      | (go_at_call 22; refine (lives_any _).mono ?_; rintro e w4 ⟨rfl, hb4⟩))
  all_goals first
    | (go_ret
       exact ⟨rfl, HT3.out.1.trans (hb4.mono HT3.out.1.size)⟩)
    | (go_quiet (fail)
       go_wp2_with (first
         | (go_at_call 27; (with_reducible refine (HS1.out _).mono ?_); rintro e w' ⟨rfl, rfl⟩)
         | (go_at_call 27; (with_reducible refine (HS2.out _).mono ?_); rintro e w' ⟨rfl, rfl⟩)
         | (go_at_call 27; (with_reducible refine (HS3.out _).mono ?_); rintro e w' ⟨rfl, rfl⟩)
         | (go_at_call 27; (with_reducible refine (HS4.out _).mono ?_); rintro e w' ⟨rfl, rfl⟩)
         | (go_at_call 21; refine (HF.out _).mono ?_; rintro e w1 ⟨rfl, hb1⟩; have HT1 := Lib.hid (HT.out.bel ⟨hb1.os, hb1.tape, hb1.output, hb1.size, hb1.block⟩); have k1 := HT1.out.2.1; have k2 := HT1.out.2.2.1; have k3 := HT1.out.2.2.2.1; have k4 := HT1.out.2.2.2.2.1; clear hb1)
         | (go_at_call 28; (with_reducible refine (HA1.out _).mono ?_); rintro e w2 ⟨rfl, hb2⟩; have HT2 := Lib.hid (HT1.out.bel hb2); have m1 := HT2.out.2.1; have m2 := HT2.out.2.2.1; have m3 := HT2.out.2.2.2.1; have m4 := HT2.out.2.2.2.2.1; clear hb2)
         | (go_at_call 28; (with_reducible refine (HA2.out _).mono ?_); rintro e w3 ⟨rfl, hb3⟩; have HT3 := Lib.hid (HT2.out.bel hb3); clear hb3)
         | (go_at_call 22; refine (lives_any _).mono ?_; rintro e w4 ⟨rfl, hb4⟩))
       go_ret
       exact ⟨rfl, HT3.out.1.trans (hb4.mono HT3.out.1.size)⟩)

set_option maxRecDepth 100000 in
theorem walk {H : Type} {enc : TypeId × Value → H} {W : World} {base : Nat} {v0 v1 : Value} {d0 d1 : DataW H} {p0 p1 : List MemPlace}
    (hv0 : Value.okWide Try.prog W .any base 36 v0) (h0 : DataW.Trod enc Try.prog W 0 (fun _ => true) true 36 v0 d0 p0) (hv1 : Value.okWide Try.prog W .any base 36 v1) (h1 : DataW.Trod enc Try.prog W 0 (fun _ => true) true 36 v1 d1 p1) :
    Calls Try.prog 8 #[v0, v1] W fun e w' => e = .returned (.bool true) ∧ Below W.heap.size W w' := by
  obtain ⟨a, b, rfl, _, _⟩ := open_arr2 Try.underlying36 Try.underlying3 (by kernel_rfl) (by kernel_rfl) hv0 h0
  obtain ⟨c, d, rfl, _, _⟩ := open_arr2 Try.underlying36 Try.underlying3 (by kernel_rfl) (by kernel_rfl) hv1 h1
  exact core a b c d W
end Go.Proofs.Ytpggdofleehmdaa.tallyFar
