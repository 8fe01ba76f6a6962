/- The walk of the law TallyTimes: the Go text returns true and writes nothing that was there. No condition. -/
import Derived.Test.YtpggdofleehmdaaTally
namespace Go.Proofs.Ytpggdofleehmdaa.tallyTimes
open Go.RowKit Go.Proofs.Ytpggdofleehmdaa.kit Go.Proofs.Ytpggdofleehmdaa.mem Go.Proofs.Ytpggdofleehmdaa.tally
set_option linter.unusedVariables false
set_option linter.unusedSimpArgs false

theorem prod_bd (a b : Int) (ha : -128 ≤ a ∧ a ≤ 127) (hb : -128 ≤ b ∧ b ≤ 127) : -16384 ≤ a * b ∧ a * b ≤ 16384 := by
  have h : (a * b).natAbs ≤ 128 * 128 := by rw [Int.natAbs_mul]; exact Nat.mul_le_mul (by omega) (by omega)
  omega
theorem far_near (a b : Int) (ha : -1048576 ≤ a ∧ a ≤ 1048576) (hb : -1048576 ≤ b ∧ b ≤ 1048576) : farv a b = a * a + b * b := by
  unfold farv; rw [if_pos]; simp [isNear]; omega
theorem times_eq (p q r s : Int) (hp : -128 ≤ p ∧ p ≤ 127) (hq : -128 ≤ q ∧ q ≤ 127) (hr : -128 ≤ r ∧ r ≤ 127) (hs : -128 ≤ s ∧ s ≤ 127) : farv (p * r - q * s) (p * s + q * r) = farv p q * farv r s := by
  have h1 := prod_bd p r hp hr
  have h2 := prod_bd q s hq hs
  have h3 := prod_bd p s hp hs
  have h4 := prod_bd q r hq hr
  rw [far_near _ _ (by omega) (by omega), far_near p q (by omega) (by omega), far_near r s (by omega) (by omega)]
  grind
theorem far_le (p q : Int) (hp : -128 ≤ p ∧ p ≤ 127) (hq : -128 ≤ q ∧ q ≤ 127) : 0 ≤ farv p q ∧ farv p q ≤ 32768 := by
  rw [far_near p q (by omega) (by omega)]
  have := sq_nonneg p
  have := sq_nonneg q
  have := prod_bd p p hp hp
  have := prod_bd q q hq hq
  omega

set_option maxRecDepth 100000 in
theorem core (p q r s : Int) (W : World) (hp : -128 ≤ p ∧ p ≤ 127) (hq : -128 ≤ q ∧ q ≤ 127) (hr : -128 ≤ r ∧ r ≤ 127) (hs : -128 ≤ s ∧ s ≤ 127) :
    Calls Try.prog 5 #[.agg #[.int .i8 p, .int .i8 q], .agg #[.int .i8 r, .int .i8 s]] W fun e w' => e = .returned (.bool true) ∧ Below W.heap.size W w' := by
  obtain ⟨b1, c1⟩ := prod_bd p r hp hr
  obtain ⟨b2, c2⟩ := prod_bd q s hq hs
  obtain ⟨b3, c3⟩ := prod_bd p s hp hs
  obtain ⟨b4, c4⟩ := prod_bd q r hq hr
  have heq := times_eq p q r s hp hq hr hs
  have hl1 := far_le p q hp hq
  have hl2 := far_le r s hr hs
  have HF1 := Lib.hid (far_any (p * r - q * s) (p * s + q * r))
  have HF2 := Lib.hid (far_any p q)
  have HF3 := Lib.hid (far_any r s)
  rw [heq] at HF1
  generalize farv p q = u at *
  generalize farv r s = v at *
  obtain ⟨l1, l2⟩ := hl1
  obtain ⟨l3, l4⟩ := hl2
  obtain ⟨d1, d2⟩ := hp
  obtain ⟨d3, d4⟩ := hq
  obtain ⟨d5, d6⟩ := hr
  obtain ⟨d7, d8⟩ := hs
  have m1 : 0 ≤ u * v := Int.mul_nonneg l1 l3
  have m2 : u * v ≤ 32768 * 32768 := Int.mul_le_mul l2 l4 l3 (by omega)
  have m3 : u * v ≤ 1073741824 := by omega
  clear heq m2
  have w1 : IntKind.i64.wrap p = p := IntWalk.i64_in _ (by omega)
  have w2 : IntKind.i64.wrap q = q := IntWalk.i64_in _ (by omega)
  have w3 : IntKind.i64.wrap r = r := IntWalk.i64_in _ (by omega)
  have w4 : IntKind.i64.wrap s = s := IntWalk.i64_in _ (by omega)
  go_enter Try.func5, Try.ntmps5
  go_wp2_with fail
  go_quiet (fail)
  clear w1 w2 w3 w4
  go_wp2_with (first
    | (go_at_call 21; (with_reducible refine (HF1.out _).mono ?_); rintro e w1 ⟨rfl, hb1⟩)
    | (go_at_call 21; (with_reducible refine (HF2.out _).mono ?_); rintro e w2 ⟨rfl, hb2⟩)
    | (go_at_call 21; (with_reducible refine (HF3.out _).mono ?_); rintro e w3 ⟨rfl, hb3⟩)
    | (go_at_call 22; refine (lives_any _).mono ?_; rintro e w4 ⟨rfl, hb4⟩))
  go_ret
  have k1 := (below_drewN (Go.Joins.below_alloc2 W _ _) _).trans (hb1.mono (by simp; omega))
  have k2 := k1.trans (hb2.mono k1.size)
  have k3 := k2.trans (hb3.mono k2.size)
  exact ⟨rfl, k3.trans (hb4.mono k3.size)⟩

set_option maxRecDepth 100000 in
theorem walk {H : Type} {enc : TypeId × Value → H} {W : World} {base : Nat} {v0 v1 : Value} {d0 d1 : DataW H} {p0 p1 : List MemPlace}
    (hv0 : Value.okWide Try.prog W .any base 31 v0) (h0 : DataW.Trod enc Try.prog W 0 (fun _ => true) true 31 v0 d0 p0) (hv1 : Value.okWide Try.prog W .any base 31 v1) (h1 : DataW.Trod enc Try.prog W 0 (fun _ => true) true 31 v1 d1 p1) :
    Calls Try.prog 5 #[v0, v1] W fun e w' => e = .returned (.bool true) ∧ Below W.heap.size W w' := by
  obtain ⟨p, q, rfl, wp, wq⟩ := open_arr2 Try.underlying31 Try.underlying30 (by kernel_rfl) (by kernel_rfl) hv0 h0
  obtain ⟨r, s, rfl, wr, ws⟩ := open_arr2 Try.underlying31 Try.underlying30 (by kernel_rfl) (by kernel_rfl) hv1 h1
  exact core p q r s W (wf_i8 wp) (wf_i8 wq) (wf_i8 wr) (wf_i8 ws)
end Go.Proofs.Ytpggdofleehmdaa.tallyTimes
