/- What open.Good, confluenceref09.Good return, and open.Encode of an Open that may not be. Conditions as each lemma states. -/
import Derived.Test.YtajilbapjpfloaaOpenEnc
namespace Go.Proofs.Ytajilbapjpfloaa.openk
open Go.RowKit Go.Proofs.Ytajilbapjpfloaa.kit Go.Proofs.Ytajilbapjpfloaa.mem Go.Proofs.Ytajilbapjpfloaa.octet
set_option linter.unusedVariables false

theorem Good_any (n hold id : Int) (four : Bool) (w : World) :
    Calls Try.prog 53 #[.agg #[.int .u32 n, .int .i64 hold, .int .u32 id, .bool four]] w fun e w' => e = .returned (.bool (goodB n hold id four)) ∧ Below w.heap.size w w' := by
  have HG := fun w => Lib.hid (good_any n hold id four w)
  have hal : Below w.heap.size w (w.alloc (.cells #[.int .u32 n, .int .i64 hold, .int .u32 id, .bool four] 52)) := (Below.refl _ _).alloc (Nat.le_refl _) _
  have HAL := Lib.hid hal
  generalize goodB n hold id four = g at *
  clear hal
  go_enter Try.func53, Try.ntmps53
  go_wp2_with fail
  refine (HG _).out.mono ?_; rintro e w1 ⟨rfl, hb1⟩
  have HW := Lib.hid (HAL.out.trans (hb1.mono (by simp)))
  clear hb1
  go_wp2_with fail
  go_ret
  exact ⟨rfl, HW.out⟩

theorem Encode_no (n hold id : Int) (four : Bool) (w : World) (hg : goodB n hold id four = false) :
    Calls Try.prog 52 #[.agg #[.int .u32 n, .int .i64 hold, .int .u32 id, .bool four]] w fun e w' => e = .returned (.tuple #[.slice none 0 0, .int .i64 1]) ∧ Below w.heap.size w w' := by
  have hG := good_any n hold id four (w.alloc (.cells #[.int .u32 n, .int .i64 hold, .int .u32 id, .bool four] 52))
  rw [hg] at hG
  have HG := Lib.hid hG
  have HAL := Lib.hid ((Below.refl w.heap.size w).alloc (Nat.le_refl _) (.cells #[.int .u32 n, .int .i64 hold, .int .u32 id, .bool four] 52))
  clear hG hg
  go_enter Try.func52, Try.ntmps52
  go_wp2_with fail
  refine HG.out.mono ?_; rintro e w1 ⟨rfl, hb1⟩
  have HW := Lib.hid (HAL.out.trans (hb1.mono (by simp)))
  clear hb1
  go_wp2_with fail
  go_ret2
  exact ⟨rfl, HW.out⟩

set_option maxRecDepth 100000 in
theorem rGood_any (n hold id : Int) (four : Bool) (w : World) :
    Calls Try.prog 54 #[.agg #[.int .u32 n, .int .i64 hold, .int .u32 id, .bool four]] w fun e w' => e = .returned (.bool (goodB n hold id four)) ∧ Below w.heap.size w w' := by
  have HH := fun w => Lib.hid (rholds_any hold w)
  have hal : Below w.heap.size w (w.alloc (.cells #[.int .u32 n, .int .i64 hold, .int .u32 id, .bool four] 52)) := (Below.refl _ _).alloc (Nat.le_refl _) _
  have HAL := Lib.hid hal
  clear hal
  by_cases h0 : n = 0
  · have e : goodB n hold id four = false := by simp [goodB, h0]
    rw [e]
    subst h0
    go_enter Try.func54, Try.ntmps54
    go_wp2_with fail
    go_ret
    exact ⟨rfl, HAL.out⟩
  have m0 : (n == 0) = false := by simp [h0]
  have m0' : (n != 0) = true := by simp [h0]
  by_cases h1 : id = 0
  · have e : goodB n hold id four = false := by simp [goodB, h1]
    rw [e]
    subst h1
    go_enter Try.func54, Try.ntmps54
    go_wp2_with fail
    go_ret
    exact ⟨by simp, HAL.out⟩
  have m1 : (id == 0) = false := by simp [h1]
  have m1' : (id != 0) = true := by simp [h1]
  have e : goodB n hold id four = (holdsB hold && (four || decide (n ≤ 65535))) := by simp [goodB, h0, h1]
  rw [e]
  clear e
  generalize holdsB hold = hb at *
  cases hb
  · go_enter Try.func54, Try.ntmps54
    go_wp2_with (go_at_call 75; refine (HH _).out.mono ?_; rintro e w' ⟨rfl, rfl⟩)
    go_ret
    exact ⟨by simp, HAL.out⟩
  cases four
  · by_cases h2 : n ≤ 65535
    · have d : decide (n < 65536) = true := by simp; omega
      go_enter Try.func54, Try.ntmps54
      go_wp2_with (go_at_call 75; refine (HH _).out.mono ?_; rintro e w' ⟨rfl, rfl⟩)
      go_ret
      exact ⟨by simp [h2], HAL.out⟩
    · have d : decide (n < 65536) = false := by simp; omega
      go_enter Try.func54, Try.ntmps54
      go_wp2_with (go_at_call 75; refine (HH _).out.mono ?_; rintro e w' ⟨rfl, rfl⟩)
      go_ret
      exact ⟨by simp; omega, HAL.out⟩
  · go_enter Try.func54, Try.ntmps54
    go_wp2_with (go_at_call 75; refine (HH _).out.mono ?_; rintro e w' ⟨rfl, rfl⟩)
    go_ret
    exact ⟨by simp, HAL.out⟩

/-- a row of the call's own grows: what holds behind an append -/
structure Row (w0 w : World) (A : Option Addr) (c : Nat) (x : List UInt8) : Prop where
  own : w.ownsRow w0.heap.size 5 1 (.slice A x.length c) x.length (bv x)
  bel : Below w0.heap.size w0 w
theorem Row.below {w0 w w' : World} {A : Option Addr} {c : Nat} {x : List UInt8} (h : Row w0 w A c x) (hb : Below w.heap.size w w') : Row w0 w' A c x := ⟨own_below h.own hb, h.bel.trans (hb.mono h.bel.size)⟩
theorem Row.app {w0 w w' : World} {A A' : Option Addr} {c c' : Nat} {x y : List UInt8} (h : Row w0 w A c x) (ho : w'.ownsRow w0.heap.size 5 1 (.slice A' (x.length + y.length) c') (x.length + y.length) (bv x ++ bv y)) (hg : w.grownBy w' (Value.slice A x.length c).ownBlock) : Row w0 w' A' c' (x ++ y) := by
  refine ⟨?_, h.bel.trans (below_grown hg h.bel.size (fun g e => (h.own.lt g e).1))⟩
  rw [List.length_append, bv_app]
  exact ho
end Go.Proofs.Ytajilbapjpfloaa.openk
