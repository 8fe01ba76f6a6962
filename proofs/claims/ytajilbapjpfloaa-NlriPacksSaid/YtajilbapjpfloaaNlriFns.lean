/- What nlri's body, size, Size, one and prefix.Make return. Conditions as each lemma states. -/
import Derived.Test.YtajilbapjpfloaaPfxFns
import Derived.Test.YtajilbapjpfloaaZeros
import Derived.Test.YtajilbapjpfloaaOwn
import Derived.Test.YtajilbapjpfloaaNlriMath
namespace Go.Proofs.Ytajilbapjpfloaa.nlri
open Go.RowKit Go.Proofs.Ytajilbapjpfloaa.kit Go.Proofs.Ytajilbapjpfloaa.mem Go.Proofs.Ytajilbapjpfloaa.octet Go.Proofs.Ytajilbapjpfloaa.pfx
set_option linter.unusedVariables false

theorem body_any (n : Nat) (hn : n ≤ 1000) (w : World) : Calls Try.prog 67 #[.int .i64 n] w fun e w' => e = .returned (.int .i64 (bodyN n : Int)) ∧ w = w' := by
  have H : Hid ((bodyN n : Int) = ((n : Int) + 8 - 1) / 8) := by rw [Hid, bodyN]; omega
  generalize (bodyN n : Int) = b at *
  go_enter Try.func67, Try.ntmps67
  go_wp2_with fail
  go_ret
  exact ⟨ret_int (by rw [H.out]), rfl⟩

theorem size_any (a : Nat) (n : Int) (ha : a < 4294967296) (w : World) :
    Calls Try.prog 68 #[.agg #[.int .u32 a, .int .i64 n]] w fun e w' => e = .returned (.int .i64 (sizeP (a, n) : Int)) ∧ Below w.heap.size w w' := by
  have HG := fun w => Lib.hid (good_any a n ha w)
  have hal : Below w.heap.size w (w.alloc (.cells #[.int .u32 a, .int .i64 n] 69)) := (Below.refl _ _).alloc (Nat.le_refl _) _
  by_cases g : goodB a n = true
  · have e : sizeP (a, n) = 1 + bodyN n.toNat := by simp [sizeP, g]
    rw [e]
    rw [g] at HG
    obtain ⟨h0, h1, _⟩ := (goodB_iff a n).1 g
    obtain ⟨k, rfl⟩ := Int.eq_ofNat_of_zero_le h0
    rw [Int.toNat_natCast]
    have HB := fun w => Lib.hid (body_any k (by omega) w)
    have hb := bodyN_le k (by omega)
    clear g e h0
    generalize bodyN k = m at *
    go_enter Try.func68, Try.ntmps68
    go_wp2_with fail
    refine (HG _).out.mono ?_; rintro e w1 ⟨rfl, hb1⟩
    have q1 := (hb1.cell (p := ⟨w.heap.size, 1, none⟩) (by simp)).trans (show _ = some (.int .i64 (k : Int)) by go_simp)
    have HW := Lib.hid (hal.trans (hb1.mono (by simp)))
    have hlt : w.heap.size < w1.heap.size := by have := hb1.size; simp at this; omega
    clear hb1 hal
    go_wp2_with (go_at_call 67; refine (HB _).out.mono ?_; rintro e w' ⟨rfl, rfl⟩)
    go_ret
    exact ⟨ret_int (by simp), HW.out⟩
  · have g' : goodB a n = false := by simpa using g
    have e : sizeP (a, n) = 0 := by simp [sizeP, g']
    rw [e]
    rw [g'] at HG
    clear g e
    go_enter Try.func68, Try.ntmps68
    go_wp2_with fail
    refine (HG _).out.mono ?_; rintro e w1 ⟨rfl, hb1⟩
    have HW := Lib.hid (hal.trans (hb1.mono (by simp)))
    clear hb1 hal
    go_wp2_with fail
    go_ret
    exact ⟨rfl, HW.out⟩

theorem Size_any (a : Nat) (n : Int) (ha : a < 4294967296) (w : World) :
    Calls Try.prog 42 #[.agg #[.int .u32 a, .int .i64 n]] w fun e w' => e = .returned (.int .i64 (sizeP (a, n) : Int)) ∧ Below w.heap.size w w' := by
  have HG := fun w => Lib.hid (size_any a n ha w)
  have hal : Below w.heap.size w (w.alloc (.cells #[.int .u32 a, .int .i64 n] 69)) := (Below.refl _ _).alloc (Nat.le_refl _) _
  generalize sizeP (a, n) = s at *
  go_enter Try.func42, Try.ntmps42
  go_wp2_with fail
  refine (HG _).out.mono ?_; rintro e w1 ⟨rfl, hb1⟩
  have HW := Lib.hid (hal.trans (hb1.mono (by simp)))
  clear hb1 hal
  go_wp2_with fail
  go_ret
  exact ⟨rfl, HW.out⟩

theorem Make_ok (a n : Nat) (ha : a < 4294967296) (hn : n ≤ 32) (w : World) :
    Calls Try.prog 87 #[.int .u32 a, .int .i64 n] w fun e w' => e = .returned (.tuple #[.agg #[.int .u32 (cutv a n : Int), .int .i64 n], .int .i64 0]) ∧ Below w.heap.size w w' := by
  have HM := fun w => Lib.hid (mask_any n hn w)
  have hand := and_mask a n ha hn
  have hc : cutv a n < 4294967296 := Nat.lt_of_le_of_lt (cutv_le a n) ha
  have hm := maskv_le n
  generalize maskv n = m at *
  generalize cutv a n = c at *
  have d1 : decide ((n : Int) < 0) = false := by simp
  have d2 : decide ((32 : Int) < (n : Int)) = false := by simp; omega
  go_enter Try.func87, Try.ntmps87
  go_wp2_with (go_at_call 98; refine (HM _).out.mono ?_; rintro e w' ⟨rfl, rfl⟩)
  exact bodyPost_ret (v := .tuple #[.agg #[.int .u32 c, .int .i64 n], .int .i64 0]) (by simp [results, Try.results87, go_sem]) rfl ⟨rfl, (Below.refl _ _).alloc (Nat.le_refl _) _⟩

theorem Make_bad (a : Int) (n : Int) (hn : n < 0 ∨ 32 < n) (w : World) :
    Calls Try.prog 87 #[.int .u32 a, .int .i64 n] w fun e w' => e = .returned (.tuple #[.agg #[.int .u32 0, .int .i64 0], .int .i64 1]) ∧ Below w.heap.size w w' := by
  by_cases h : n < 0
  · have d1 : decide (n < 0) = true := by simpa using h
    clear hn
    go_enter Try.func87, Try.ntmps87
    go_wp2_with fail
    exact bodyPost_ret (v := .tuple #[.agg #[.int .u32 0, .int .i64 0], .int .i64 1]) (by simp [results, Try.results87, go_sem]) rfl ⟨rfl, (Below.refl _ _).alloc (Nat.le_refl _) _⟩
  · have d1 : decide (n < 0) = false := by simpa using h
    have d2 : decide (32 < n) = true := by simp; omega
    clear hn
    go_enter Try.func87, Try.ntmps87
    go_wp2_with fail
    exact bodyPost_ret (v := .tuple #[.agg #[.int .u32 0, .int .i64 0], .int .i64 1]) (by simp [results, Try.results87, go_sem]) rfl ⟨rfl, (Below.refl _ _).alloc (Nat.le_refl _) _⟩
end Go.Proofs.Ytajilbapjpfloaa.nlri
