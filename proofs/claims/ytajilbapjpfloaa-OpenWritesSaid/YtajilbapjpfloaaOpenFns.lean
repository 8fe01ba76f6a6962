/- What open's holds, good, Hold, Keep, Encode do, and that confluencelaw09.lives is true. Conditions as each lemma states. -/
import Derived.Test.YtajilbapjpfloaaOctLives
import Derived.Deep.DeepCutAuto
import Derived.IntWalk
namespace Go.Proofs.Ytajilbapjpfloaa.openk
open Go.RowKit Go.Proofs.Ytajilbapjpfloaa.kit Go.Proofs.Ytajilbapjpfloaa.mem Go.Proofs.Ytajilbapjpfloaa.octet
set_option linter.unusedVariables false

def holdsB (n : Int) : Bool := decide (n = 0) || (decide (3 ≤ n) && decide (n ≤ 65535))

theorem holds_any (n : Int) (w : World) : Calls Try.prog 90 #[.int .i64 n] w fun e w' => e = .returned (.bool (holdsB n)) ∧ w = w' := by
  by_cases h0 : n = 0
  · subst h0
    go_enter Try.func90, Try.ntmps90
    go_wp2_with fail
    go_ret
    exact ⟨rfl, rfl⟩
  · by_cases h1 : 3 ≤ n
    · by_cases h2 : n ≤ 65535
      · have e : holdsB n = true := by simp [holdsB, h1, h2]
        rw [e]
        go_enter Try.func90, Try.ntmps90
        go_wp2_with fail
        go_ret
        exact ⟨rfl, rfl⟩
      · have e : holdsB n = false := by simp [holdsB, h0, h2]
        rw [e]
        go_enter Try.func90, Try.ntmps90
        go_wp2_with fail
        go_ret
        exact ⟨by simp [h0], rfl⟩
    · have e : holdsB n = false := by simp [holdsB, h0, h1]
      rw [e]
      go_enter Try.func90, Try.ntmps90
      go_wp2_with fail
      go_ret
      exact ⟨by simp [h0], rfl⟩

theorem Keep_any (n : Int) (hn : -9223372036854775808 ≤ n ∧ n ≤ 9223372036854775807) (w : World) : Calls Try.prog 15 #[.int .i64 n] w fun e w' => e = .returned (.int .i64 (if n < 3 then 0 else n / 3)) ∧ w = w' := by
  by_cases h : n < 3
  · rw [if_pos h]
    go_enter Try.func15, Try.ntmps15
    go_wp2_with fail
    go_ret
    exact ⟨rfl, rfl⟩
  · rw [if_neg h]
    go_enter Try.func15, Try.ntmps15
    go_wp2_with fail
    go_ret
    exact ⟨by simp, rfl⟩

theorem Hold_any (a b : Int) (w : World) : Calls Try.prog 14 #[.int .i64 a, .int .i64 b] w fun e w' => e = .returned (.int .i64 (max (min a b) 0)) ∧ w = w' := by
  go_enter Try.func14, Try.ntmps14
  go_wp2_with fail
  all_goals go_ret
  all_goals exact ⟨ret_int (by omega), rfl⟩

/-- is it an Open that may be? -/
def goodB (n hold id : Int) (four : Bool) : Bool := decide (n ≠ 0) && (decide (id ≠ 0) && (holdsB hold && (four || decide (n ≤ 65535))))

set_option maxRecDepth 100000 in
theorem good_any (n hold id : Int) (four : Bool) (w : World) :
    Calls Try.prog 76 #[.agg #[.int .u32 n, .int .i64 hold, .int .u32 id, .bool four]] w fun e w' => e = .returned (.bool (goodB n hold id four)) ∧ Below w.heap.size w w' := by
  have HH := fun w => Lib.hid (holds_any hold w)
  have hal : Below w.heap.size w (w.alloc (.cells #[.int .u32 n, .int .i64 hold, .int .u32 id, .bool four] 52)) := (Below.refl _ _).alloc (Nat.le_refl _) _
  have HAL := Lib.hid hal
  clear hal
  by_cases h0 : n = 0
  · have e : goodB n hold id four = false := by simp [goodB, h0]
    rw [e]
    subst h0
    go_enter Try.func76, Try.ntmps76
    go_wp2_with fail
    go_ret
    exact ⟨rfl, HAL.out⟩
  have m0 : (n == 0) = false := by simp [h0]
  by_cases h1 : id = 0
  · have e : goodB n hold id four = false := by simp [goodB, h1]
    rw [e]
    subst h1
    go_enter Try.func76, Try.ntmps76
    go_wp2_with fail
    go_ret
    exact ⟨by simp, HAL.out⟩
  have m1 : (id == 0) = false := by simp [h1]
  have e : goodB n hold id four = (holdsB hold && (four || decide (n ≤ 65535))) := by simp [goodB, h0, h1]
  rw [e]
  clear e
  generalize holdsB hold = hb at *
  cases hb
  · go_enter Try.func76, Try.ntmps76
    go_wp2_with (go_at_call 90; refine (HH _).out.mono ?_; rintro e w' ⟨rfl, rfl⟩)
    go_ret
    exact ⟨by simp, HAL.out⟩
  cases four
  · by_cases h2 : n ≤ 65535
    · go_enter Try.func76, Try.ntmps76
      go_wp2_with (go_at_call 90; refine (HH _).out.mono ?_; rintro e w' ⟨rfl, rfl⟩)
      go_ret
      exact ⟨by simp [h0, h1, h2], HAL.out⟩
    · go_enter Try.func76, Try.ntmps76
      go_wp2_with (go_at_call 90; refine (HH _).out.mono ?_; rintro e w' ⟨rfl, rfl⟩)
      go_ret
      exact ⟨by simp [h0, h1], HAL.out⟩
  · go_enter Try.func76, Try.ntmps76
    go_wp2_with (go_at_call 90; refine (HH _).out.mono ?_; rintro e w' ⟨rfl, rfl⟩)
    go_ret
    exact ⟨by simp [h0, h1], HAL.out⟩

/-- an Open's bytes -/
def enc (n hold id : Int) (four : Bool) : List UInt8 :=
  [octet.byteOf 4] ++ [octet.byteOf ((if 65535 < n then 23456 else n) / 256), octet.byteOf (if 65535 < n then 23456 else n)] ++ [octet.byteOf (hold / 256), octet.byteOf hold] ++ [octet.byteOf (id / 16777216), octet.byteOf (id / 65536), octet.byteOf (id / 256), octet.byteOf id] ++
    (if four then octet.byteOf 8 :: [octet.byteOf 2, octet.byteOf 6, octet.byteOf 65, octet.byteOf 4, octet.byteOf (n / 16777216), octet.byteOf (n / 65536), octet.byteOf (n / 256), octet.byteOf n] else [octet.byteOf 0])

set_option maxRecDepth 100000 in
set_option maxHeartbeats 4000000 in
theorem Encode_yes (n hold id : Int) (four : Bool) (w : World) (hg : goodB n hold id four = true) (hn : 0 ≤ n ∧ n ≤ 4294967295) (hid : 0 ≤ id ∧ id ≤ 4294967295) :
    Calls Try.prog 52 #[.agg #[.int .u32 n, .int .i64 hold, .int .u32 id, .bool four]] w fun e w' => ∃ A c, e = .returned (.tuple #[.slice A (enc n hold id four).length c, .int .i64 0]) ∧ (A = none → c = 0) ∧ (enc n hold id four).length ≤ c ∧ c ≤ maxLen ∧ Bs w' w'.heap.size A (enc n hold id four) ∧ Below w.heap.size w w' := by
  have hG := good_any n hold id four (w.alloc (.cells #[.int .u32 n, .int .i64 hold, .int .u32 id, .bool four] 52))
  rw [hg] at hG
  have HG := Lib.hid hG
  have HAL := Lib.hid ((Below.refl w.heap.size w).alloc (Nat.le_refl _) (.cells #[.int .u32 n, .int .i64 hold, .int .u32 id, .bool four] 52))
  obtain ⟨m, hm⟩ : ∃ m, (if 65535 < n then 23456 else n) = m := ⟨_, rfl⟩
  have HE : Hid (enc n hold id four = [octet.byteOf 4] ++ [octet.byteOf (m / 256), octet.byteOf m] ++ [octet.byteOf (hold / 256), octet.byteOf hold] ++ [octet.byteOf (id / 16777216), octet.byteOf (id / 65536), octet.byteOf (id / 256), octet.byteOf id] ++ (if four then octet.byteOf 8 :: [octet.byteOf 2, octet.byteOf 6, octet.byteOf 65, octet.byteOf 4, octet.byteOf (n / 16777216), octet.byteOf (n / 65536), octet.byteOf (n / 256), octet.byteOf n] else [octet.byteOf 0])) := by rw [Hid, enc, hm]
  have wn : IntKind.i64.wrap n = n := IntWalk.i64_in _ (by omega)
  clear hG hg
  go_enter Try.func52, Try.ntmps52
  go_wp2_with fail
  refine HG.out.mono ?_; rintro e w1 ⟨rfl, hb1⟩
  have q0 := (hb1.cell (p := ⟨w.heap.size, 0, none⟩) (by simp)).trans (show _ = some (.int .u32 n) by go_simp)
  have q1 := (hb1.cell (p := ⟨w.heap.size, 1, none⟩) (by simp)).trans (show _ = some (.int .i64 hold) by go_simp)
  have q2 := (hb1.cell (p := ⟨w.heap.size, 2, none⟩) (by simp)).trans (show _ = some (.int .u32 id) by go_simp)
  have q3 := (hb1.cell (p := ⟨w.heap.size, 3, none⟩) (by simp)).trans (show _ = some (.bool four) by go_simp)
  have hlt : w.heap.size < w1.heap.size := by have := hb1.size; simp at this; omega
  have HW := Lib.hid (HAL.out.trans (hb1.mono (by simp)))
  clear hb1 HG
  go_upto_if 15 with fail
  go_cut [4] (fun s4 wx => s4 = .int .i64 m ∧ wx = w1)
  case first =>
    subst hm
    by_cases hb : 65535 < n
    · go_wp2_with fail
      go_meet
      exact ⟨by rw [if_pos hb], rfl⟩
    · go_wp2_with fail
      go_meet
      exact ⟨by rw [if_neg (by omega)], rfl⟩
  case rest =>
  obtain ⟨rfl, rfl⟩ := hcut
  clear hm
  go_upto_region 6 with fail
  have HT : Hid (Wtr ((wc.drew).alloc (.cells #[.slice none 0 0] 44)) wc.heap.size wc.heap.size []) := wtr_new wc.drew
  have hst : Below wc.heap.size wc ((wc.drew).alloc (.cells #[.slice none 0 0] 44)) := ((Below.refl _ wc).drew).alloc (Nat.le_refl _) _
  have r0 := (hst.cell (p := ⟨w.heap.size, 0, none⟩) hlt).trans q0
  have r1 := (hst.cell (p := ⟨w.heap.size, 1, none⟩) hlt).trans q1
  have r2 := (hst.cell (p := ⟨w.heap.size, 2, none⟩) hlt).trans q2
  have r3 := (hst.cell (p := ⟨w.heap.size, 3, none⟩) hlt).trans q3
  have HW := Lib.hid (HW.out.trans (hst.mono (Nat.le_of_lt hlt)))
  clear hst
  go_region_held3 (fun w' => w'.cell? ⟨w.heap.size, 0, none⟩ = some (.int .u32 n) ∧ w'.cell? ⟨w.heap.size, 1, none⟩ = some (.int .i64 hold) ∧ w'.cell? ⟨w.heap.size, 2, none⟩ = some (.int .u32 id) ∧ w'.cell? ⟨w.heap.size, 3, none⟩ = some (.bool four)) (first | exact ⟨q0, q1, q2, q3⟩ | exact ⟨r0, r1, r2, r3⟩) (first
    | (go_at_call_of 30 (Value.int IntKind.i64 4); refine (U8_any wc.heap.size wc.heap.size _ 4 _ (by exact HT.out) (by simp)).mono ?_; rintro e wz ⟨rfl, hz, oz⟩; have st := HT.out.only oz; have r0 := (st.cell (p := ⟨w.heap.size, 0, none⟩) hlt).trans r0; have r1 := (st.cell (p := ⟨w.heap.size, 1, none⟩) hlt).trans r1; have r2 := (st.cell (p := ⟨w.heap.size, 2, none⟩) hlt).trans r2; have r3 := (st.cell (p := ⟨w.heap.size, 3, none⟩) hlt).trans r3; have HW := Lib.hid (HW.out.trans (st.mono (Nat.le_of_lt hlt))); have HT := Lib.hid hz; clear st; clear hz oz)
    | (go_at_call_of 31 (Value.int IntKind.i64 m); refine (U16_any wc.heap.size wc.heap.size _ m _ (by exact HT.out) (by simp)).mono ?_; rintro e wz ⟨rfl, hz, oz⟩; have st := HT.out.only oz; have r0 := (st.cell (p := ⟨w.heap.size, 0, none⟩) hlt).trans r0; have r1 := (st.cell (p := ⟨w.heap.size, 1, none⟩) hlt).trans r1; have r2 := (st.cell (p := ⟨w.heap.size, 2, none⟩) hlt).trans r2; have r3 := (st.cell (p := ⟨w.heap.size, 3, none⟩) hlt).trans r3; have HW := Lib.hid (HW.out.trans (st.mono (Nat.le_of_lt hlt))); have HT := Lib.hid hz; clear st; clear hz oz)
    | (go_at_call_of 31 (Value.int IntKind.i64 hold); refine (U16_any wc.heap.size wc.heap.size _ hold _ (by exact HT.out) (by simp)).mono ?_; rintro e wz ⟨rfl, hz, oz⟩; have st := HT.out.only oz; have r0 := (st.cell (p := ⟨w.heap.size, 0, none⟩) hlt).trans r0; have r1 := (st.cell (p := ⟨w.heap.size, 1, none⟩) hlt).trans r1; have r2 := (st.cell (p := ⟨w.heap.size, 2, none⟩) hlt).trans r2; have r3 := (st.cell (p := ⟨w.heap.size, 3, none⟩) hlt).trans r3; have HW := Lib.hid (HW.out.trans (st.mono (Nat.le_of_lt hlt))); have HT := Lib.hid hz; clear st; clear hz oz)
    | (go_at_call_of 29 (Value.int IntKind.u32 id); refine (U32_any wc.heap.size wc.heap.size _ id _ (by exact HT.out) (by simp) hid.1 hid.2).mono ?_; rintro e wz ⟨rfl, hz, oz⟩; have st := HT.out.only oz; have r0 := (st.cell (p := ⟨w.heap.size, 0, none⟩) hlt).trans r0; have r1 := (st.cell (p := ⟨w.heap.size, 1, none⟩) hlt).trans r1; have r2 := (st.cell (p := ⟨w.heap.size, 2, none⟩) hlt).trans r2; have r3 := (st.cell (p := ⟨w.heap.size, 3, none⟩) hlt).trans r3; have HW := Lib.hid (HW.out.trans (st.mono (Nat.le_of_lt hlt))); have HT := Lib.hid hz; clear st; clear hz oz))
  have HP : Hid (Wtr (wz.alloc (.cells #[.slice none 0 0] 44)) wz.heap.size wz.heap.size []) := wtr_new wz
  have HB : Hid (Below wz.heap.size wz (wz.alloc (.cells #[.slice none 0 0] 44))) := (Below.refl _ wz).alloc (Nat.le_refl _) _
  have hlz : w.heap.size < wz.heap.size := by have := HT.out.base; omega
  have q3 := (HB.out.cell (p := ⟨w.heap.size, 3, none⟩) hlz).trans r3
  have q0 := (HB.out.cell (p := ⟨w.heap.size, 0, none⟩) hlz).trans r0
  clear r1 r2 q1 q2
  cases four
  · go_wp2_with fail
    have HTc := Lib.hid (HT.out.below HB.out)
    have HBy := Lib.hid (Bytes_any wz.heap.size wz.heap.size [] (wz.alloc (.cells #[.slice none 0 0] 44)) HP.out (by simp))
    go_wp2_with fail
    refine HBy.out.mono ?_; rintro e w7 ⟨⟨A7, k7, rfl, g2, g3, g4, g5, g6, g7⟩, _⟩
    have HS := Lib.hid (Sized_yes wc.heap.size wc.heap.size _ [] A7 k7 w7.heap.size w7 (HTc.out.below g6) (by simp) (by simp) g2 (Nat.le_refl _) g5 (fun ad h => HTc.out.sep (g7 ad h) g6))
    have HT7 := Lib.hid (HTc.out.below g6)
    have HW7 := Lib.hid ((HW.out.trans (HB.out.mono (Nat.le_of_lt hlz))).trans (g6.mono (Nat.le_trans (Nat.le_of_lt hlz) HB.out.size)))
    clear g2 g3 g4 g5 g6 g7 HBy HP HTc
    go_wp2_with fail
    refine HS.out.mono ?_; rintro e w8 ⟨rfl, hz, oz⟩
    have HW8 := Lib.hid (HW7.out.trans ((HT7.out.only oz).mono (Nat.le_of_lt hlt)))
    have HT8 := Lib.hid hz
    clear hz oz HS
    go_wp2_with fail
    refine (Bytes_any wc.heap.size wc.heap.size _ w8 HT8.out (by simp)).mono ?_; rintro e w9 ⟨⟨A9, k9, rfl, g2, g3, g4, g5, g6, g7⟩, _⟩
    have HF := Lib.hid (show _ ∧ _ ∧ _ ∧ _ from ⟨g2, g3, g4, g5⟩)
    have HW9 := Lib.hid (HW8.out.trans (g6.mono HW8.out.size))
    clear g2 g3 g4 g5 g6 g7
    go_wp2_with fail
    go_ret2
    have he := HE.out
    exact ⟨A9, k9, by rw [he]; rfl, HF.out.1, by rw [he]; exact HF.out.2.1, HF.out.2.2.1, by rw [he]; exact HF.out.2.2.2, HW9.out⟩
  · go_wp2_with fail
    have HP : Hid (Wtr ((wz.alloc (.cells #[.slice none 0 0] 44)).drew) wz.heap.size wz.heap.size []) := HP.out
    have HB := Lib.hid HB.out.drew
    go_region_held3 (fun w' => w'.cell? ⟨w.heap.size, 0, none⟩ = some (.int .u32 n)) (exact q0) (first
      | (go_at_call_of 30 (Value.int IntKind.i64 2); refine (U8_any wz.heap.size wz.heap.size _ 2 _ (by exact HP.out) (by simp)).mono ?_; rintro e wp ⟨rfl, hz, oz⟩; have HB := Lib.hid (HB.out.trans (HP.out.only oz)); have q0 := (HB.out.cell (p := ⟨w.heap.size, 0, none⟩) hlz).trans r0; have HP := Lib.hid hz; clear hz oz)
      | (go_at_call_of 30 (Value.int IntKind.i64 6); refine (U8_any wz.heap.size wz.heap.size _ 6 _ (by exact HP.out) (by simp)).mono ?_; rintro e wp ⟨rfl, hz, oz⟩; have HB := Lib.hid (HB.out.trans (HP.out.only oz)); have q0 := (HB.out.cell (p := ⟨w.heap.size, 0, none⟩) hlz).trans r0; have HP := Lib.hid hz; clear hz oz)
      | (go_at_call_of 30 (Value.int IntKind.i64 65); refine (U8_any wz.heap.size wz.heap.size _ 65 _ (by exact HP.out) (by simp)).mono ?_; rintro e wp ⟨rfl, hz, oz⟩; have HB := Lib.hid (HB.out.trans (HP.out.only oz)); have q0 := (HB.out.cell (p := ⟨w.heap.size, 0, none⟩) hlz).trans r0; have HP := Lib.hid hz; clear hz oz)
      | (go_at_call_of 30 (Value.int IntKind.i64 4); refine (U8_any wz.heap.size wz.heap.size _ 4 _ (by exact HP.out) (by simp)).mono ?_; rintro e wp ⟨rfl, hz, oz⟩; have HB := Lib.hid (HB.out.trans (HP.out.only oz)); have q0 := (HB.out.cell (p := ⟨w.heap.size, 0, none⟩) hlz).trans r0; have HP := Lib.hid hz; clear hz oz)
      | (go_at_call_of 29 (Value.int IntKind.u32 n); refine (U32_any wz.heap.size wz.heap.size _ n _ (by exact HP.out) (by simp) hn.1 hn.2).mono ?_; rintro e wp ⟨rfl, hz, oz⟩; have HB := Lib.hid (HB.out.trans (HP.out.only oz)); have q0 := (HB.out.cell (p := ⟨w.heap.size, 0, none⟩) hlz).trans r0; have HP := Lib.hid hz; clear hz oz))
    have HTc := Lib.hid (HT.out.below HB.out)
    have HBy := Lib.hid (Bytes_any wz.heap.size wz.heap.size ([] ++ [octet.byteOf 2] ++ [octet.byteOf 6] ++ [octet.byteOf 65] ++ [octet.byteOf 4] ++ [octet.byteOf (n / 16777216), octet.byteOf (n / 65536), octet.byteOf (n / 256), octet.byteOf n]) wp HP.out (by simp))
    go_wp2_with fail
    refine HBy.out.mono ?_; rintro e w7 ⟨⟨A7, k7, rfl, g2, g3, g4, g5, g6, g7⟩, _⟩
    have HS := Lib.hid (Sized_yes wc.heap.size wc.heap.size _ ([] ++ [octet.byteOf 2] ++ [octet.byteOf 6] ++ [octet.byteOf 65] ++ [octet.byteOf 4] ++ [octet.byteOf (n / 16777216), octet.byteOf (n / 65536), octet.byteOf (n / 256), octet.byteOf n]) A7 k7 w7.heap.size w7 (HTc.out.below g6) (by simp) (by simp) g2 (Nat.le_refl _) g5 (fun ad h => HTc.out.sep (g7 ad h) g6))
    have HT7 := Lib.hid (HTc.out.below g6)
    have HW7 := Lib.hid ((HW.out.trans (HB.out.mono (Nat.le_of_lt hlz))).trans (g6.mono (Nat.le_trans (Nat.le_of_lt hlz) HB.out.size)))
    clear g2 g3 g4 g5 g6 g7 HBy HP HTc
    go_wp2_with fail
    refine HS.out.mono ?_; rintro e w8 ⟨rfl, hz, oz⟩
    have HW8 := Lib.hid (HW7.out.trans ((HT7.out.only oz).mono (Nat.le_of_lt hlt)))
    have HT8 := Lib.hid hz
    clear hz oz HS
    go_wp2_with fail
    refine (Bytes_any wc.heap.size wc.heap.size _ w8 HT8.out (by simp)).mono ?_; rintro e w9 ⟨⟨A9, k9, rfl, g2, g3, g4, g5, g6, g7⟩, _⟩
    have HF := Lib.hid (show _ ∧ _ ∧ _ ∧ _ from ⟨g2, g3, g4, g5⟩)
    have HW9 := Lib.hid (HW8.out.trans (g6.mono HW8.out.size))
    clear g2 g3 g4 g5 g6 g7
    go_wp2_with fail
    go_ret2
    have he := HE.out
    exact ⟨A9, k9, by rw [he]; rfl, HF.out.1, by rw [he]; exact HF.out.2.1, HF.out.2.2.1, by rw [he]; exact HF.out.2.2.2, HW9.out⟩

end Go.Proofs.Ytajilbapjpfloaa.openk
