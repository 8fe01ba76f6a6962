/- What confluenceref09.Encode returns of a good Open. Conditions as each lemma states. -/
import Derived.Test.YtajilbapjpfloaaOpenEnc2
import Derived.Test.YtajilbapjpfloaaOpen
import Derived.Deep.DeepCutAuto
import Derived.Deep.RegionHeld3
namespace Go.Proofs.Ytajilbapjpfloaa.openk
open Go.RowKit Go.Proofs.Ytajilbapjpfloaa.kit Go.Proofs.Ytajilbapjpfloaa.mem Go.Proofs.Ytajilbapjpfloaa.octet
set_option linter.unusedVariables false

set_option maxRecDepth 100000 in
set_option maxHeartbeats 1000000 in
theorem rEncode_any (n hold id : Nat) (four : Bool) (w : World) (hn : n ≤ 4294967295) (hh : hold ≤ 65535) (hid : id ≤ 4294967295) :
    Calls Try.prog 55 #[.agg #[.int .u32 n, .int .i64 hold, .int .u32 id, .bool four]] w fun e w' => ∃ A c, e = .returned (.slice A (enc n hold id four).length c) ∧ NewSl 1 (enc n hold id four).length (bv (enc n hold id four)) w A c w' := by
  obtain ⟨i0, hi, hz0, hz1, hz2⟩ := info_parts info_u8
  have Hi := Lib.hid hi
  have Hz0 := Lib.hid hz0
  have Hz1 := Lib.hid hz1
  have Hz2 := Lib.hid hz2
  obtain ⟨m, hm⟩ : ∃ m : Nat, (if (65535 : Int) < (n : Int) then 23456 else (n : Int)) = (m : Int) := by
    split
    · exact ⟨23456, rfl⟩
    · exact ⟨n, rfl⟩
  have hm1 : m ≤ 65535 := by split at hm <;> omega
  have HM := Lib.hid hm
  have hwn : IntKind.u64.wrap (n : Int) = n := by show (n : Int) % 18446744073709551616 = n; omega
  have hwh : IntKind.u64.wrap (hold : Int) = hold := by show (hold : Int) % 18446744073709551616 = hold; omega
  have hwi : IntKind.u64.wrap (id : Int) = id := by show (id : Int) % 18446744073709551616 = id; omega
  have HE : Hid (enc n hold id four = [octet.byteOf 4] ++ bigv m 2 ++ bigv hold 2 ++ bigv id 4 ++ (if four then [octet.byteOf 8, octet.byteOf 2, octet.byteOf 6, octet.byteOf 65, octet.byteOf 4] ++ bigv n 4 else [octet.byteOf 0])) := by
    rw [Hid, enc, hm]
    cases four <;> simp [bigv, Nat.div_one]
  have hal : Below w.heap.size w (w.alloc (.cells #[.int .u32 (n : Int), .int .i64 (hold : Int), .int .u32 (id : Int), .bool four] 52)) := (Below.refl _ _).alloc (Nat.le_refl _) _
  have HAL := Lib.hid hal
  clear hi hz0 hz1 hz2 hm hal
  go_enter Try.func55, Try.ntmps55
  go_upto_if 9 with fail
  go_cut [3] (fun s3 wx => s3 = .int .u64 (m : Int) ∧ wx = w.alloc (.cells #[.int .u32 (n : Int), .int .i64 (hold : Int), .int .u32 (id : Int), .bool four] 52))
  case first =>
    have hM := HM.out
    by_cases hb : (65535 : Int) < (n : Int)
    · rw [if_pos hb] at hM
      have HM2 := Lib.hid hM
      clear hM
      go_wp2_with fail
      go_meet
      exact ⟨by rw [← HM2.out], rfl⟩
    · rw [if_neg hb] at hM
      have HM2 := Lib.hid hM
      clear hM
      go_wp2_with fail
      go_meet
      exact ⟨by rw [← HM2.out], rfl⟩
  case rest =>
  obtain ⟨rfl, hwc⟩ := hcut
  obtain ⟨wb, rfl⟩ : ∃ x : World, x = wc := ⟨_, rfl⟩
  have hab : Below w.heap.size w wb := by rw [hwc]; exact HAL.out
  have x0 : wb.cell? ⟨w.heap.size, 0, none⟩ = some (.int .u32 (n : Int)) := by rw [hwc]; go_simp
  have x1 : wb.cell? ⟨w.heap.size, 1, none⟩ = some (.int .i64 (hold : Int)) := by rw [hwc]; go_simp
  have x2 : wb.cell? ⟨w.heap.size, 2, none⟩ = some (.int .u32 (id : Int)) := by rw [hwc]; go_simp
  have x3 : wb.cell? ⟨w.heap.size, 3, none⟩ = some (.bool four) := by rw [hwc]; go_simp
  have hlt : w.heap.size < wb.heap.size := by rw [hwc]; simp
  have HAB := Lib.hid hab
  clear hwc hab HAL
  have hr0 : Row wb (wb.alloc (.cells #[.int .u8 4] 5)) (some ⟨wb.heap.size, 0, none⟩) 1 [octet.byteOf 4] :=
    ⟨own_new wb 5 wb.heap.size 1 1 #[.int .u8 4] (Nat.le_refl _) (by unfold maxLen; omega) rfl, (Below.refl _ _).alloc (Nat.le_refl _) _⟩
  have HR0 := Lib.hid hr0
  clear hr0
  go_wp2_with fail
  refine (Big_any m 2 _ (by omega) (by omega)).mono ?_; rintro e w1 ⟨B1, k1, rfl, g2, g3, g4, g5, g6, g7⟩
  have HR1 := Lib.hid (HR0.out.below g6)
  have HG1 := Lib.hid g5
  have HA1 := Lib.hid g2
  have hz1 := HR1.out.bel.size
  clear g2 g3 g4 g5 g6 g7 HR0
  go_wp2_with (at_builtin; refine wpList_append_sl rfl (.tmp 10) (.tmp 12) _ rfl wb.heap.size 5 i0 _ 1 1 Try.underlying26 Hi.out Hz0.out Hz1.out Hz2.out rfl (by omega) (.slice (some ⟨wb.heap.size, 0, none⟩) 1 1) 1 (bv [octet.byteOf 4]) rfl HR1.out.own w1.heap.size B1 2 k1 HA1.out (bv (bigv m 2)) rfl HG1.out (bv_one _) (by unfold maxLen; omega) (by omega) hz1 ?_; intro A2 c2 w2 hown2 hg2 hat2; have HR2 : Hid (Row wb w2 A2 c2 ([octet.byteOf 4] ++ bigv m 2)) := HR1.out.app hown2 hg2; clear hown2 hg2 hat2)
  have t1 := (HR2.out.bel.cell (p := ⟨w.heap.size, 1, none⟩) hlt).trans x1
  have t2 := (HR2.out.bel.cell (p := ⟨w.heap.size, 2, none⟩) hlt).trans x2
  have HRd : Hid (Row wb w2.drew A2 c2 ([octet.byteOf 4] ++ bigv m 2)) := ⟨HR2.out.own, HR2.out.bel.drew⟩
  go_upto_region 5 with fail
  go_cut [4] (fun s4 wx => ∃ A c, s4 = .slice A 9 c ∧ Row wb wx A c ([octet.byteOf 4] ++ bigv m 2 ++ bigv hold 2 ++ bigv id 4))
  case first =>
    go_region_held3 (fun w' => w'.cell? ⟨w.heap.size, 1, none⟩ = some (.int .i64 (hold : Int)) ∧ w'.cell? ⟨w.heap.size, 2, none⟩ = some (.int .u32 (id : Int))) (exact ⟨t1, t2⟩) (first
      | (go_at_call_of 33 (Value.int IntKind.i64 2); refine (Big_any hold 2 _ (by omega) (by omega)).mono ?_; rintro e w3 ⟨B3, k3, rfl, g2, g3, g4, g5, g6, g7⟩; go_must (have HR3 := Lib.hid (HRd.out.below g6)); go_must (have HG3 := Lib.hid g5); go_must (have HA3 := Lib.hid g2); go_must (have t1 := (HR3.out.bel.cell (p := ⟨w.heap.size, 1, none⟩) hlt).trans x1); go_must (have t2 := (HR3.out.bel.cell (p := ⟨w.heap.size, 2, none⟩) hlt).trans x2); clear g2 g3 g4 g5 g6 g7)
      | (go_at_call_of 33 (Value.int IntKind.i64 4); refine (Big_any id 4 _ (by omega) (by omega)).mono ?_; rintro e w5 ⟨B5, k5, rfl, g2, g3, g4, g5, g6, g7⟩; go_must (have HR5 := Lib.hid (HR4.out.below g6)); go_must (have HG5 := Lib.hid g5); go_must (have HA5 := Lib.hid g2); go_must (have t1 := (HR5.out.bel.cell (p := ⟨w.heap.size, 1, none⟩) hlt).trans x1); go_must (have t2 := (HR5.out.bel.cell (p := ⟨w.heap.size, 2, none⟩) hlt).trans x2); clear g2 g3 g4 g5 g6 g7)
      | (refine step_append_sl rfl (.tmp 14) (.tmp 18) _ rfl wb.heap.size 5 i0 _ 1 1 Try.underlying26 Hi.out Hz0.out Hz1.out Hz2.out rfl (by omega) (.slice A2 3 c2) 3 (bv ([octet.byteOf 4] ++ bigv m 2)) rfl (by exact HR3.out.own) _ B3 2 k3 HA3.out (bv (bigv hold 2)) rfl (by exact HG3.out) (bv_one _) (by unfold maxLen; omega) (by omega) HR3.out.bel.size ?_; intro A4 c4 w4 ho hg hat; go_must (have HR4 : Hid (Row wb w4 A4 c4 ([octet.byteOf 4] ++ bigv m 2 ++ bigv hold 2)) := HR3.out.app ho hg); go_must (have t1 := (HR4.out.bel.cell (p := ⟨w.heap.size, 1, none⟩) hlt).trans x1); go_must (have t2 := (HR4.out.bel.cell (p := ⟨w.heap.size, 2, none⟩) hlt).trans x2); clear ho hg hat)
      | (refine step_append_sl rfl (.tmp 19) (.tmp 23) _ rfl wb.heap.size 5 i0 _ 1 1 Try.underlying26 Hi.out Hz0.out Hz1.out Hz2.out rfl (by omega) (.slice A4 5 c4) 5 (bv ([octet.byteOf 4] ++ bigv m 2 ++ bigv hold 2)) rfl (by exact HR5.out.own) _ B5 4 k5 HA5.out (bv (bigv id 4)) rfl (by exact HG5.out) (bv_one _) (by unfold maxLen; omega) (by omega) HR5.out.bel.size ?_; intro A6 c6 w6 ho hg hat; go_must (have HR6 : Hid (Row wb w6 A6 c6 ([octet.byteOf 4] ++ bigv m 2 ++ bigv hold 2 ++ bigv id 4)) := HR5.out.app ho hg); go_must (have t1 := (HR6.out.bel.cell (p := ⟨w.heap.size, 1, none⟩) hlt).trans x1); go_must (have t2 := (HR6.out.bel.cell (p := ⟨w.heap.size, 2, none⟩) hlt).trans x2); clear ho hg hat))
    all_goals
      go_wp2_with fail
      go_meet
      exact ⟨A6, c6, rfl, HR6.out⟩
  case rest =>
  obtain ⟨A6, c6, rfl, hr6⟩ := hcut
  have HR6 := Lib.hid hr6
  clear hr6 HR2 HRd t1 t2
  have t0 := (HR6.out.bel.cell (p := ⟨w.heap.size, 0, none⟩) hlt).trans x0
  have t3 := (HR6.out.bel.cell (p := ⟨w.heap.size, 3, none⟩) hlt).trans x3
  have hzc := HR6.out.bel.size
  cases four
  · have hs : Bs (wc.alloc (.cells #[.int .u8 0] 5)) (wc.heap.size + 1) (some ⟨wc.heap.size, 0, none⟩) [octet.byteOf 0] := bs_new wc [octet.byteOf 0] _ (by simp only [bv, List.map_cons, List.map_nil, show (octet.byteOf 0).toNat = 0 from by decide]; rfl)
    have hr7 := HR6.out.below ((Below.refl wc.heap.size wc).alloc (Nat.le_refl _) (.cells #[.int .u8 0] 5))
    have HS := Lib.hid hs
    have HR7 := Lib.hid hr7
    clear hs hr7
    go_wp2_with (at_builtin; refine wpList_append_sl rfl (.tmp 28) (.tmp 29) _ rfl wb.heap.size 5 i0 _ 1 1 Try.underlying26 Hi.out Hz0.out Hz1.out Hz2.out rfl (by omega) (.slice A6 9 c6) 9 (bv ([octet.byteOf 4] ++ bigv m 2 ++ bigv hold 2 ++ bigv id 4)) rfl HR7.out.own (wc.heap.size + 1) (some ⟨wc.heap.size, 0, none⟩) 1 1 (by intro h; cases h) (bv [octet.byteOf 0]) rfl HS.out (bv_one _) (by unfold maxLen; omega) (by omega) HR7.out.bel.size ?_; intro A8 c8 w8 hown8 hg8 hat8; have HR8 : Hid (Row wb w8 A8 c8 ([octet.byteOf 4] ++ bigv m 2 ++ bigv hold 2 ++ bigv id 4 ++ [octet.byteOf 0])) := HR7.out.app hown8 hg8; clear hown8 hg8 hat8)
    go_ret
    have he := HE.out
    simp only [Bool.false_eq_true, if_false] at he
    rw [he]
    exact ⟨A8, c8, rfl, (NewSl.of_own HR8.out.own HR8.out.bel).wide HAB.out⟩
  · have hs : Bs ((wc.alloc (.cells #[.int .u8 8, .int .u8 2, .int .u8 6, .int .u8 65, .int .u8 4] 5)).drew) (wc.heap.size + 1) (some ⟨wc.heap.size, 0, none⟩) [octet.byteOf 8, octet.byteOf 2, octet.byteOf 6, octet.byteOf 65, octet.byteOf 4] := bs_new wc [octet.byteOf 8, octet.byteOf 2, octet.byteOf 6, octet.byteOf 65, octet.byteOf 4] _ (by simp only [bv, List.map_cons, List.map_nil, show (octet.byteOf 8).toNat = 8 from by decide, show (octet.byteOf 2).toNat = 2 from by decide, show (octet.byteOf 6).toNat = 6 from by decide, show (octet.byteOf 65).toNat = 65 from by decide, show (octet.byteOf 4).toNat = 4 from by decide]; rfl)
    have hst : Below wc.heap.size wc ((wc.alloc (.cells #[.int .u8 8, .int .u8 2, .int .u8 6, .int .u8 65, .int .u8 4] 5)).drew) := ((Below.refl wc.heap.size wc).alloc (Nat.le_refl _) _).drew
    have hr7 := HR6.out.below hst
    have HS := Lib.hid hs
    have HR7 := Lib.hid hr7
    have t0a := (HR7.out.bel.cell (p := ⟨w.heap.size, 0, none⟩) hlt).trans x0
    clear hs hr7 hst
    go_wp2_with fail
    go_region_held3 (fun w' => w'.cell? ⟨w.heap.size, 0, none⟩ = some (.int .u32 (n : Int))) (first | exact t0 | exact t0a) (first
      | (refine step_append_sl rfl (.tmp 31) (.tmp 32) _ rfl wb.heap.size 5 i0 _ 1 1 Try.underlying26 Hi.out Hz0.out Hz1.out Hz2.out rfl (by omega) (.slice A6 9 c6) 9 (bv ([octet.byteOf 4] ++ bigv m 2 ++ bigv hold 2 ++ bigv id 4)) rfl (by exact HR7.out.own) (wc.heap.size + 1) (some ⟨wc.heap.size, 0, none⟩) 5 5 (by intro h; cases h) (bv [octet.byteOf 8, octet.byteOf 2, octet.byteOf 6, octet.byteOf 65, octet.byteOf 4]) rfl (by exact HS.out) (bv_one _) (by unfold maxLen; omega) (by omega) HR7.out.bel.size ?_; intro A8 c8 w8 ho hg hat; go_must (have HR8 : Hid (Row wb w8 A8 c8 ([octet.byteOf 4] ++ bigv m 2 ++ bigv hold 2 ++ bigv id 4 ++ [octet.byteOf 8, octet.byteOf 2, octet.byteOf 6, octet.byteOf 65, octet.byteOf 4])) := HR7.out.app ho hg); go_must (have t0 := (HR8.out.bel.cell (p := ⟨w.heap.size, 0, none⟩) hlt).trans x0); clear ho hg hat)
      | (go_at_call 33; refine (Big_any n 4 _ (by omega) (by omega)).mono ?_; rintro e w9 ⟨B9, k9, rfl, g2, g3, g4, g5, g6, g7⟩; go_must (have HR9 := Lib.hid (HR8.out.below g6)); go_must (have HG9 := Lib.hid g5); go_must (have HA9 := Lib.hid g2); go_must (have t0 := (HR9.out.bel.cell (p := ⟨w.heap.size, 0, none⟩) hlt).trans x0); clear g2 g3 g4 g5 g6 g7)
      | (refine step_append_sl rfl (.tmp 33) (.tmp 37) _ rfl wb.heap.size 5 i0 _ 1 1 Try.underlying26 Hi.out Hz0.out Hz1.out Hz2.out rfl (by omega) (.slice A8 14 c8) 14 (bv ([octet.byteOf 4] ++ bigv m 2 ++ bigv hold 2 ++ bigv id 4 ++ [octet.byteOf 8, octet.byteOf 2, octet.byteOf 6, octet.byteOf 65, octet.byteOf 4])) rfl (by exact HR9.out.own) _ B9 4 k9 HA9.out (bv (bigv n 4)) rfl (by exact HG9.out) (bv_one _) (by unfold maxLen; omega) (by omega) HR9.out.bel.size ?_; intro A10 c10 w10 ho hg hat; go_must (have HR10 : Hid (Row wb w10 A10 c10 ([octet.byteOf 4] ++ bigv m 2 ++ bigv hold 2 ++ bigv id 4 ++ [octet.byteOf 8, octet.byteOf 2, octet.byteOf 6, octet.byteOf 65, octet.byteOf 4] ++ bigv n 4)) := HR9.out.app ho hg); go_must (have t0 := (HR10.out.bel.cell (p := ⟨w.heap.size, 0, none⟩) hlt).trans x0); clear ho hg hat))
    go_wp2_with fail
    go_ret
    have he := HE.out
    simp only [if_true, ← List.append_assoc] at he
    rw [he]
    exact ⟨A10, c10, rfl, (NewSl.of_own HR10.out.own HR10.out.bel).wide HAB.out⟩
end Go.Proofs.Ytajilbapjpfloaa.openk
