/- What confluenceref23.Set returns. Condition: fewer than 10000 rows, rising keys. -/
import Derived.Test.YtbhhkjkjihenoaaClockRef
import Derived.Deep.DeepCutAuto
namespace Go.Proofs.Ytbhhkjkjihenoaa.clk
open Go.RowKit Go.Proofs.Ytbhhkjkjihenoaa.kit Go.Proofs.Ytbhhkjkjihenoaa.mem Go.Proofs.Ytbhhkjkjihenoaa.foot Go.Proofs.Ytbhhkjkjihenoaa.maps
set_option linter.unusedVariables false
set_option linter.unusedSimpArgs false

theorem rg_two {w : World} {g : Nat} {t : TypeId} {a b : Value} (h : Bk w g t #[a, b]) : Rg w (fun k => k = g) 2 (some ⟨g, 0, none⟩) 1 [a, b] :=
  ⟨rfl, fun _ => ⟨g, 0, rfl, rfl, h.lt, fun j u hu => by rw [h.cell, Nat.zero_add]; simpa using hu⟩⟩
theorem acc_ap {w w0 w1 w2 : World} {e : TypeId} {size n m c c' : Nat} {A A' : Option Addr} {xs news : List Value} (hc : Chg (sf A) w0 w2) (hf : Fresh w0 (sf A) (sf A')) (ho : Own w2 e size A' m c' news) (h : Acc w e size w1 A n c xs) (h1 : w0.heap = w1.heap) (h2 : w0.os = w1.os) (h3 : w0.tape = w1.tape) (h4 : w0.output = w1.output) : Acc w e size w2 A' m c' news :=
  (h.go (w2 := w0) ⟨h2, h3, h4, by rw [h1]; exact Nat.le_refl _, fun k _ => by rw [h1]⟩).app ho hc hf
theorem bk_ap {w0 w1 w2 : World} {g0 g : Nat} {t : TypeId} {cs : Array Value} (hc : Chg (sf (some ⟨g0, 0, none⟩)) w0 w2) (h : Bk w1 g t cs) (h1 : w0.heap = w1.heap) (hn : g0 ≠ g) : Bk w2 g t cs :=
  Bk.chg (w := w0) (by unfold Bk; rw [h1]; exact h) hc (by rw [sf_some]; exact hn)

theorem spot_le (R : KV) (k : Int) : rSpot R k ≤ R.length := (List.takeWhile_sublist _).length_le
theorem spot_lt (R : KV) (k : Int) {i : Nat} (hi : i < rSpot R k) (h : i < R.length) : R[i].1 < k := by
  obtain ⟨e1, _⟩ := take_while_len (fun r : Int × Int => decide (r.1 < k)) R
  have hm : R[i] ∈ R.takeWhile (fun r => decide (r.1 < k)) := by
    rw [← e1]
    exact List.mem_take_iff_getElem.2 ⟨i, by unfold rSpot at hi; omega, rfl⟩
  exact take_lt R k _ hm
theorem spot_at (R : KV) (k : Int) (h : rSpot R k < R.length) : ¬ R[rSpot R k].1 < k := by
  obtain ⟨_, e2⟩ := take_while_len (fun r : Int × Int => decide (r.1 < k)) R
  have e3 : R.drop (rSpot R k) = R.dropWhile (fun r => decide (r.1 < k)) := e2
  rw [List.drop_eq_getElem_cons h] at e3
  have h4 := List.head?_dropWhile_not (fun r : Int × Int => decide (r.1 < k)) R
  rw [← e3, List.head?_cons] at h4
  simpa using h4

theorem refSet_bad (B : Nat) (R : KV) (A : Option Addr) (c : Nat) (k n : Int) (w : World) (hn : n < 1 ∨ 65535 < n) :
    Calls Try.prog 56 #[.slice A R.length c, .int .i64 k, .int .i64 n] w fun e w' => e = .returned (.tuple #[.slice A R.length c, .int .i64 1]) ∧ w = w' := by
  by_cases h : n < 1
  case' pos =>
    have e1 : decide (n < 1) = true := by simp; omega
  case' neg =>
    have e1 : decide (n < 1) = false := by simp; omega
    have e2 : decide (65535 < n) = true := by simp; omega
  all_goals
    clear hn h
    go_enter Try.func56, Try.ntmps56
    go_wp2_with fail
    go_ret2
    exact ⟨rfl, rfl⟩

set_option maxRecDepth 100000 in
set_option maxHeartbeats 4000000 in
theorem refSet_ok (B : Nat) (R : KV) (A : Option Addr) (c : Nat) (k n : Int) (w : World) (h1 : 1 ≤ n) (h2 : n ≤ 65535) (hl : R.length < 10000) (hR : Rising R) (hr : Row3 B w 2 A R.length c (pv2 R)) (hB : B ≤ w.heap.size) :
    Calls Try.prog 56 #[.slice A R.length c, .int .i64 k, .int .i64 n] w fun e w' => ∃ A' c', e = .returned (.tuple #[.slice A' (rSet R k n).length c', .int .i64 0]) ∧ Row3 B w' 2 A' (rSet R k n).length c' (pv2 (rSet R k n)) ∧ Below w.heap.size w w' := by
  have HAt := Lib.hid (refAt_any B R A c k w (by omega) hr)
  have HCu := Lib.hid (fun w' (hb : Below w.heap.size w w') => refCut_any B R A c k w' (by omega) hR (hr.bel hb) (Nat.le_trans hB hb.size))
  obtain ⟨i0, hi0, hz0, hz1, hz2⟩ := info_parts info_row
  have Hi := Lib.hid hi0
  have Hz0 := Lib.hid hz0
  have Hz1 := Lib.hid hz1
  have Hz2 := Lib.hid hz2
  have e1 : decide (n < 1) = false := by simp; omega
  have e2 : decide (65535 < n) = false := by simp; omega
  have e3 : decide ((10000 : Int) ≤ (R.length : Int)) = false := by simp; omega
  have hcl := rCut_len R k
  obtain ⟨R1, hR1⟩ : ∃ R1, R1 = rCut R k := ⟨_, rfl⟩
  obtain ⟨S, hS⟩ : ∃ S, S = rSet R k n := ⟨_, rfl⟩
  obtain ⟨T0, hT0⟩ : ∃ T0, T0 = rSpot R1 k := ⟨_, rfl⟩
  have HS : Hid (S = R1.take T0 ++ (k, n) :: R1.drop T0) := by rw [Hid, hS, hT0, hR1]; rfl
  have HBl := Lib.hid (fun i (h : i < T0) (hi : i < R1.length) => spot_lt R1 k (by rw [← hT0]; exact h) hi)
  have HBa : Hid (∀ h : T0 < R1.length, ¬ R1[T0].1 < k) := by
    rw [hT0]
    exact fun h => spot_at R1 k h
  have hT : T0 ≤ R1.length := by rw [hT0]; exact spot_le R1 k
  have HBB := Lib.hid hB
  rw [← hS]
  rw [← hR1] at HCu hcl
  generalize hz : rAt R k = z at *
  clear hr hi0 hz0 hz1 hz2 hR hR1 hS hT0 hz
  go_enter Try.func56, Try.ntmps56
  go_upto_region 3 with fail
  go_cut [24] (fun s wx => s = .bool false ∧ Below w.heap.size w wx)
  case first =>
    by_cases hzz : z < 0
    case' pos =>
      have d1 : decide (z < 0) = true := by simp; omega
    case' neg =>
      have d1 : decide (z < 0) = false := by simp; omega
    all_goals
      clear hzz
      go_wp2_with fail
      refine HAt.out.mono ?_; rintro e w1 ⟨rfl, hb1⟩
      have HB1 := Lib.hid hb1
      clear hb1 HAt
      go_wp2_with fail
      go_meet
      exact ⟨rfl, HB1.out⟩
  case' rest =>
    obtain ⟨rfl, hb1⟩ := hcut
    have HB1 := Lib.hid hb1
    clear hb1 HAt e3
    go_wp2_with fail
    refine (HCu.out _ HB1.out).mono ?_; rintro e w2 ⟨A1, c1, rfl, hr1, hb2⟩
    have HB2 := Lib.hid (HB1.out.trans (hb2.mono HB1.out.size))
    have HR := Lib.hid hr1
    have klo := rcut_lo A1 c1 R1.length T0 hr1.nil hr1.cap hr1.max hT
    obtain ⟨A5, c5, h5a, h5b, h5c, khi, h5r⟩ := rcut_hi A1 c1 R1.length T0 hr1.nil hr1.cap hr1.max hT
    have H5 := Lib.hid h5a
    have H5r := Lib.hid h5r
    have HE : Hid (∀ w' A' c', Acc w2 117 2 w' A' (T0 + 1 + (R1.length - T0)) c' ([] ++ (pv2 R1).take (T0 * 2) ++ [.int .i64 k, .int .i64 n] ++ (pv2 R1).drop (T0 * 2)) → ∃ A2 c2, Value.tuple #[.slice A' (T0 + 1 + (R1.length - T0)) c', .int .i64 0] = .tuple #[.slice A2 S.length c2, .int .i64 0] ∧ Row3 B w' 2 A2 S.length c2 (pv2 S) ∧ Below w.heap.size w w') := fun w' A' c' h => by
      have hn : T0 + 1 + (R1.length - T0) = S.length := by rw [HS.out]; simp; omega
      have hx : [] ++ (pv2 R1).take (T0 * 2) ++ [.int .i64 k, .int .i64 n] ++ (pv2 R1).drop (T0 * 2) = pv2 S := by rw [HS.out, pv2_app, pv2_take, pv2_drop]; simp [pv2]
      rw [hn, hx] at h
      rw [hn]
      exact ⟨A', c', rfl, h.row (Nat.le_trans HBB.out HB2.out.size), HB2.out.trans (h.bel.mono HB2.out.size)⟩
    clear hb2 hr1 h5a h5b h5c h5r HB1 HCu HS HBB
    go_wp2_with fail
    go_loopw [8] (fun v8 wr => ∃ i : Nat, i ≤ T0 ∧ v8 = .int .i64 i ∧ Below w2.heap.size w2 wr) (fun v8 _ => T0 - (intOf v8).toNat)
    case atStart => exact ⟨0, Nat.zero_le _, rfl, Below.refl _ _⟩
    case round =>
      obtain ⟨i, hi, rfl, hbr⟩ := hrel
      have HBr := Lib.hid hbr
      clear hbr
      by_cases hlt : i < T0
      · have hkl : i < R1.length := by omega
        obtain ⟨b, off, rfl, hb, c0, _⟩ := row_cell HR.out hkl
        have q0 := (HBr.out.cell (p := ⟨b, off + i * 2, none⟩) hb).trans c0
        have hlt2 := HBl.out i hlt hkl
        have d1 : decide (R1[i].1 < k) = true := by simp; omega
        have hki : (i : Int) < (R1.length : Int) := by omega
        clear c0
        go_wp2_with fail
        go_roundw
        case rel => exact ⟨i + 1, by omega, by go_num, HBr.out⟩
        case measure => simp [intOf]; omega
      · obtain rfl : i = T0 := by omega
        clear hlt hi
        by_cases hkl : i < R1.length
        case' pos =>
          obtain ⟨b, off, rfl, hb, c0, _⟩ := row_cell HR.out hkl
          have q0 := (HBr.out.cell (p := ⟨b, off + i * 2, none⟩) hb).trans c0
          have d1 : decide (R1[i].1 < k) = false := by have := HBa.out hkl; simp; omega
          have hki : (i : Int) < (R1.length : Int) := by omega
          clear c0
        case' neg =>
          have dk : decide ((i : Int) < (R1.length : Int)) = false := by simp; omega
        all_goals
          go_upto_region 9 with fail
          generalize wr = w3 at *
          have HA0a : Hid (Acc w2 117 2 (w3.alloc (.cells #[] 117)) (some ⟨w3.heap.size, 0, none⟩) 0 0 []) := Acc.start (HBr.out.alloc HBr.out.size _) (Bk.new w3 _ _) HBr.out.size
          have HA0b : Hid (Acc w2 117 2 ((w3.alloc (.cells #[] 117)).alloc (.cells #[.int .i64 k, .int .i64 n] 117)) (some ⟨w3.heap.size, 0, none⟩) 0 0 []) := HA0a.out.go ((Below.refl _ _).alloc (Nat.le_refl _) _)
          have HR0b : Hid (Bk ((w3.alloc (.cells #[] 117)).alloc (.cells #[.int .i64 k, .int .i64 n] 117)) (w3.heap.size + 1) 117 #[.int .i64 k, .int .i64 n]) := by have := Bk.new (w3.alloc (.cells #[] 117)) 117 #[.int .i64 k, .int .i64 n]; rwa [World.size_alloc] at this
          have HA0c : Hid (Acc w2 117 2 ((w3.alloc (.cells #[.int .i64 k, .int .i64 n] 117)).alloc (.cells #[] 117)) (some ⟨w3.heap.size + 1, 0, none⟩) 0 0 []) := by
            have hb : Below w2.heap.size w2 (w3.alloc (.cells #[.int .i64 k, .int .i64 n] 117)) := HBr.out.alloc HBr.out.size _
            have := Acc.start (e := 117) (size := 2) (hb.alloc hb.size (.cells #[] 117)) (Bk.new _ _ _) hb.size
            rwa [World.size_alloc] at this
          have HR0c : Hid (Bk ((w3.alloc (.cells #[.int .i64 k, .int .i64 n] 117)).alloc (.cells #[] 117)) w3.heap.size 117 #[.int .i64 k, .int .i64 n]) := (Bk.new w3 _ _).alloc _
          go_region_held3 (fun _ => True) (exact trivial) (first
            | (refine step_app _ (by rfl) (.tmp 44) (.tmp 47) _ (by rfl) 117 i0 _ 2 16 Try.underlying104 Hi.out Hz0.out Hz1.out Hz2.out rfl (by omega) (some ⟨w3.heap.size, 0, none⟩) 0 0 [] (by rfl) HA0a.out.own _ _ i c1 HR.out.nil ((pv2 R1).take (i * 2)) (by rfl) (HA0a.out.rg (HR.out.rg.take (by omega))) (fun u hu => pv2_one R1 u (List.mem_of_mem_take hu)) (by unfold maxLen; omega) (by omega) ?_; intro A3 c3 w4 ho3 hc3 hf3; go_must (rw [Nat.zero_add i] at ho3 ⊢); go_must (have HA3 := Lib.hid (acc_ap hc3 hf3 ho3 HA0a.out rfl rfl rfl rfl)); clear ho3 hc3 hf3)
            | (refine step_app _ (by rfl) (.tmp 44) (.tmp 47) _ (by rfl) 117 i0 _ 2 16 Try.underlying104 Hi.out Hz0.out Hz1.out Hz2.out rfl (by omega) (some ⟨w3.heap.size, 0, none⟩) 0 0 [] (by rfl) HA0b.out.own _ _ i c1 HR.out.nil ((pv2 R1).take (i * 2)) (by rfl) (HA0b.out.rg (HR.out.rg.take (by omega))) (fun u hu => pv2_one R1 u (List.mem_of_mem_take hu)) (by unfold maxLen; omega) (by omega) ?_; intro A3 c3 w4 ho3 hc3 hf3; go_must (rw [Nat.zero_add i] at ho3 ⊢); go_must (have HA3 := Lib.hid (acc_ap hc3 hf3 ho3 HA0b.out rfl rfl rfl rfl)); go_must (have HR3 := Lib.hid (bk_ap hc3 HR0b.out rfl (by omega))); clear ho3 hc3 hf3)
            | (refine step_app _ (by rfl) (.tmp 44) (.tmp 47) _ (by rfl) 117 i0 _ 2 16 Try.underlying104 Hi.out Hz0.out Hz1.out Hz2.out rfl (by omega) (some ⟨(w3.heap.size + 1), 0, none⟩) 0 0 [] (by rfl) HA0c.out.own _ _ i c1 HR.out.nil ((pv2 R1).take (i * 2)) (by rfl) (HA0c.out.rg (HR.out.rg.take (by omega))) (fun u hu => pv2_one R1 u (List.mem_of_mem_take hu)) (by unfold maxLen; omega) (by omega) ?_; intro A3 c3 w4 ho3 hc3 hf3; go_must (rw [Nat.zero_add i] at ho3 ⊢); go_must (have HA3 := Lib.hid (acc_ap hc3 hf3 ho3 HA0c.out rfl rfl rfl rfl)); go_must (have HR3 := Lib.hid (bk_ap hc3 HR0c.out rfl (by omega))); clear ho3 hc3 hf3)
            | ((have HA3x : Hid (Acc w2 117 2 (w4.alloc (.cells #[.int .i64 k, .int .i64 n] 117)) A3 i c3 ([] ++ ((pv2 R1).take (i * 2)))) := HA3.out.go ((Below.refl _ _).alloc (Nat.le_refl _) _)); refine step_app _ (by rfl) (.tmp 48) (.tmp 52) _ (by rfl) 117 i0 _ 2 16 Try.underlying104 Hi.out Hz0.out Hz1.out Hz2.out rfl (by omega) A3 i c3 ([] ++ ((pv2 R1).take (i * 2))) (by rfl) HA3x.out.own _ (some ⟨w4.heap.size, 0, none⟩) 1 1 (by intro h; cases h) [.int .i64 k, .int .i64 n] (by rfl) (rg_two (Bk.new w4 _ _)) (by intro u hu; simp at hu; rcases hu with rfl | rfl <;> rfl) (by unfold maxLen; omega) (by omega) ?_; intro A4 c4 w5 ho4 hc4 hf4; go_must (have HA4 : Hid (Acc w2 117 2 w5 A4 (i + 1) c4 ([] ++ ((pv2 R1).take (i * 2)) ++ [.int .i64 k, .int .i64 n])) := acc_ap hc4 hf4 ho4 HA3x.out rfl rfl rfl rfl); clear ho4 hc4 hf4)
            | (refine step_app _ (by rfl) (.tmp 48) (.tmp 52) _ (by rfl) 117 i0 _ 2 16 Try.underlying104 Hi.out Hz0.out Hz1.out Hz2.out rfl (by omega) A3 i c3 ([] ++ ((pv2 R1).take (i * 2))) (by rfl) HA3.out.own _ (some ⟨w3.heap.size + 1, 0, none⟩) 1 1 (by intro h; cases h) [.int .i64 k, .int .i64 n] (by rfl) (rg_two HR3.out) (by intro u hu; simp at hu; rcases hu with rfl | rfl <;> rfl) (by unfold maxLen; omega) (by omega) ?_; intro A4 c4 w5 ho4 hc4 hf4; go_must (have HA4 : Hid (Acc w2 117 2 w5 A4 (i + 1) c4 ([] ++ ((pv2 R1).take (i * 2)) ++ [.int .i64 k, .int .i64 n])) := acc_ap hc4 hf4 ho4 HA3.out rfl rfl rfl rfl); clear ho4 hc4 hf4)
            | (refine step_app _ (by rfl) (.tmp 48) (.tmp 52) _ (by rfl) 117 i0 _ 2 16 Try.underlying104 Hi.out Hz0.out Hz1.out Hz2.out rfl (by omega) A3 i c3 ([] ++ ((pv2 R1).take (i * 2))) (by rfl) HA3.out.own _ (some ⟨w3.heap.size, 0, none⟩) 1 1 (by intro h; cases h) [.int .i64 k, .int .i64 n] (by rfl) (rg_two HR3.out) (by intro u hu; simp at hu; rcases hu with rfl | rfl <;> rfl) (by unfold maxLen; omega) (by omega) ?_; intro A4 c4 w5 ho4 hc4 hf4; go_must (have HA4 : Hid (Acc w2 117 2 w5 A4 (i + 1) c4 ([] ++ ((pv2 R1).take (i * 2)) ++ [.int .i64 k, .int .i64 n])) := acc_ap hc4 hf4 ho4 HA3.out rfl rfl rfl rfl); clear ho4 hc4 hf4)
            | (refine step_app _ (by rfl) (.tmp 53) (.tmp 56) _ (by rfl) 117 i0 _ 2 16 Try.underlying104 Hi.out Hz0.out Hz1.out Hz2.out rfl (by omega) A4 (i + 1) c4 ([] ++ ((pv2 R1).take (i * 2)) ++ [.int .i64 k, .int .i64 n]) (by rfl) HA4.out.own _ A5 (R1.length - i) c5 H5.out ((pv2 R1).drop (i * 2)) (by rfl) (H5r.out _ _ _ (HA4.out.rg HR.out.rg)) (fun u hu => pv2_one R1 u (List.mem_of_mem_drop hu)) (by unfold maxLen; omega) (by omega) ?_; intro A6 c6 w6 ho5 hc5 hf5; go_must (have HA5 := Lib.hid (acc_ap hc5 hf5 ho5 HA4.out rfl rfl rfl rfl)); clear ho5 hc5 hf5))
          all_goals
            go_wp2_with fail
            go_ret2
            obtain ⟨A7, c7, he, hr7, hb7⟩ := HE.out _ _ _ HA5.out
            exact ⟨A7, c7, congrArg Ending.returned he, hr7, hb7⟩
end Go.Proofs.Ytbhhkjkjihenoaa.clk
