/- What confluenceref05.Add returns. Condition: fewer than 10000 rows, rising keys, counts that stay under 2^39. -/
import Derived.Test.YtafepficapdepaaTallyRef
import Derived.Deep.DeepCutAuto
namespace Go.Proofs.Ytafepficapdepaa.tally
open Go.RowKit Go.Proofs.Ytafepficapdepaa.kit Go.Proofs.Ytafepficapdepaa.mem Go.Proofs.Ytafepficapdepaa.foot Go.Proofs.Ytafepficapdepaa.maps
set_option linter.unusedVariables false
set_option linter.unusedSimpArgs false

theorem rg_three {w : World} {g : Nat} {t : TypeId} {a b d : Value} (h : Bk w g t #[a, b, d]) : Rg w (fun k => k = g) 3 (some ⟨g, 0, none⟩) 1 [a, b, d] :=
  ⟨rfl, fun _ => ⟨g, 0, rfl, rfl, h.lt, fun j u hu => by rw [h.cell, Nat.zero_add]; simpa using hu⟩⟩
theorem acc_ap {w w0 w1 w2 : World} {e : TypeId} {size n m c c' : Nat} {A A' : Option Addr} {xs news : List Value} (hc : Chg (sf A) w0 w2) (hf : Fresh w0 (sf A) (sf A')) (ho : Own w2 e size A' m c' news) (h : Acc w e size w1 A n c xs) (h1 : w0.heap = w1.heap) (h2 : w0.os = w1.os) (h3 : w0.tape = w1.tape) (h4 : w0.output = w1.output) : Acc w e size w2 A' m c' news :=
  (h.go (w2 := w0) ⟨h2, h3, h4, by rw [h1]; exact Nat.le_refl _, fun k _ => by rw [h1]⟩).app ho hc hf
theorem bk_ap {w0 w1 w2 : World} {g0 g : Nat} {t : TypeId} {cs : Array Value} (hc : Chg (sf (some ⟨g0, 0, none⟩)) w0 w2) (h : Bk w1 g t cs) (h1 : w0.heap = w1.heap) (hn : g0 ≠ g) : Bk w2 g t cs :=
  Bk.chg (w := w0) (by unfold Bk; rw [h1]; exact h) hc (by rw [sf_some]; exact hn)

/-- what confluenceref05.Add hands back -/
def AddRef (B : Nat) (w : World) (S : KC) (e : Ending) (w' : World) : Prop := ∃ A' c', e = .returned (.tuple #[.slice A' S.length c', .int .i64 0]) ∧ Row3 B w' 3 A' S.length c' (kv3 S) ∧ Below w.heap.size w w'

set_option maxRecDepth 100000 in
set_option maxHeartbeats 4000000 in
theorem refAdd_miss (B : Nat) (R : KC) (A : Option Addr) (c : Nat) (k u v : Int) (w : World) (hu : u ≤ 549755813888) (hv : v ≤ 549755813888) (hl : R.length < 10000) (hR : Rising R) (hx : rIdx R k = none) (hr : Row3 B w 3 A R.length c (kv3 R)) (hB : B ≤ w.heap.size) :
    Calls Try.prog 23 #[.slice A R.length c, .int .u32 k, .int .i64 u, .int .i64 v] w (AddRef B w (rSet R k (u, v))) := by
  have HAt := Lib.hid (refAt_any B R A c k w (by omega) hr)
  have hz : rAt R k = -1 := by unfold rAt; rw [hx]
  rw [hz] at HAt
  obtain ⟨i0, hi0, hz0, hz1, hz2⟩ := info_parts info_row
  have Hi := Lib.hid hi0
  have Hz0 := Lib.hid hz0
  have Hz1 := Lib.hid hz1
  have Hz2 := Lib.hid hz2
  have e1 : decide (549755813888 < u) = false := by simp; omega
  have e2 : decide (549755813888 < v) = false := by simp; omega
  have e3 : decide ((10000 : Int) ≤ (R.length : Int)) = false := by simp; omega
  obtain ⟨S, hS⟩ : ∃ S, S = rSet R k (u, v) := ⟨_, rfl⟩
  obtain ⟨T0, hT0⟩ : ∃ T0, T0 = rSpot R k := ⟨_, rfl⟩
  have HS : Hid (S = R.take T0 ++ (k, u, v) :: R.drop T0) := by rw [Hid, hS, hT0]; exact rSet_miss hx _
  have HBl := Lib.hid (fun i (h : i < T0) (hi : i < R.length) => spot_lt R k (by rw [← hT0]; exact h) hi)
  have HBa : Hid (∀ h : T0 < R.length, ¬ R[T0].1 < k) := by
    rw [hT0]
    exact fun h => spot_at R k h
  have hT : T0 ≤ R.length := by rw [hT0]; exact spot_le R k
  have HBB := Lib.hid hB
  rw [← hS]
  have HR := Lib.hid hr
  have HQ : Hid (AddRef B w S = fun e w' => ∃ A' c', e = .returned (.tuple #[.slice A' S.length c', .int .i64 0]) ∧ Row3 B w' 3 A' S.length c' (kv3 S) ∧ Below w.heap.size w w') := rfl
  rw [HQ.out]
  clear hi0 hz0 hz1 hz2 hR hS hT0 hz hx hu hv HQ hr
  go_enter Try.func23, Try.ntmps23
  go_wp2_with fail
  refine HAt.out.mono ?_; rintro e w2 ⟨rfl, hb2⟩
  have HB2 := Lib.hid hb2
  have klo := rcut_lo A c R.length T0 HR.out.nil HR.out.cap HR.out.max hT
  obtain ⟨A5, c5, h5a, h5b, h5c, khi, h5r⟩ := rcut_hi A c R.length T0 HR.out.nil HR.out.cap HR.out.max hT
  have H5 := Lib.hid h5a
  have H5r := Lib.hid h5r
  have HR2 := Lib.hid (HR.out.bel hb2)
  have HE : Hid (∀ w' A' c', Acc w2 58 3 w' A' (T0 + 1 + (R.length - T0)) c' ([] ++ (kv3 R).take (T0 * 3) ++ [.int .u32 k, .int .i64 u, .int .i64 v] ++ (kv3 R).drop (T0 * 3)) → ∃ A2 c2, Value.tuple #[.slice A' (T0 + 1 + (R.length - T0)) c', .int .i64 0] = .tuple #[.slice A2 S.length c2, .int .i64 0] ∧ Row3 B w' 3 A2 S.length c2 (kv3 S) ∧ Below w.heap.size w w') := fun w' A' c' h => by
    have hn : T0 + 1 + (R.length - T0) = S.length := by rw [HS.out]; simp; omega
    have hx : [] ++ (kv3 R).take (T0 * 3) ++ [.int .u32 k, .int .i64 u, .int .i64 v] ++ (kv3 R).drop (T0 * 3) = kv3 S := by rw [HS.out, kv3_app, kv3_take, kv3_drop]; simp [kv3]
    rw [hn, hx] at h
    rw [hn]
    exact ⟨A', c', rfl, h.row (Nat.le_trans HBB.out HB2.out.size), HB2.out.trans (h.bel.mono HB2.out.size)⟩
  clear hb2 h5a h5b h5c h5r HAt HR HS HBB HB2
  have HR := HR2
  clear HR2
  go_wp2_with fail
  go_loopw [11] (fun v11 wr => ∃ i : Nat, i ≤ T0 ∧ v11 = .int .i64 i ∧ Below w2.heap.size w2 wr) (fun v11 _ => T0 - (intOf v11).toNat)
  case atStart => exact ⟨0, Nat.zero_le _, rfl, Below.refl _ _⟩
  case round =>
    obtain ⟨i, hi, rfl, hbr⟩ := hrel
    have HBr := Lib.hid hbr
    clear hbr
    by_cases hlt : i < T0
    · have hkl : i < R.length := by omega
      obtain ⟨b, off, rfl, hb, c0, _, _⟩ := row_cell HR.out hkl
      have q0 := (HBr.out.cell (p := ⟨b, off + i * 3, none⟩) hb).trans c0
      have hlt2 := HBl.out i hlt hkl
      have d1 : decide (R[i].1 < k) = true := by simp; omega
      have hki : (i : Int) < (R.length : Int) := by omega
      clear c0
      go_wp2_with fail
      go_roundw
      case rel => exact ⟨i + 1, by omega, by go_num, HBr.out⟩
      case measure => simp [intOf]; omega
    · obtain rfl : i = T0 := by omega
      clear hlt hi
      by_cases hkl : i < R.length
      case' pos =>
        obtain ⟨b, off, rfl, hb, c0, _, _⟩ := row_cell HR.out hkl
        have q0 := (HBr.out.cell (p := ⟨b, off + i * 3, none⟩) hb).trans c0
        have d1 : decide (R[i].1 < k) = false := by have := HBa.out hkl; simp; omega
        have hki : (i : Int) < (R.length : Int) := by omega
        clear c0
      case' neg =>
        have dk : decide ((i : Int) < (R.length : Int)) = false := by simp; omega
      all_goals
        go_upto_region 8 with fail
        generalize wr = w3 at *
        have HA0a : Hid (Acc w2 58 3 (w3.alloc (.cells #[] 58)) (some ⟨w3.heap.size, 0, none⟩) 0 0 []) := Acc.start (HBr.out.alloc HBr.out.size _) (Bk.new w3 _ _) HBr.out.size
        have HA0b : Hid (Acc w2 58 3 ((w3.alloc (.cells #[] 58)).alloc (.cells #[.int .u32 k, .int .i64 u, .int .i64 v] 58)) (some ⟨w3.heap.size, 0, none⟩) 0 0 []) := HA0a.out.go ((Below.refl _ _).alloc (Nat.le_refl _) _)
        have HR0b : Hid (Bk ((w3.alloc (.cells #[] 58)).alloc (.cells #[.int .u32 k, .int .i64 u, .int .i64 v] 58)) (w3.heap.size + 1) 58 #[.int .u32 k, .int .i64 u, .int .i64 v]) := by have := Bk.new (w3.alloc (.cells #[] 58)) 58 #[.int .u32 k, .int .i64 u, .int .i64 v]; rwa [World.size_alloc] at this
        have HA0c : Hid (Acc w2 58 3 ((w3.alloc (.cells #[.int .u32 k, .int .i64 u, .int .i64 v] 58)).alloc (.cells #[] 58)) (some ⟨w3.heap.size + 1, 0, none⟩) 0 0 []) := by
          have hb : Below w2.heap.size w2 (w3.alloc (.cells #[.int .u32 k, .int .i64 u, .int .i64 v] 58)) := HBr.out.alloc HBr.out.size _
          have := Acc.start (e := 58) (size := 3) (hb.alloc hb.size (.cells #[] 58)) (Bk.new _ _ _) hb.size
          rwa [World.size_alloc] at this
        have HR0c : Hid (Bk ((w3.alloc (.cells #[.int .u32 k, .int .i64 u, .int .i64 v] 58)).alloc (.cells #[] 58)) w3.heap.size 58 #[.int .u32 k, .int .i64 u, .int .i64 v]) := (Bk.new w3 _ _).alloc _
        go_region_held3 (fun _ => True) (exact trivial) (first
          | (refine step_app _ (by rfl) (.tmp 45) (.tmp 48) _ (by rfl) 58 i0 _ 3 24 Try.underlying52 Hi.out Hz0.out Hz1.out Hz2.out rfl (by omega) (some ⟨w3.heap.size, 0, none⟩) 0 0 [] (by rfl) HA0a.out.own _ _ i c HR.out.nil ((kv3 R).take (i * 3)) (by rfl) (HA0a.out.rg (HR.out.rg.take (by omega))) (fun u hu => kv3_one R u (List.mem_of_mem_take hu)) (by unfold maxLen; omega) (by omega) ?_; intro A3 c3 w4 ho3 hc3 hf3; go_must (rw [Nat.zero_add i] at ho3 ⊢); go_must (have HA3 := Lib.hid (acc_ap hc3 hf3 ho3 HA0a.out rfl rfl rfl rfl)); clear ho3 hc3 hf3)
          | (refine step_app _ (by rfl) (.tmp 45) (.tmp 48) _ (by rfl) 58 i0 _ 3 24 Try.underlying52 Hi.out Hz0.out Hz1.out Hz2.out rfl (by omega) (some ⟨w3.heap.size, 0, none⟩) 0 0 [] (by rfl) HA0b.out.own _ _ i c HR.out.nil ((kv3 R).take (i * 3)) (by rfl) (HA0b.out.rg (HR.out.rg.take (by omega))) (fun u hu => kv3_one R u (List.mem_of_mem_take hu)) (by unfold maxLen; omega) (by omega) ?_; intro A3 c3 w4 ho3 hc3 hf3; go_must (rw [Nat.zero_add i] at ho3 ⊢); go_must (have HA3 := Lib.hid (acc_ap hc3 hf3 ho3 HA0b.out rfl rfl rfl rfl)); go_must (have HR3 := Lib.hid (bk_ap hc3 HR0b.out rfl (by omega))); clear ho3 hc3 hf3)
          | (refine step_app _ (by rfl) (.tmp 45) (.tmp 48) _ (by rfl) 58 i0 _ 3 24 Try.underlying52 Hi.out Hz0.out Hz1.out Hz2.out rfl (by omega) (some ⟨(w3.heap.size + 1), 0, none⟩) 0 0 [] (by rfl) HA0c.out.own _ _ i c HR.out.nil ((kv3 R).take (i * 3)) (by rfl) (HA0c.out.rg (HR.out.rg.take (by omega))) (fun u hu => kv3_one R u (List.mem_of_mem_take hu)) (by unfold maxLen; omega) (by omega) ?_; intro A3 c3 w4 ho3 hc3 hf3; go_must (rw [Nat.zero_add i] at ho3 ⊢); go_must (have HA3 := Lib.hid (acc_ap hc3 hf3 ho3 HA0c.out rfl rfl rfl rfl)); go_must (have HR3 := Lib.hid (bk_ap hc3 HR0c.out rfl (by omega))); clear ho3 hc3 hf3)
          | ((have HA3x : Hid (Acc w2 58 3 (w4.alloc (.cells #[.int .u32 k, .int .i64 u, .int .i64 v] 58)) A3 i c3 ([] ++ ((kv3 R).take (i * 3)))) := HA3.out.go ((Below.refl _ _).alloc (Nat.le_refl _) _)); refine step_app _ (by rfl) (.tmp 49) (.tmp 54) _ (by rfl) 58 i0 _ 3 24 Try.underlying52 Hi.out Hz0.out Hz1.out Hz2.out rfl (by omega) A3 i c3 ([] ++ ((kv3 R).take (i * 3))) (by rfl) HA3x.out.own _ (some ⟨w4.heap.size, 0, none⟩) 1 1 (by intro h; cases h) [.int .u32 k, .int .i64 u, .int .i64 v] (by rfl) (rg_three (Bk.new w4 _ _)) (by intro u hu; simp at hu; rcases hu with rfl | rfl | rfl <;> rfl) (by unfold maxLen; omega) (by omega) ?_; intro A4 c4 w5 ho4 hc4 hf4; go_must (have HA4 : Hid (Acc w2 58 3 w5 A4 (i + 1) c4 ([] ++ ((kv3 R).take (i * 3)) ++ [.int .u32 k, .int .i64 u, .int .i64 v])) := acc_ap hc4 hf4 ho4 HA3x.out rfl rfl rfl rfl); clear ho4 hc4 hf4)
          | (refine step_app _ (by rfl) (.tmp 49) (.tmp 54) _ (by rfl) 58 i0 _ 3 24 Try.underlying52 Hi.out Hz0.out Hz1.out Hz2.out rfl (by omega) A3 i c3 ([] ++ ((kv3 R).take (i * 3))) (by rfl) HA3.out.own _ (some ⟨w3.heap.size + 1, 0, none⟩) 1 1 (by intro h; cases h) [.int .u32 k, .int .i64 u, .int .i64 v] (by rfl) (rg_three HR3.out) (by intro u hu; simp at hu; rcases hu with rfl | rfl | rfl <;> rfl) (by unfold maxLen; omega) (by omega) ?_; intro A4 c4 w5 ho4 hc4 hf4; go_must (have HA4 : Hid (Acc w2 58 3 w5 A4 (i + 1) c4 ([] ++ ((kv3 R).take (i * 3)) ++ [.int .u32 k, .int .i64 u, .int .i64 v])) := acc_ap hc4 hf4 ho4 HA3.out rfl rfl rfl rfl); clear ho4 hc4 hf4)
          | (refine step_app _ (by rfl) (.tmp 49) (.tmp 54) _ (by rfl) 58 i0 _ 3 24 Try.underlying52 Hi.out Hz0.out Hz1.out Hz2.out rfl (by omega) A3 i c3 ([] ++ ((kv3 R).take (i * 3))) (by rfl) HA3.out.own _ (some ⟨w3.heap.size, 0, none⟩) 1 1 (by intro h; cases h) [.int .u32 k, .int .i64 u, .int .i64 v] (by rfl) (rg_three HR3.out) (by intro u hu; simp at hu; rcases hu with rfl | rfl | rfl <;> rfl) (by unfold maxLen; omega) (by omega) ?_; intro A4 c4 w5 ho4 hc4 hf4; go_must (have HA4 : Hid (Acc w2 58 3 w5 A4 (i + 1) c4 ([] ++ ((kv3 R).take (i * 3)) ++ [.int .u32 k, .int .i64 u, .int .i64 v])) := acc_ap hc4 hf4 ho4 HA3.out rfl rfl rfl rfl); clear ho4 hc4 hf4)
          | (refine step_app _ (by rfl) (.tmp 55) (.tmp 58) _ (by rfl) 58 i0 _ 3 24 Try.underlying52 Hi.out Hz0.out Hz1.out Hz2.out rfl (by omega) A4 (i + 1) c4 ([] ++ ((kv3 R).take (i * 3)) ++ [.int .u32 k, .int .i64 u, .int .i64 v]) (by rfl) HA4.out.own _ A5 (R.length - i) c5 H5.out ((kv3 R).drop (i * 3)) (by rfl) (H5r.out _ _ _ (HA4.out.rg HR.out.rg)) (fun u hu => kv3_one R u (List.mem_of_mem_drop hu)) (by unfold maxLen; omega) (by omega) ?_; intro A6 c6 w6 ho5 hc5 hf5; go_must (have HA5 := Lib.hid (acc_ap hc5 hf5 ho5 HA4.out rfl rfl rfl rfl)); clear ho5 hc5 hf5))
        all_goals
          go_wp2_with fail
          go_ret2
          obtain ⟨A7, c7, he, hr7, hb7⟩ := HE.out _ _ _ HA5.out
          exact ⟨A7, c7, congrArg Ending.returned he, hr7, hb7⟩
end Go.Proofs.Ytafepficapdepaa.tally
