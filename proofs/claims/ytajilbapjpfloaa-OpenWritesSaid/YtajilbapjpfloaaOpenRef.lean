/- What confluenceref09's no, holds and Decode return. Condition: at most 2^39 bytes. -/
import Derived.Test.YtajilbapjpfloaaOpenDecode
import Derived.Test.YtajilbapjpfloaaSlice
import Derived.Test.YtajilbapjpfloaaOctRef
import Derived.Deep.DeepCutAuto
import Derived.Deep.RegionHeld3
import Derived.IntWalk
namespace Go.Proofs.Ytajilbapjpfloaa.openk
open Go.RowKit Go.Proofs.Ytajilbapjpfloaa.kit Go.Proofs.Ytajilbapjpfloaa.mem Go.Proofs.Ytajilbapjpfloaa.octet Go.Proofs.Ytajilbapjpfloaa.openJudges
set_option linter.unusedVariables false

theorem no_any (sub : Int) (w : World) : Calls Try.prog 74 #[.int .i64 sub] w fun e w' => e = .returned (.tuple #[.agg #[.int .u32 0, .int .i64 0, .int .u32 0, .bool false], .agg #[.int .i64 2, .int .i64 sub, .slice none 0 0]]) ∧ Below w.heap.size w w' := by
  go_enter Try.func74, Try.ntmps74
  go_wp2_with fail
  refine bodyPost_ret (results_cell_row2 rfl _ _ w.heap.size (w.heap.size + 1) 52 55 #[.int .u32 0, .int .i64 0, .int .u32 0, .bool false] #[.int .i64 2, .int .i64 sub, .slice none 0 0] (0, 0) (0, 0) _ _ rfl ?_ Try.underlying52 rfl info_open rfl ?_ Try.underlying55 rfl info_notice) rfl ?_
  · exact (Bk.new w _ _).alloc _
  · have := Bk.new (w.alloc (.cells #[.int .u32 0, .int .i64 0, .int .u32 0, .bool false] 52)) 55 #[.int .i64 2, .int .i64 sub, .slice none 0 0]
    simpa [Bk] using this
  · exact ⟨rfl, ((Below.refl _ _).alloc (Nat.le_refl _) _).alloc (by simp) _⟩

theorem rholds_any (n : Int) (w : World) : Calls Try.prog 75 #[.int .i64 n] w fun e w' => e = .returned (.bool (holdsB n)) ∧ w = w' := by
  by_cases h0 : n = 0
  · subst h0
    go_enter Try.func75, Try.ntmps75
    go_wp2_with fail
    go_ret
    exact ⟨rfl, rfl⟩
  · have d0 : (n == 0) = false := by simpa using h0
    by_cases h1 : 3 ≤ n
    · have d1 : decide (2 < n) = true := by simp; omega
      by_cases h2 : n ≤ 65535
      · have e : holdsB n = true := by simp [holdsB, h1, h2]
        have d2 : decide (n < 65536) = true := by simp; omega
        rw [e]
        go_enter Try.func75, Try.ntmps75
        go_wp2_with fail
        go_ret
        exact ⟨rfl, rfl⟩
      · have e : holdsB n = false := by simp [holdsB, h0, h2]
        have d2 : decide (n < 65536) = false := by simp; omega
        rw [e]
        go_enter Try.func75, Try.ntmps75
        go_wp2_with fail
        go_ret
        exact ⟨rfl, rfl⟩
    · have e : holdsB n = false := by simp [holdsB, h0, h1]
      have d1 : decide (2 < n) = false := by simp; omega
      rw [e]
      go_enter Try.func75, Try.ntmps75
      go_wp2_with fail
      go_ret
      exact ⟨rfl, rfl⟩

theorem bs_cell {w : World} {B b off : Nat} {l : List UInt8} {i : Nat} {x : UInt8} (h : Bs w B (some ⟨b, off, none⟩) l) (hx : l[i]? = some x) : w.cell? ⟨b, off + i, none⟩ = some (.int .u8 (x.toNat : Int)) := by
  obtain ⟨hi, hx⟩ := List.getElem?_eq_some_iff.1 hx
  obtain ⟨b', off', e, _, hc⟩ := h.at_ hi
  injection e with e
  injection e with e1 e2
  subst e1 e2
  rw [hc, hx]

/-- b[lo:hi] -/
theorem cut_mid (ad : Addr) (c l lo hi : Nat) (hc : l ≤ c) (hm : c ≤ maxLen) (h1 : lo ≤ hi) (h2 : hi ≤ l) :
    ∃ A' c', (A' = none → c' = 0) ∧ hi - lo ≤ c' ∧ c' ≤ maxLen ∧ (∀ w, (Instr.slice 26 (.slice (some ad) l c) (some (.int .i64 (lo : Int))) (some (.int .i64 (hi : Int))) none).run Try.prog w = .ok (.slice A' (hi - lo) c') w) ∧
      (∀ w B (x : List UInt8), x.length = l → Bs w B (some ad) x → Bs w B A' ((x.drop lo).take (hi - lo))) := by
  have hm' := hm
  unfold maxLen at hm
  have h3 : (hi : Int) ≤ (c : Int) := by omega
  have h4 : (lo : Int) ≤ (hi : Int) := by omega
  by_cases hz : c = lo
  · subst hz
    obtain rfl : hi = c := by omega
    refine ⟨some ad, 0, (fun h => by cases h), by omega, Nat.zero_le _, fun w => ?_, fun w B x hx h => ?_⟩
    · go_simp
    · rw [Nat.sub_self, List.take_zero]; exact Rd.nil _ _ _ _
  · refine ⟨some (ad.add lo), c - lo, (fun h => by cases h), by omega, by unfold maxLen; omega, fun w => ?_, fun w B x hx h => ?_⟩
    · go_simp
    · have := Rd.take (Rd.skip h (k := lo) (by omega)) (k := hi - lo) (by omega)
      rw [Nat.mul_one, ← bv_drop, ← bv_take] at this
      unfold Bs
      rw [List.length_take, List.length_drop, Nat.min_eq_left (by omega)]
      exact this
/-- what ten bytes or more are -/
def odec2 (v A H I n m : Nat) (p : (Nat × Bool) ⊕ Int) : (Nat × Nat × Nat × Bool) × Int × Int × List UInt8 :=
  if v ≠ 4 then ((0, 0, 0, false), 2, 1, [0, 4]) else if A = 0 then ((0, 0, 0, false), 2, 2, []) else if holdsB H = false then ((0, 0, 0, false), 2, 6, [])
  else if I = 0 then ((0, 0, 0, false), 2, 3, []) else if n ≠ m then ((0, 0, 0, false), 2, 0, []) else match p with
    | .inl s => ((s.1, H, I, s.2), 0, 0, [])
    | .inr e => ((0, 0, 0, false), 2, e, [])
theorem odec_long (l : List UInt8) (h : ¬ l.length < 10) : odec l = odec2 (num (l.take 1)) (num ((l.drop 1).take 2)) (num ((l.drop 3).take 2)) (num ((l.drop 5).take 4)) (num ((l.drop 9).take 1)) (l.drop 10).length (parAll (l.drop 10) (num ((l.drop 1).take 2), false)) := by
  unfold odec odec2; rw [if_neg h]; rfl

/-- what holds at the head of the loop over parameters -/
structure RJ (l : List UInt8) (H I An G : Nat) (wc : World) (k a : Nat) (f : Bool) (wr : World) : Prop where
  blk : Bk wr G 52 #[.int .u32 (a : Int), .int .i64 (H : Int), .int .u32 (I : Int), .bool f]
  bel : Below G wc wr
  par : parAll (l.drop 10) (An, false) = parAll (l.drop k) (a, f)
  al : a ≤ 4294967295
/-- what holds at the head of the loop over capabilities -/
structure RI (q : List UInt8) (H I G : Nat) (wc : World) (j : Nat) (s : Nat × Bool) (a : Nat) (f : Bool) (wr : World) : Prop where
  blk : Bk wr G 52 #[.int .u32 (a : Int), .int .i64 (H : Int), .int .u32 (I : Int), .bool f]
  bel : Below G wc wr
  cap : capAll q s = capAll (q.drop j) (a, f)
  al : a ≤ 4294967295

set_option maxRecDepth 100000 in
set_option maxHeartbeats 4000000 in
theorem refDecode_any (A : Option Addr) (c B : Nat) (l : List UInt8) (w : World) (hl : l.length ≤ 549755813888) (hcap : l.length ≤ c) (hcm : c ≤ maxLen) (hB : B ≤ w.heap.size) (hs : Bs w B A l) :
    Calls Try.prog 51 #[.slice A l.length c] w (OpenPost l w) := by
  obtain ⟨wa, hwa⟩ : ∃ wa, wa = (w.alloc (.cells #[.int .u32 0, .int .i64 0, .int .u32 0, .bool false] 52)).alloc (.cells #[.int .i64 0, .int .i64 0, .slice none 0 0] 55) := ⟨_, rfl⟩
  have hab : Below w.heap.size w wa := by rw [hwa]; exact ((Below.refl _ _).alloc (Nat.le_refl _) _).alloc (by simp) _
  have g0 : Bk wa w.heap.size 52 #[.int .u32 0, .int .i64 0, .int .u32 0, .bool false] := by rw [hwa]; exact (Bk.new w _ _).alloc _
  have g1 : Bk wa (w.heap.size + 1) 55 #[.int .i64 0, .int .i64 0, .slice none 0 0] := by
    rw [hwa]
    have := Bk.new (w.alloc (.cells #[.int .u32 0, .int .i64 0, .int .u32 0, .bool false] 52)) 55 #[.int .i64 0, .int .i64 0, .slice none 0 0]
    simpa using this
  have gz : wa.heap.size = w.heap.size + 2 := by rw [hwa]; simp
  have HB := Lib.hid hab
  have M0 := Lib.hid g0
  have M1 := Lib.hid g1
  have HS := Lib.hid hs
  have hz : w.heap.size + 2 ≤ wa.heap.size := by omega
  have Hgz := Lib.hid gz
  have HWA := Lib.hid hwa
  have Hcm := Lib.hid hcm
  clear hab g0 g1 gz hs hwa hcm
  by_cases h10 : l.length < 10
  · have HE : Hid (odec l = ((0, 0, 0, false), 2, 0, [])) := by rw [Hid, odec, if_pos h10]
    have d0 : decide ((l.length : Int) < 10) = true := by simp; omega
    go_enter Try.func51, Try.ntmps51
    go_wp2_with fail
    rw [← HWA.out]
    refine (no_any 0 _).mono ?_; rintro e w4 ⟨rfl, hb4⟩
    have M0 := Lib.hid (M0.out.below hb4 M0.out.lt)
    have M1 := Lib.hid (M1.out.below hb4 M1.out.lt)
    have HB4 := Lib.hid (HB.out.trans (hb4.mono HB.out.size))
    have hz4 : w.heap.size + 2 ≤ w4.heap.size := Nat.le_trans hz hb4.size
    have HW := Lib.hid (wr7_end M0.out M1.out (.int .u32 0) (.int .i64 0) (.int .u32 0) (.bool false) (.int .i64 2) (.int .i64 0) (.slice none 0 0))
    clear hb4
    have m0 := M0.out.cell 0
    have m1 := M0.out.cell 1
    have m2 := M0.out.cell 2
    have m3 := M0.out.cell 3
    have n0 := M1.out.cell 0
    have n1 := M1.out.cell 1
    have n2 := M1.out.cell 2
    have k0 := M0.out.free 0
    have k1 := M0.out.free 1
    have k2 := M0.out.free 2
    have k3 := M0.out.free 3
    have j0 := M1.out.free 0
    have j1 := M1.out.free 1
    have j2 := M1.out.free 2
    simp at m0 m1 m2 m3 n0 n1 n2
    go_wp2_with fail
    refine bodyPost_ret (results_cell_row2 rfl _ _ w.heap.size (w.heap.size + 1) 52 55 #[.int .u32 0, .int .i64 0, .int .u32 0, .bool false] #[.int .i64 2, .int .i64 0, .slice none 0 0] (0, 0) (0, 0) _ _ rfl HW.out.1 Try.underlying52 rfl info_open rfl HW.out.2.1 Try.underlying55 rfl info_notice) rfl ?_
    unfold OpenPost
    rw [HE.out]
    exact ⟨none, 0, rfl, fun _ => rfl, Rd.nil _ _ _ _, HB4.out.trans HW.out.2.2⟩
  · have hO := odec_long l h10
    have d0 : decide ((l.length : Int) < 10) = false := by simp; omega
    obtain ⟨b, off, e, hbB, _⟩ := HS.out.2 (by omega)
    subst e
    obtain ⟨A1, c1, _, _, _, r1, t1⟩ := cut_mid ⟨b, off, none⟩ c l.length 1 3 hcap Hcm.out (by omega) (by omega)
    obtain ⟨A2, c2, _, _, _, r2, t2⟩ := cut_mid ⟨b, off, none⟩ c l.length 3 5 hcap Hcm.out (by omega) (by omega)
    obtain ⟨A3, c3, _, _, _, r3, t3⟩ := cut_mid ⟨b, off, none⟩ c l.length 5 9 hcap Hcm.out (by omega) (by omega)
    simp only [show ((1 : Nat) : Int) = 1 from rfl, show ((3 : Nat) : Int) = 3 from rfl, show ((5 : Nat) : Int) = 5 from rfl, show ((9 : Nat) : Int) = 9 from rfl, Nat.reduceSub] at r1 r2 r3 t1 t2 t3
    have hn1 := fun w h => Num_any A1 c1 B ((l.drop 1).take 2) w (by simp; omega) (t1 w B l rfl h)
    have hn2 := fun w h => Num_any A2 c2 B ((l.drop 3).take 2) w (by simp; omega) (t2 w B l rfl h)
    have hn3 := fun w h => Num_any A3 c3 B ((l.drop 5).take 4) w (by simp; omega) (t3 w B l rfl h)
    have e1 : ((l.drop 1).take 2).length = 2 := by simp; omega
    have e2 : ((l.drop 3).take 2).length = 2 := by simp; omega
    have e3 : ((l.drop 5).take 4).length = 4 := by simp; omega
    have b1 := num_lt ((l.drop 1).take 2)
    have b2 := num_lt ((l.drop 3).take 2)
    have b3 := num_lt ((l.drop 5).take 4)
    rw [e1] at hn1 b1
    rw [e2] at hn2 b2
    rw [e3] at hn3 b3
    generalize num ((l.drop 1).take 2) = An at *
    generalize num ((l.drop 3).take 2) = H at *
    generalize num ((l.drop 5).take 4) = I at *
    have HN1 := Lib.hid hn1
    have HN2 := Lib.hid hn2
    have HN3 := Lib.hid hn3
    have HO := Lib.hid hO
    have ba : An ≤ 65535 := by omega
    have bh : H ≤ 65535 := by omega
    have bi : I ≤ 4294967295 := by omega
    clear hn1 hn2 hn3 hO e1 e2 e3 b1 b2 b3 t1 t2 t3
    go_enter Try.func51, Try.ntmps51
    go_upto_region 3 with fail
    rw [← HWA.out]
    have hwh : IntKind.i64.wrap (H : Int) = H := by show _ = _; exact IntWalk.i64_in _ (by omega)
    have hsa := HS.out.below (HB.out.mono hB) (Nat.le_refl _)
    have HSa := Lib.hid hsa
    have hBz : B ≤ wa.heap.size := Nat.le_trans hB HB.out.size
    clear hsa
    go_cut [4] (fun s4 wx => s4 = .pointer (some ⟨wa.heap.size, 0, none⟩) ∧ Bk wx wa.heap.size 52 #[.int .u32 (An : Int), .int .i64 (H : Int), .int .u32 (I : Int), .bool false] ∧ Below wa.heap.size wa wx)
    case first =>
      go_region_held3 (fun _ => True) (exact trivial) (first
        | (go_at_call_of 20 (Value.slice A1 2 c1); refine (HN1.out _ (by first | exact HSa.out | exact HSa.out.alloc hBz _)).mono ?_; rintro e w' ⟨rfl, rfl⟩)
        | (go_at_call_of 20 (Value.slice A2 2 c2); refine (HN2.out _ (by first | exact HSa.out | exact HSa.out.alloc hBz _)).mono ?_; rintro e w' ⟨rfl, rfl⟩)
        | (go_at_call_of 20 (Value.slice A3 4 c3); refine (HN3.out _ (by first | exact HSa.out | exact HSa.out.alloc hBz _)).mono ?_; rintro e w' ⟨rfl, rfl⟩))
      all_goals
        go_wp2_with fail
        go_meet
        exact ⟨rfl, Bk.new wa _ _, ((Below.refl wa.heap.size wa).alloc (Nat.le_refl _) _).drew⟩
    case rest =>
    obtain ⟨rfl, hk, hb⟩ := hcut
    have M0 := Lib.hid (M0.out.below hb M0.out.lt)
    have M1 := Lib.hid (M1.out.below hb M1.out.lt)
    have HB := Lib.hid (HB.out.trans (hb.mono HB.out.size))
    have M2 := Lib.hid hk
    have HS := Lib.hid (HSa.out.below (hb.mono hBz) (Nat.le_refl _))
    have hz2 : wa.heap.size < wc.heap.size := hk.lt
    have hz : w.heap.size + 2 ≤ wc.heap.size := by omega
    clear hk hb HSa
    clear hwh
    obtain ⟨x0, hx0⟩ : ∃ x, l[0]? = some x := ⟨l[0], List.getElem?_eq_getElem (by omega)⟩
    obtain ⟨x9, hx9⟩ : ∃ x, l[9]? = some x := ⟨l[9], List.getElem?_eq_getElem (by omega)⟩
    have y0 : wc.cell? ⟨b, off, none⟩ = some (.int .u8 (x0.toNat : Int)) := by simpa using bs_cell HS.out hx0
    have y9 : wc.cell? ⟨b, off + 9, none⟩ = some (.int .u8 (x9.toNat : Int)) := bs_cell HS.out hx9
    have ev : num (l.take 1) = x0.toNat := by
      have : l.take 1 = [x0] := by
        match l, hx0 with
        | z :: _, h => simp at h; subst h; rfl
      rw [this, num_one]
    have e9 : num ((l.drop 9).take 1) = x9.toNat := by
      have h9 : (l.drop 9)[0]? = some x9 := by rw [List.getElem?_drop]; exact hx9
      have : (l.drop 9).take 1 = [x9] := by
        match l.drop 9, h9 with
        | z :: _, h => simp at h; subst h; rfl
      rw [this, num_one]
    have hm : (l.drop 10).length = l.length - 10 := by simp
    have HO2 : Hid (odec l = odec2 x0.toNat An H I x9.toNat (l.length - 10) (parAll (l.drop 10) (An, false))) := by rw [Hid, HO.out, ev, e9, hm]
    have hx0l := x0.toNat_lt
    have hx9l := x9.toNat_lt
    generalize x0.toNat = v at *
    generalize x9.toNat = n at *
    have z0 := M2.out.cell 0
    have z1 := M2.out.cell 1
    have z2 := M2.out.cell 2
    have z3 := M2.out.cell 3
    simp at z0 z1 z2 z3
    clear ev e9 hm hx0 hx9 HO
    by_cases hv : v = 4
    · by_cases hA : An = 0
      · have d1 : ((v : Int) != 4) = false := by simp; omega
        have d2 : ((An : Int) == 0) = true := by simp; omega
        have HE : Hid (odec l = ((0, 0, 0, false), 2, 2, [])) := by rw [Hid, HO2.out]; unfold odec2; rw [if_neg (by simpa using hv), if_pos hA]
        clear hv hA
        go_wp2_with fail
        refine (no_any 2 _).mono ?_; rintro e w4 ⟨rfl, hb4⟩
        have M0 := Lib.hid (M0.out.below hb4 M0.out.lt)
        have M1 := Lib.hid (M1.out.below hb4 M1.out.lt)
        have HB4 := Lib.hid (HB.out.trans (hb4.mono HB.out.size))
        have hz4 : w.heap.size + 2 ≤ w4.heap.size := Nat.le_trans hz hb4.size
        have HW := Lib.hid (wr7_end M0.out M1.out (.int .u32 0) (.int .i64 0) (.int .u32 0) (.bool false) (.int .i64 2) (.int .i64 2) (.slice none 0 0))
        clear hb4
        have m0 := M0.out.cell 0
        have m1 := M0.out.cell 1
        have m2 := M0.out.cell 2
        have m3 := M0.out.cell 3
        have n0 := M1.out.cell 0
        have n1 := M1.out.cell 1
        have n2 := M1.out.cell 2
        have k0 := M0.out.free 0
        have k1 := M0.out.free 1
        have k2 := M0.out.free 2
        have k3 := M0.out.free 3
        have j0 := M1.out.free 0
        have j1 := M1.out.free 1
        have j2 := M1.out.free 2
        simp at m0 m1 m2 m3 n0 n1 n2
        go_wp2_with fail
        refine bodyPost_ret (results_cell_row2 rfl _ _ w.heap.size (w.heap.size + 1) 52 55 #[.int .u32 0, .int .i64 0, .int .u32 0, .bool false] #[.int .i64 2, .int .i64 2, .slice none 0 0] (0, 0) (0, 0) _ _ rfl HW.out.1 Try.underlying52 rfl info_open rfl HW.out.2.1 Try.underlying55 rfl info_notice) rfl ?_
        unfold OpenPost
        rw [HE.out]
        exact ⟨none, 0, rfl, fun _ => rfl, Rd.nil _ _ _ _, HB4.out.trans HW.out.2.2⟩
      · by_cases hH : holdsB (H : Int) = false
        · have d1 : ((v : Int) != 4) = false := by simp; omega
          have d2 : ((An : Int) == 0) = false := by simp; omega
          have HE : Hid (odec l = ((0, 0, 0, false), 2, 6, [])) := by rw [Hid, HO2.out]; unfold odec2; rw [if_neg (by simpa using hv), if_neg hA, if_pos hH]
          have hh := rholds_any (H : Int)
          rw [hH] at hh
          have HH := Lib.hid hh
          clear hv hA hH hh
          go_wp2_with fail
          refine (HH.out _).mono ?_; rintro e w' ⟨rfl, rfl⟩
          go_wp2_with fail
          refine (no_any 6 _).mono ?_; rintro e w4 ⟨rfl, hb4⟩
          have M0 := Lib.hid (M0.out.below hb4 M0.out.lt)
          have M1 := Lib.hid (M1.out.below hb4 M1.out.lt)
          have HB4 := Lib.hid (HB.out.trans (hb4.mono HB.out.size))
          have hz4 : w.heap.size + 2 ≤ w4.heap.size := Nat.le_trans hz hb4.size
          have HW := Lib.hid (wr7_end M0.out M1.out (.int .u32 0) (.int .i64 0) (.int .u32 0) (.bool false) (.int .i64 2) (.int .i64 6) (.slice none 0 0))
          clear hb4
          have m0 := M0.out.cell 0
          have m1 := M0.out.cell 1
          have m2 := M0.out.cell 2
          have m3 := M0.out.cell 3
          have n0 := M1.out.cell 0
          have n1 := M1.out.cell 1
          have n2 := M1.out.cell 2
          have k0 := M0.out.free 0
          have k1 := M0.out.free 1
          have k2 := M0.out.free 2
          have k3 := M0.out.free 3
          have j0 := M1.out.free 0
          have j1 := M1.out.free 1
          have j2 := M1.out.free 2
          simp at m0 m1 m2 m3 n0 n1 n2
          go_wp2_with fail
          refine bodyPost_ret (results_cell_row2 rfl _ _ w.heap.size (w.heap.size + 1) 52 55 #[.int .u32 0, .int .i64 0, .int .u32 0, .bool false] #[.int .i64 2, .int .i64 6, .slice none 0 0] (0, 0) (0, 0) _ _ rfl HW.out.1 Try.underlying52 rfl info_open rfl HW.out.2.1 Try.underlying55 rfl info_notice) rfl ?_
          unfold OpenPost
          rw [HE.out]
          exact ⟨none, 0, rfl, fun _ => rfl, Rd.nil _ _ _ _, HB4.out.trans HW.out.2.2⟩
        · have hH' : holdsB (H : Int) = true := by simpa using hH
          have hh := rholds_any (H : Int)
          rw [hH'] at hh
          have HH := Lib.hid hh
          by_cases hI : I = 0
          · have d1 : ((v : Int) != 4) = false := by simp; omega
            have d2 : ((An : Int) == 0) = false := by simp; omega
            have d3 : ((I : Int) == 0) = true := by simp; omega
            have HE : Hid (odec l = ((0, 0, 0, false), 2, 3, [])) := by rw [Hid, HO2.out]; unfold odec2; rw [if_neg (by simpa using hv), if_neg hA, if_neg hH, if_pos hI]
            clear hv hA hH hh hI hH'
            go_wp2_with fail
            refine (HH.out _).mono ?_; rintro e w' ⟨rfl, rfl⟩
            go_wp2_with fail
            refine (no_any 3 _).mono ?_; rintro e w4 ⟨rfl, hb4⟩
            have M0 := Lib.hid (M0.out.below hb4 M0.out.lt)
            have M1 := Lib.hid (M1.out.below hb4 M1.out.lt)
            have HB4 := Lib.hid (HB.out.trans (hb4.mono HB.out.size))
            have hz4 : w.heap.size + 2 ≤ w4.heap.size := Nat.le_trans hz hb4.size
            have HW := Lib.hid (wr7_end M0.out M1.out (.int .u32 0) (.int .i64 0) (.int .u32 0) (.bool false) (.int .i64 2) (.int .i64 3) (.slice none 0 0))
            clear hb4
            have m0 := M0.out.cell 0
            have m1 := M0.out.cell 1
            have m2 := M0.out.cell 2
            have m3 := M0.out.cell 3
            have n0 := M1.out.cell 0
            have n1 := M1.out.cell 1
            have n2 := M1.out.cell 2
            have k0 := M0.out.free 0
            have k1 := M0.out.free 1
            have k2 := M0.out.free 2
            have k3 := M0.out.free 3
            have j0 := M1.out.free 0
            have j1 := M1.out.free 1
            have j2 := M1.out.free 2
            simp at m0 m1 m2 m3 n0 n1 n2
            go_wp2_with fail
            refine bodyPost_ret (results_cell_row2 rfl _ _ w.heap.size (w.heap.size + 1) 52 55 #[.int .u32 0, .int .i64 0, .int .u32 0, .bool false] #[.int .i64 2, .int .i64 3, .slice none 0 0] (0, 0) (0, 0) _ _ rfl HW.out.1 Try.underlying52 rfl info_open rfl HW.out.2.1 Try.underlying55 rfl info_notice) rfl ?_
            unfold OpenPost
            rw [HE.out]
            exact ⟨none, 0, rfl, fun _ => rfl, Rd.nil _ _ _ _, HB4.out.trans HW.out.2.2⟩
          · have d1 : ((v : Int) != 4) = false := by simp; omega
            have d2 : ((An : Int) == 0) = false := by simp; omega
            have d3 : ((I : Int) == 0) = false := by simp; omega
            by_cases hn : n = l.length - 10
            · have d4 : ((n : Int) != (l.length : Int) - 10) = false := by simp; omega
              have HP : Hid (odec l = (match parAll (l.drop 10) (An, false) with | .inl s => ((s.1, H, I, s.2), 0, 0, []) | .inr e => ((0, 0, 0, false), 2, e, []))) := by rw [Hid, HO2.out]; unfold odec2; rw [if_neg (by simpa using hv), if_neg hA, if_neg hH, if_neg hI, if_neg (by simpa using hn)]
              clear hv hA hH hh hI hH' hn HO2
              go_wp2_with fail
              refine (HH.out _).mono ?_; rintro e w' ⟨rfl, rfl⟩
              go_wp2_with fail
              have hge : w.heap.size + 2 ≤ wa.heap.size := by have := Hgz.out; omega
              have HJ0 : Hid (RJ l H I An wa.heap.size wc 10 An false wc) := ⟨M2.out, Below.refl _ _, rfl, by omega⟩
              have HSc := Lib.hid HS.out
              clear z0 z1 z2 z3 y0 y9
              go_loopw [5, 6, 7, 8] (fun s5 _ _ _ wr => ∃ (k a : Nat) (f : Bool), s5 = .int .i64 (k : Int) ∧ k ≤ l.length ∧ RJ l H I An wa.heap.size wc k a f wr) (fun s5 _ _ _ _ => l.length - (intOf s5).toNat)
              case atStart => exact ⟨10, An, false, rfl, by omega, HJ0.out⟩
              case round =>
                obtain ⟨k, a, f, rfl, hk, hJ⟩ := hrel
                have HJ := Lib.hid hJ
                have hal := hJ.al
                obtain ⟨wo, rfl⟩ : ∃ wo : World, wo = wr := ⟨_, rfl⟩
                have HS := Lib.hid (HS.out.below (hJ.bel.mono hBz) (Nat.le_refl _))
                clear hJ HJ0
                by_cases hlt : k < l.length
                · have hki : (k : Int) < (l.length : Int) := by omega
                  obtain ⟨x, hx⟩ : ∃ x, l[k]? = some x := ⟨l[k], List.getElem?_eq_getElem hlt⟩
                  have y0 := bs_cell HS.out hx
                  have hdr : l.drop k = x :: l.drop (k + 1) := by
                    rw [List.drop_eq_getElem_cons hlt]
                    rw [List.getElem?_eq_getElem hlt] at hx
                    injection hx with hx
                    rw [hx]
                  have Hdr := Lib.hid hdr
                  clear hdr hx
                  by_cases hlt1 : k + 1 < l.length
                  · obtain ⟨n, hn⟩ : ∃ x, l[k + 1]? = some x := ⟨l[k + 1], List.getElem?_eq_getElem hlt1⟩
                    have y1 := bs_cell HS.out hn
                    have hdr2 : l.drop (k + 1) = n :: l.drop (k + 2) := by
                      rw [List.drop_eq_getElem_cons hlt1]
                      rw [List.getElem?_eq_getElem hlt1] at hn
                      injection hn with hn
                      rw [hn]
                    have htl : (l.drop (k + 2)).length = l.length - (k + 2) := by simp
                    have HPar : Hid (parAll (l.drop 10) (An, false) = parAll (x :: n :: l.drop (k + 2)) (a, f)) := by rw [Hid, HJ.out.par, Hdr.out, hdr2]
                    have d1 : decide ((l.length : Int) < (k : Int) + 2) = false := by simp; omega
                    have hki1 : (k : Int) + 1 < (l.length : Int) := by omega
                    have hxl := x.toNat_lt
                    have hnl := n.toNat_lt
                    clear hdr2 hn Hdr
                    by_cases hnt : n.toNat ≤ (l.drop (k + 2)).length
                    · have d2 : decide ((l.length : Int) < (k : Int) + 2 + (n.toNat : Int)) = false := by simp; omega
                      by_cases hx2 : x.toNat = 2
                      · have d3 : ((x.toNat : Int) != 2) = false := by simp; omega
                        obtain ⟨P, cP, _, hPc, hPm, hrun, hPB⟩ := cut_mid ⟨b, off, none⟩ c l.length (k + 2) (k + 2 + n.toNat) hcap Hcm.out (by omega) (by omega)
                        rw [Nat.add_sub_cancel_left] at hPc hrun hPB
                        simp only [Int.natCast_add, show ((2 : Nat) : Int) = 2 from rfl] at hrun
                        have hPB' : ∀ w B, Bs w B (some ⟨b, off, none⟩) l → Bs w B P ((l.drop (k + 2)).take n.toNat) := fun w B h => hPB w B l rfl h
                        have HPB := Lib.hid hPB'
                        have hpl : ((l.drop (k + 2)).take n.toNat).length = n.toNat := by rw [List.length_take]; exact Nat.min_eq_left hnt
                        have Hpl := Lib.hid hpl
                        have HPn : Hid (∀ s', capAll ((l.drop (k + 2)).take n.toNat) (a, f) = some s' → parAll (l.drop 10) (An, false) = parAll (l.drop (k + 2 + n.toNat)) s') := by
                          intro s' h
                          rw [HPar.out, parAll_next x n _ _ s' hnt hx2 h, List.drop_drop]
                        have HPc : Hid (capAll ((l.drop (k + 2)).take n.toNat) (a, f) = none → parAll (l.drop 10) (An, false) = .inr 0) := by
                          intro h
                          rw [HPar.out, parAll_cap x n _ _ hnt hx2 h]
                        have hkn : k + 2 + n.toNat ≤ l.length := by omega
                        have Hpm := Lib.hid hPm
                        clear hPB hPB' hpl hx2 hnt htl hPm
                        obtain ⟨q, hq⟩ : ∃ q, (l.drop (k + 2)).take n.toNat = q := ⟨_, rfl⟩
                        rw [hq] at HPB Hpl HPn HPc
                        generalize n.toNat = nn at *
                        generalize x.toNat = xx at *
                        clear hq
                        go_wp2_with fail
                        have HI0 : Hid (RI q H I wa.heap.size wc 0 (a, f) a f wo) := ⟨HJ.out.blk, HJ.out.bel, by simp, HJ.out.al⟩
                        go_loopw [7, 8] (fun s7 _ wi => ∃ (j a' : Nat) (f' : Bool), s7 = .int .i64 (j : Int) ∧ j ≤ nn ∧ RI q H I wa.heap.size wc j (a, f) a' f' wi) (fun s7 _ _ => nn - (intOf s7).toNat)
                        case atStart => exact ⟨0, a, f, rfl, by omega, HI0.out⟩
                        case round =>
                          obtain ⟨j, a', f', rfl, hj, hI⟩ := hrel
                          have HI := Lib.hid hI
                          clear hI HI0 y0 y1 hrun
                          obtain ⟨wi, rfl⟩ : ∃ wi : World, wi = wr := ⟨_, rfl⟩
                          have HS := Lib.hid (HPB.out _ _ (HSc.out.below (HI.out.bel.mono hBz) (Nat.le_refl _)))
                          by_cases hjn : j < nn
                          · obtain ⟨b', off', eP, hbP, _⟩ := HS.out.2 (by rw [Hpl.out]; omega)
                            subst eP
                            have hji : (j : Int) < (nn : Int) := by omega
                            obtain ⟨y, hy⟩ : ∃ x, q[j]? = some x := ⟨q[j]'(by rw [Hpl.out]; exact hjn), List.getElem?_eq_getElem _⟩
                            have y0 := bs_cell HS.out hy
                            have hdr : q.drop j = y :: q.drop (j + 1) := by
                              obtain ⟨hl0, hl1⟩ := List.getElem?_eq_some_iff.1 hy
                              rw [List.drop_eq_getElem_cons hl0, hl1]
                            have Hdr := Lib.hid hdr
                            have hyl := y.toNat_lt
                            clear hdr hy
                            by_cases hjn1 : j + 1 < nn
                            · obtain ⟨m, hm⟩ : ∃ x, q[j + 1]? = some x := ⟨q[j + 1]'(by rw [Hpl.out]; exact hjn1), List.getElem?_eq_getElem _⟩
                              have y1 := bs_cell HS.out hm
                              have hdr2 : q.drop (j + 1) = m :: q.drop (j + 2) := by
                                obtain ⟨hl0, hl1⟩ := List.getElem?_eq_some_iff.1 hm
                                rw [List.drop_eq_getElem_cons hl0, hl1]
                              have htl : (q.drop (j + 2)).length = nn - (j + 2) := by rw [List.length_drop, Hpl.out]
                              have HCap : Hid (capAll q (a, f) = capAll (y :: m :: q.drop (j + 2)) (a', f')) := by rw [Hid, HI.out.cap, Hdr.out, hdr2]
                              have d1' : decide ((nn : Int) < (j : Int) + 2) = false := by simp; omega
                              have hji1 : (j : Int) + 1 < (nn : Int) := by omega
                              have hml := m.toNat_lt
                              clear hdr2 hm Hdr
                              by_cases hmt : m.toNat ≤ (q.drop (j + 2)).length
                              · have d2' : decide ((nn : Int) < (j : Int) + 2 + (m.toNat : Int)) = false := by simp; omega
                                obtain ⟨C, cC, _, hCc, _, hrun, hCB⟩ := cut_mid ⟨b', off', none⟩ cP nn (j + 2) (j + 2 + m.toNat) (by omega) Hpm.out (by omega) (by omega)
                                rw [Nat.add_sub_cancel_left] at hCc hrun hCB
                                simp only [Int.natCast_add, show ((2 : Nat) : Int) = 2 from rfl] at hrun
                                have hcl : ((q.drop (j + 2)).take m.toNat).length = m.toNat := by rw [List.length_take]; exact Nat.min_eq_left hmt
                                have hjm : j + 2 + m.toNat ≤ nn := by omega
                                by_cases hy65 : y.toNat = 65
                                · have d3' : ((y.toNat : Int) == 65) = true := by simp; omega
                                  by_cases hm4 : m.toNat = 4
                                  · have d4' : ((m.toNat : Int) != 4) = false := by simp; omega
                                    have hnum := Num_any C cC B ((q.drop (j + 2)).take m.toNat) wi (by rw [hcl]; omega) (hCB wi B q Hpl.out HS.out)
                                    rw [hcl] at hnum
                                    have hNl : num ((q.drop (j + 2)).take m.toNat) ≤ 4294967295 := by
                                      have h := num_lt ((q.drop (j + 2)).take m.toNat)
                                      have h4 : 256 ^ m.toNat = 4294967296 := by rw [hm4]
                                      rw [hcl, h4] at h
                                      omega
                                    by_cases hN0 : num ((q.drop (j + 2)).take m.toNat) = 0
                                    · have hE := HPc.out (by rw [HCap.out, capAll_bad y m _ _ hmt hy65 (fun h => h.2 hN0)])
                                      have HE : Hid (odec l = ((0, 0, 0, false), 2, 0, [])) := by rw [Hid, HP.out, hE]
                                      rw [hN0] at hnum
                                      have HNum := Lib.hid hnum
                                      have d5' : (((0 : Nat) : Int) == 0) = true := rfl
                                      have M0 := Lib.hid (M0.out.below HI.out.bel (by omega))
                                      have M1 := Lib.hid (M1.out.below HI.out.bel (by omega))
                                      have HB := Lib.hid (HB.out.trans (HI.out.bel.mono (by omega)))
                                      have hz : w.heap.size + 2 ≤ wi.heap.size := Nat.le_trans hz HI.out.bel.size
                                      clear hE hnum hNl hN0 hm4 hy65 hmt hCB htl hcl
                                      generalize m.toNat = mm at *
                                      generalize y.toNat = yy at *
                                      go_wp2_with fail
                                      refine HNum.out.mono ?_; rintro e w' ⟨rfl, rfl⟩
                                      go_wp2_with fail
                                      refine (no_any 0 _).mono ?_; rintro e w4 ⟨rfl, hb4⟩
                                      have M0 := Lib.hid (M0.out.below hb4 M0.out.lt)
                                      have M1 := Lib.hid (M1.out.below hb4 M1.out.lt)
                                      have HB4 := Lib.hid (HB.out.trans (hb4.mono HB.out.size))
                                      have hz4 : w.heap.size + 2 ≤ w4.heap.size := Nat.le_trans hz hb4.size
                                      have HW := Lib.hid (wr7_end M0.out M1.out (.int .u32 0) (.int .i64 0) (.int .u32 0) (.bool false) (.int .i64 2) (.int .i64 0) (.slice none 0 0))
                                      clear hb4
                                      have m0 := M0.out.cell 0
                                      have m1 := M0.out.cell 1
                                      have m2 := M0.out.cell 2
                                      have m3 := M0.out.cell 3
                                      have n0 := M1.out.cell 0
                                      have n1 := M1.out.cell 1
                                      have n2 := M1.out.cell 2
                                      have k0 := M0.out.free 0
                                      have k1 := M0.out.free 1
                                      have k2 := M0.out.free 2
                                      have k3 := M0.out.free 3
                                      have j0 := M1.out.free 0
                                      have j1 := M1.out.free 1
                                      have j2 := M1.out.free 2
                                      simp at m0 m1 m2 m3 n0 n1 n2
                                      go_wp2_with fail
                                      refine bodyPost_ret (results_cell_row2 rfl _ _ w.heap.size (w.heap.size + 1) 52 55 #[.int .u32 0, .int .i64 0, .int .u32 0, .bool false] #[.int .i64 2, .int .i64 0, .slice none 0 0] (0, 0) (0, 0) _ _ rfl HW.out.1 Try.underlying52 rfl info_open rfl HW.out.2.1 Try.underlying55 rfl info_notice) rfl ?_
                                      unfold OpenPost
                                      rw [HE.out]
                                      exact ⟨none, 0, rfl, fun _ => rfl, Rd.nil _ _ _ _, HB4.out.trans HW.out.2.2⟩
                                    · have hgo := capAll_four y m (q.drop (j + 2)) (a', f') hmt hy65 hm4 hN0
                                      rw [List.drop_drop] at hgo
                                      generalize num ((q.drop (j + 2)).take m.toNat) = N at *
                                      have d5' : ((N : Int) == 0) = false := by simp; omega
                                      have z0 := HI.out.blk.cell 0
                                      have z3 := HI.out.blk.cell 3
                                      have x0' := HI.out.blk.free 0
                                      have x3' := HI.out.blk.free 3
                                      simp at z0 z3
                                      have hIl := HI.out.blk.lt
                                      have hI9 : RI q H I wa.heap.size wc (j + 2 + m.toNat) (a, f) N true ((wi.setCell ⟨wa.heap.size, 0, none⟩ (.int .u32 (N : Int))).setCell ⟨wa.heap.size, 3, none⟩ (.bool true)) := by
                                        refine ⟨?_, (HI.out.bel.setCell (p := ⟨wa.heap.size, 0, none⟩) (Nat.le_refl _) _).setCell (p := ⟨wa.heap.size, 3, none⟩) (Nat.le_refl _) _, by rw [HCap.out, hgo], by omega⟩
                                        have := (HI.out.blk.put 0 (.int .u32 (N : Int))).put 3 (.bool true)
                                        simpa using this
                                      have HI9 := Lib.hid hI9
                                      have HNum := Lib.hid hnum
                                      clear hI9 hgo hnum hm4 hy65 hmt hCB htl hcl hN0
                                      generalize m.toNat = mm at *
                                      generalize y.toNat = yy at *
                                      go_wp2_with fail
                                      refine HNum.out.mono ?_; rintro e w' ⟨rfl, rfl⟩
                                      go_wp2_with fail
                                      refine HNum.out.mono ?_; rintro e w' ⟨rfl, rfl⟩
                                      go_wp2_with fail
                                      go_roundw
                                      case rel => exact ⟨j + 2 + mm, N, true, by congr 1, hjm, HI9.out⟩
                                      case measure => simp [intOf]; omega
                                  · have d4' : ((m.toNat : Int) != 4) = true := by rw [bne_iff_ne]; omega
                                    have hE := HPc.out (by rw [HCap.out, capAll_bad y m _ _ hmt hy65 (fun h => hm4 h.1)])
                                    have HE : Hid (odec l = ((0, 0, 0, false), 2, 0, [])) := by rw [Hid, HP.out, hE]
                                    have M0 := Lib.hid (M0.out.below HI.out.bel (by omega))
                                    have M1 := Lib.hid (M1.out.below HI.out.bel (by omega))
                                    have HB := Lib.hid (HB.out.trans (HI.out.bel.mono (by omega)))
                                    have hz : w.heap.size + 2 ≤ wi.heap.size := Nat.le_trans hz HI.out.bel.size
                                    clear hE hm4 hy65 hmt hCB htl hcl
                                    generalize m.toNat = mm at *
                                    generalize y.toNat = yy at *
                                    go_wp2_with fail
                                    refine (no_any 0 _).mono ?_; rintro e w4 ⟨rfl, hb4⟩
                                    have M0 := Lib.hid (M0.out.below hb4 M0.out.lt)
                                    have M1 := Lib.hid (M1.out.below hb4 M1.out.lt)
                                    have HB4 := Lib.hid (HB.out.trans (hb4.mono HB.out.size))
                                    have hz4 : w.heap.size + 2 ≤ w4.heap.size := Nat.le_trans hz hb4.size
                                    have HW := Lib.hid (wr7_end M0.out M1.out (.int .u32 0) (.int .i64 0) (.int .u32 0) (.bool false) (.int .i64 2) (.int .i64 0) (.slice none 0 0))
                                    clear hb4
                                    have m0 := M0.out.cell 0
                                    have m1 := M0.out.cell 1
                                    have m2 := M0.out.cell 2
                                    have m3 := M0.out.cell 3
                                    have n0 := M1.out.cell 0
                                    have n1 := M1.out.cell 1
                                    have n2 := M1.out.cell 2
                                    have k0 := M0.out.free 0
                                    have k1 := M0.out.free 1
                                    have k2 := M0.out.free 2
                                    have k3 := M0.out.free 3
                                    have j0 := M1.out.free 0
                                    have j1 := M1.out.free 1
                                    have j2 := M1.out.free 2
                                    simp at m0 m1 m2 m3 n0 n1 n2
                                    go_wp2_with fail
                                    refine bodyPost_ret (results_cell_row2 rfl _ _ w.heap.size (w.heap.size + 1) 52 55 #[.int .u32 0, .int .i64 0, .int .u32 0, .bool false] #[.int .i64 2, .int .i64 0, .slice none 0 0] (0, 0) (0, 0) _ _ rfl HW.out.1 Try.underlying52 rfl info_open rfl HW.out.2.1 Try.underlying55 rfl info_notice) rfl ?_
                                    unfold OpenPost
                                    rw [HE.out]
                                    exact ⟨none, 0, rfl, fun _ => rfl, Rd.nil _ _ _ _, HB4.out.trans HW.out.2.2⟩
                                · have d3' : ((y.toNat : Int) == 65) = false := by simp; omega
                                  have hI9 : RI q H I wa.heap.size wc (j + 2 + m.toNat) (a, f) a' f' wi := ⟨HI.out.blk, HI.out.bel, by rw [HCap.out, capAll_skip y m _ _ hmt hy65, List.drop_drop], HI.out.al⟩
                                  have HI9 := Lib.hid hI9
                                  clear hI9 hy65 hmt hCB htl hcl
                                  generalize m.toNat = mm at *
                                  generalize y.toNat = yy at *
                                  go_wp2_with fail
                                  go_roundw
                                  case rel => exact ⟨j + 2 + mm, a', f', by congr 1, hjm, HI9.out⟩
                                  case measure => simp [intOf]; omega
                              · have d2' : decide ((nn : Int) < (j : Int) + 2 + (m.toNat : Int)) = true := by simp; omega
                                have hE := HPc.out (by rw [HCap.out, capAll_short y m _ _ (by omega)])
                                have HE : Hid (odec l = ((0, 0, 0, false), 2, 0, [])) := by rw [Hid, HP.out, hE]
                                have M0 := Lib.hid (M0.out.below HI.out.bel (by omega))
                                have M1 := Lib.hid (M1.out.below HI.out.bel (by omega))
                                have HB := Lib.hid (HB.out.trans (HI.out.bel.mono (by omega)))
                                have hz : w.heap.size + 2 ≤ wi.heap.size := Nat.le_trans hz HI.out.bel.size
                                clear hE hmt htl
                                go_wp2_with fail
                                refine (no_any 0 _).mono ?_; rintro e w4 ⟨rfl, hb4⟩
                                have M0 := Lib.hid (M0.out.below hb4 M0.out.lt)
                                have M1 := Lib.hid (M1.out.below hb4 M1.out.lt)
                                have HB4 := Lib.hid (HB.out.trans (hb4.mono HB.out.size))
                                have hz4 : w.heap.size + 2 ≤ w4.heap.size := Nat.le_trans hz hb4.size
                                have HW := Lib.hid (wr7_end M0.out M1.out (.int .u32 0) (.int .i64 0) (.int .u32 0) (.bool false) (.int .i64 2) (.int .i64 0) (.slice none 0 0))
                                clear hb4
                                have m0 := M0.out.cell 0
                                have m1 := M0.out.cell 1
                                have m2 := M0.out.cell 2
                                have m3 := M0.out.cell 3
                                have n0 := M1.out.cell 0
                                have n1 := M1.out.cell 1
                                have n2 := M1.out.cell 2
                                have k0 := M0.out.free 0
                                have k1 := M0.out.free 1
                                have k2 := M0.out.free 2
                                have k3 := M0.out.free 3
                                have j0 := M1.out.free 0
                                have j1 := M1.out.free 1
                                have j2 := M1.out.free 2
                                simp at m0 m1 m2 m3 n0 n1 n2
                                go_wp2_with fail
                                refine bodyPost_ret (results_cell_row2 rfl _ _ w.heap.size (w.heap.size + 1) 52 55 #[.int .u32 0, .int .i64 0, .int .u32 0, .bool false] #[.int .i64 2, .int .i64 0, .slice none 0 0] (0, 0) (0, 0) _ _ rfl HW.out.1 Try.underlying52 rfl info_open rfl HW.out.2.1 Try.underlying55 rfl info_notice) rfl ?_
                                unfold OpenPost
                                rw [HE.out]
                                exact ⟨none, 0, rfl, fun _ => rfl, Rd.nil _ _ _ _, HB4.out.trans HW.out.2.2⟩
                            · have d1' : decide ((nn : Int) < (j : Int) + 2) = true := by simp; omega
                              have hE := HPc.out (by
                                have e : q.drop (j + 1) = [] := List.drop_of_length_le (by rw [Hpl.out]; omega)
                                rw [HI.out.cap, Hdr.out, e, capAll_one])
                              have HE : Hid (odec l = ((0, 0, 0, false), 2, 0, [])) := by rw [Hid, HP.out, hE]
                              have M0 := Lib.hid (M0.out.below HI.out.bel (by omega))
                              have M1 := Lib.hid (M1.out.below HI.out.bel (by omega))
                              have HB := Lib.hid (HB.out.trans (HI.out.bel.mono (by omega)))
                              have hz : w.heap.size + 2 ≤ wi.heap.size := Nat.le_trans hz HI.out.bel.size
                              clear hE
                              go_wp2_with fail
                              refine (no_any 0 _).mono ?_; rintro e w4 ⟨rfl, hb4⟩
                              have M0 := Lib.hid (M0.out.below hb4 M0.out.lt)
                              have M1 := Lib.hid (M1.out.below hb4 M1.out.lt)
                              have HB4 := Lib.hid (HB.out.trans (hb4.mono HB.out.size))
                              have hz4 : w.heap.size + 2 ≤ w4.heap.size := Nat.le_trans hz hb4.size
                              have HW := Lib.hid (wr7_end M0.out M1.out (.int .u32 0) (.int .i64 0) (.int .u32 0) (.bool false) (.int .i64 2) (.int .i64 0) (.slice none 0 0))
                              clear hb4
                              have m0 := M0.out.cell 0
                              have m1 := M0.out.cell 1
                              have m2 := M0.out.cell 2
                              have m3 := M0.out.cell 3
                              have n0 := M1.out.cell 0
                              have n1 := M1.out.cell 1
                              have n2 := M1.out.cell 2
                              have k0 := M0.out.free 0
                              have k1 := M0.out.free 1
                              have k2 := M0.out.free 2
                              have k3 := M0.out.free 3
                              have j0 := M1.out.free 0
                              have j1 := M1.out.free 1
                              have j2 := M1.out.free 2
                              simp at m0 m1 m2 m3 n0 n1 n2
                              go_wp2_with fail
                              refine bodyPost_ret (results_cell_row2 rfl _ _ w.heap.size (w.heap.size + 1) 52 55 #[.int .u32 0, .int .i64 0, .int .u32 0, .bool false] #[.int .i64 2, .int .i64 0, .slice none 0 0] (0, 0) (0, 0) _ _ rfl HW.out.1 Try.underlying52 rfl info_open rfl HW.out.2.1 Try.underlying55 rfl info_notice) rfl ?_
                              unfold OpenPost
                              rw [HE.out]
                              exact ⟨none, 0, rfl, fun _ => rfl, Rd.nil _ _ _ _, HB4.out.trans HW.out.2.2⟩
                          · obtain rfl : j = nn := by omega
                            have hE := HPn.out (a', f') (by rw [HI.out.cap, List.drop_of_length_le (by rw [Hpl.out]; exact Nat.le_refl _), capAll_nil])
                            have HJ9 : Hid (RJ l H I An wa.heap.size wc (k + 2 + j) a' f' wi) := ⟨HI.out.blk, HI.out.bel, hE, HI.out.al⟩
                            have d0 : decide ((j : Int) < (j : Int)) = false := by simp
                            clear hE
                            go_wp2_with fail
                            go_roundw
                            case rel => exact ⟨k + 2 + j, a', f', by congr 1, hkn, HJ9.out⟩
                            case measure => simp [intOf]; omega
                      · have d3 : ((x.toNat : Int) != 2) = true := by rw [bne_iff_ne]; omega
                        have HE : Hid (odec l = ((0, 0, 0, false), 2, 4, [])) := by rw [Hid, HP.out, HPar.out, parAll_kind x n _ _ hnt hx2]
                        have M0 := Lib.hid (M0.out.below HJ.out.bel (by omega))
                        have M1 := Lib.hid (M1.out.below HJ.out.bel (by omega))
                        have HB := Lib.hid (HB.out.trans (HJ.out.bel.mono (by omega)))
                        have hz : w.heap.size + 2 ≤ wo.heap.size := Nat.le_trans hz HJ.out.bel.size
                        clear hx2 hnt htl
                        go_wp2_with fail
                        refine (no_any 4 _).mono ?_; rintro e w4 ⟨rfl, hb4⟩
                        have M0 := Lib.hid (M0.out.below hb4 M0.out.lt)
                        have M1 := Lib.hid (M1.out.below hb4 M1.out.lt)
                        have HB4 := Lib.hid (HB.out.trans (hb4.mono HB.out.size))
                        have hz4 : w.heap.size + 2 ≤ w4.heap.size := Nat.le_trans hz hb4.size
                        have HW := Lib.hid (wr7_end M0.out M1.out (.int .u32 0) (.int .i64 0) (.int .u32 0) (.bool false) (.int .i64 2) (.int .i64 4) (.slice none 0 0))
                        clear hb4
                        have m0 := M0.out.cell 0
                        have m1 := M0.out.cell 1
                        have m2 := M0.out.cell 2
                        have m3 := M0.out.cell 3
                        have n0 := M1.out.cell 0
                        have n1 := M1.out.cell 1
                        have n2 := M1.out.cell 2
                        have k0 := M0.out.free 0
                        have k1 := M0.out.free 1
                        have k2 := M0.out.free 2
                        have k3 := M0.out.free 3
                        have j0 := M1.out.free 0
                        have j1 := M1.out.free 1
                        have j2 := M1.out.free 2
                        simp at m0 m1 m2 m3 n0 n1 n2
                        go_wp2_with fail
                        refine bodyPost_ret (results_cell_row2 rfl _ _ w.heap.size (w.heap.size + 1) 52 55 #[.int .u32 0, .int .i64 0, .int .u32 0, .bool false] #[.int .i64 2, .int .i64 4, .slice none 0 0] (0, 0) (0, 0) _ _ rfl HW.out.1 Try.underlying52 rfl info_open rfl HW.out.2.1 Try.underlying55 rfl info_notice) rfl ?_
                        unfold OpenPost
                        rw [HE.out]
                        exact ⟨none, 0, rfl, fun _ => rfl, Rd.nil _ _ _ _, HB4.out.trans HW.out.2.2⟩
                    · have d2 : decide ((l.length : Int) < (k : Int) + 2 + (n.toNat : Int)) = true := by simp; omega
                      have HE : Hid (odec l = ((0, 0, 0, false), 2, 0, [])) := by rw [Hid, HP.out, HPar.out, parAll_short x n _ _ (by omega)]
                      have M0 := Lib.hid (M0.out.below HJ.out.bel (by omega))
                      have M1 := Lib.hid (M1.out.below HJ.out.bel (by omega))
                      have HB := Lib.hid (HB.out.trans (HJ.out.bel.mono (by omega)))
                      have hz : w.heap.size + 2 ≤ wo.heap.size := Nat.le_trans hz HJ.out.bel.size
                      clear hnt htl
                      go_wp2_with fail
                      refine (no_any 0 _).mono ?_; rintro e w4 ⟨rfl, hb4⟩
                      have M0 := Lib.hid (M0.out.below hb4 M0.out.lt)
                      have M1 := Lib.hid (M1.out.below hb4 M1.out.lt)
                      have HB4 := Lib.hid (HB.out.trans (hb4.mono HB.out.size))
                      have hz4 : w.heap.size + 2 ≤ w4.heap.size := Nat.le_trans hz hb4.size
                      have HW := Lib.hid (wr7_end M0.out M1.out (.int .u32 0) (.int .i64 0) (.int .u32 0) (.bool false) (.int .i64 2) (.int .i64 0) (.slice none 0 0))
                      clear hb4
                      have m0 := M0.out.cell 0
                      have m1 := M0.out.cell 1
                      have m2 := M0.out.cell 2
                      have m3 := M0.out.cell 3
                      have n0 := M1.out.cell 0
                      have n1 := M1.out.cell 1
                      have n2 := M1.out.cell 2
                      have k0 := M0.out.free 0
                      have k1 := M0.out.free 1
                      have k2 := M0.out.free 2
                      have k3 := M0.out.free 3
                      have j0 := M1.out.free 0
                      have j1 := M1.out.free 1
                      have j2 := M1.out.free 2
                      simp at m0 m1 m2 m3 n0 n1 n2
                      go_wp2_with fail
                      refine bodyPost_ret (results_cell_row2 rfl _ _ w.heap.size (w.heap.size + 1) 52 55 #[.int .u32 0, .int .i64 0, .int .u32 0, .bool false] #[.int .i64 2, .int .i64 0, .slice none 0 0] (0, 0) (0, 0) _ _ rfl HW.out.1 Try.underlying52 rfl info_open rfl HW.out.2.1 Try.underlying55 rfl info_notice) rfl ?_
                      unfold OpenPost
                      rw [HE.out]
                      exact ⟨none, 0, rfl, fun _ => rfl, Rd.nil _ _ _ _, HB4.out.trans HW.out.2.2⟩
                  · have d1 : decide ((l.length : Int) < (k : Int) + 2) = true := by simp; omega
                    have HE : Hid (odec l = ((0, 0, 0, false), 2, 0, [])) := by
                      have e : l.drop (k + 1) = [] := List.drop_of_length_le (by omega)
                      rw [Hid, HP.out, HJ.out.par, Hdr.out, e, parAll_one]
                    have M0 := Lib.hid (M0.out.below HJ.out.bel (by omega))
                    have M1 := Lib.hid (M1.out.below HJ.out.bel (by omega))
                    have HB := Lib.hid (HB.out.trans (HJ.out.bel.mono (by omega)))
                    have hz : w.heap.size + 2 ≤ wo.heap.size := Nat.le_trans hz HJ.out.bel.size
                    go_wp2_with fail
                    refine (no_any 0 _).mono ?_; rintro e w4 ⟨rfl, hb4⟩
                    have M0 := Lib.hid (M0.out.below hb4 M0.out.lt)
                    have M1 := Lib.hid (M1.out.below hb4 M1.out.lt)
                    have HB4 := Lib.hid (HB.out.trans (hb4.mono HB.out.size))
                    have hz4 : w.heap.size + 2 ≤ w4.heap.size := Nat.le_trans hz hb4.size
                    have HW := Lib.hid (wr7_end M0.out M1.out (.int .u32 0) (.int .i64 0) (.int .u32 0) (.bool false) (.int .i64 2) (.int .i64 0) (.slice none 0 0))
                    clear hb4
                    have m0 := M0.out.cell 0
                    have m1 := M0.out.cell 1
                    have m2 := M0.out.cell 2
                    have m3 := M0.out.cell 3
                    have n0 := M1.out.cell 0
                    have n1 := M1.out.cell 1
                    have n2 := M1.out.cell 2
                    have k0 := M0.out.free 0
                    have k1 := M0.out.free 1
                    have k2 := M0.out.free 2
                    have k3 := M0.out.free 3
                    have j0 := M1.out.free 0
                    have j1 := M1.out.free 1
                    have j2 := M1.out.free 2
                    simp at m0 m1 m2 m3 n0 n1 n2
                    go_wp2_with fail
                    refine bodyPost_ret (results_cell_row2 rfl _ _ w.heap.size (w.heap.size + 1) 52 55 #[.int .u32 0, .int .i64 0, .int .u32 0, .bool false] #[.int .i64 2, .int .i64 0, .slice none 0 0] (0, 0) (0, 0) _ _ rfl HW.out.1 Try.underlying52 rfl info_open rfl HW.out.2.1 Try.underlying55 rfl info_notice) rfl ?_
                    unfold OpenPost
                    rw [HE.out]
                    exact ⟨none, 0, rfl, fun _ => rfl, Rd.nil _ _ _ _, HB4.out.trans HW.out.2.2⟩
                · obtain rfl : k = l.length := by omega
                  have HE : Hid (odec l = ((a, H, I, f), 0, 0, [])) := by rw [Hid, HP.out, HJ.out.par, List.drop_length, parAll_nil]
                  have d0 : decide ((l.length : Int) < (l.length : Int)) = false := by simp
                  have M0 := Lib.hid (M0.out.below HJ.out.bel (by omega))
                  have M1 := Lib.hid (M1.out.below HJ.out.bel (by omega))
                  have HB := Lib.hid (HB.out.trans (HJ.out.bel.mono (by omega)))
                  have hz : w.heap.size + 2 ≤ wo.heap.size := Nat.le_trans hz HJ.out.bel.size
                  have HW := Lib.hid (wr7_end M0.out M1.out (.int .u32 (a : Int)) (.int .i64 (H : Int)) (.int .u32 (I : Int)) (.bool f) (.int .i64 0) (.int .i64 0) (.slice none 0 0))
                  have z0 := HJ.out.blk.cell 0
                  have z1 := HJ.out.blk.cell 1
                  have z2 := HJ.out.blk.cell 2
                  have z3 := HJ.out.blk.cell 3
                  simp at z0 z1 z2 z3
                  have m0 := M0.out.cell 0
                  have m1 := M0.out.cell 1
                  have m2 := M0.out.cell 2
                  have m3 := M0.out.cell 3
                  have n0 := M1.out.cell 0
                  have n1 := M1.out.cell 1
                  have n2 := M1.out.cell 2
                  have k0 := M0.out.free 0
                  have k1 := M0.out.free 1
                  have k2 := M0.out.free 2
                  have k3 := M0.out.free 3
                  have j0 := M1.out.free 0
                  have j1 := M1.out.free 1
                  have j2 := M1.out.free 2
                  simp at m0 m1 m2 m3 n0 n1 n2
                  go_wp2_with fail
                  refine bodyPost_ret (results_cell_row2 rfl _ _ w.heap.size (w.heap.size + 1) 52 55 #[.int .u32 (a : Int), .int .i64 (H : Int), .int .u32 (I : Int), .bool f] #[.int .i64 0, .int .i64 0, .slice none 0 0] (0, 0) (0, 0) _ _ rfl HW.out.1 Try.underlying52 rfl info_open rfl HW.out.2.1 Try.underlying55 rfl info_notice) rfl ?_
                  unfold OpenPost
                  rw [HE.out]
                  exact ⟨none, 0, rfl, fun _ => rfl, Rd.nil _ _ _ _, HB.out.trans HW.out.2.2⟩
            · have d4 : ((n : Int) != (l.length : Int) - 10) = true := by rw [bne_iff_ne]; omega
              have HE : Hid (odec l = ((0, 0, 0, false), 2, 0, [])) := by rw [Hid, HO2.out]; unfold odec2; rw [if_neg (by simpa using hv), if_neg hA, if_neg hH, if_neg hI, if_pos hn]
              clear hv hA hH hh hI hH' hn
              go_wp2_with fail
              refine (HH.out _).mono ?_; rintro e w' ⟨rfl, rfl⟩
              go_wp2_with fail
              refine (no_any 0 _).mono ?_; rintro e w4 ⟨rfl, hb4⟩
              have M0 := Lib.hid (M0.out.below hb4 M0.out.lt)
              have M1 := Lib.hid (M1.out.below hb4 M1.out.lt)
              have HB4 := Lib.hid (HB.out.trans (hb4.mono HB.out.size))
              have hz4 : w.heap.size + 2 ≤ w4.heap.size := Nat.le_trans hz hb4.size
              have HW := Lib.hid (wr7_end M0.out M1.out (.int .u32 0) (.int .i64 0) (.int .u32 0) (.bool false) (.int .i64 2) (.int .i64 0) (.slice none 0 0))
              clear hb4
              have m0 := M0.out.cell 0
              have m1 := M0.out.cell 1
              have m2 := M0.out.cell 2
              have m3 := M0.out.cell 3
              have n0 := M1.out.cell 0
              have n1 := M1.out.cell 1
              have n2 := M1.out.cell 2
              have k0 := M0.out.free 0
              have k1 := M0.out.free 1
              have k2 := M0.out.free 2
              have k3 := M0.out.free 3
              have j0 := M1.out.free 0
              have j1 := M1.out.free 1
              have j2 := M1.out.free 2
              simp at m0 m1 m2 m3 n0 n1 n2
              go_wp2_with fail
              refine bodyPost_ret (results_cell_row2 rfl _ _ w.heap.size (w.heap.size + 1) 52 55 #[.int .u32 0, .int .i64 0, .int .u32 0, .bool false] #[.int .i64 2, .int .i64 0, .slice none 0 0] (0, 0) (0, 0) _ _ rfl HW.out.1 Try.underlying52 rfl info_open rfl HW.out.2.1 Try.underlying55 rfl info_notice) rfl ?_
              unfold OpenPost
              rw [HE.out]
              exact ⟨none, 0, rfl, fun _ => rfl, Rd.nil _ _ _ _, HB4.out.trans HW.out.2.2⟩
    · have d1 : ((v : Int) != 4) = true := by rw [bne_iff_ne]; omega
      have HE : Hid (odec l = ((0, 0, 0, false), 2, 1, [0, 4])) := by rw [Hid, HO2.out]; unfold odec2; rw [if_pos hv]
      have hzl : w.heap.size < wc.heap.size := by omega
      have hzl1 : w.heap.size + 1 < wc.heap.size := by omega
      have HW := Lib.hid (wr7_end M0.out M1.out (.int .u32 0) (.int .i64 0) (.int .u32 0) (.bool false) (.int .i64 2) (.int .i64 1) (.slice (some ⟨wc.heap.size, 0, none⟩) 2 2))
      have hsz : (wr7 wc w.heap.size (.int .u32 0) (.int .i64 0) (.int .u32 0) (.bool false) (.int .i64 2) (.int .i64 1) (.slice (some ⟨wc.heap.size, 0, none⟩) 2 2)).heap.size = wc.heap.size := by simp [wr7, World.setCell]
      have hbs := bs_new (wr7 wc w.heap.size (.int .u32 0) (.int .i64 0) (.int .u32 0) (.bool false) (.int .i64 2) (.int .i64 1) (.slice (some ⟨wc.heap.size, 0, none⟩) 2 2)) [0, 4] #[.int .u8 0, .int .u8 4] (by simp [bv])
      rw [hsz] at hbs
      have HBS := Lib.hid hbs
      have Hsz := Lib.hid hsz
      clear hbs hv z0 z1 z2 z3 hsz
      have m0 := M0.out.cell 0
      have m1 := M0.out.cell 1
      have m2 := M0.out.cell 2
      have m3 := M0.out.cell 3
      have n0 := M1.out.cell 0
      have n1 := M1.out.cell 1
      have n2 := M1.out.cell 2
      have k0 := M0.out.free 0
      have k1 := M0.out.free 1
      have k2 := M0.out.free 2
      have k3 := M0.out.free 3
      have j0 := M1.out.free 0
      have j1 := M1.out.free 1
      have j2 := M1.out.free 2
      simp at m0 m1 m2 m3 n0 n1 n2
      go_wp2_with fail
      refine bodyPost_ret (results_cell_row2 rfl _ _ w.heap.size (w.heap.size + 1) 52 55 #[.int .u32 0, .int .i64 0, .int .u32 0, .bool false] #[.int .i64 2, .int .i64 1, .slice (some ⟨wc.heap.size, 0, none⟩) 2 2] (0, 0) (0, 0) _ _ rfl (Bk.alloc HW.out.1 _) Try.underlying52 rfl info_open rfl (Bk.alloc HW.out.2.1 _) Try.underlying55 rfl info_notice) rfl ?_
      unfold OpenPost
      rw [HE.out]
      refine ⟨some ⟨wc.heap.size, 0, none⟩, 2, rfl, (fun h => by cases h), HBS.out.more ?_, (HB.out.trans HW.out.2.2).alloc ?_ _⟩
      · rw [World.size_alloc]; exact Nat.le_of_eq (congrArg (· + 1) Hsz.out.symm)
      · exact Nat.le_trans HB.out.size (Nat.le_of_eq Hsz.out.symm)
end Go.Proofs.Ytajilbapjpfloaa.openk
