/- What nlri's body, size, Size, one and prefix.Make return. Conditions as each lemma states. What nlri.one and nlri.Decode return. Condition: at most 2^39 bytes. -/
import Derived.Test.YtaeeeinpelfppaaGreatPfxFns
import Derived.Test.YtaeeeinpelfppaaGreatZeros
import Derived.Test.YtaeeeinpelfppaaGreatOwn
import Derived.Test.YtaeeeinpelfppaaGreatNlriMath
namespace Go.Proofs.YtaeeeinpelfppaaGreat.nlri
open Go.RowKit Go.Proofs.YtaeeeinpelfppaaGreat.kit Go.Proofs.YtaeeeinpelfppaaGreat.mem Go.Proofs.YtaeeeinpelfppaaGreat.octet Go.Proofs.YtaeeeinpelfppaaGreat.pfx
set_option linter.unusedVariables false

theorem body_any (n : Nat) (hn : n ≤ 1000) (w : World) : Calls Tryz.prog 80 #[.int .i64 n] w fun e w' => e = .returned (.int .i64 (bodyN n : Int)) ∧ w = w' := by
  have H : Hid ((bodyN n : Int) = ((n : Int) + 8 - 1) / 8) := by rw [Hid, bodyN]; omega
  generalize (bodyN n : Int) = b at *
  go_enter Tryz.func80, Tryz.ntmps80
  go_wp2_with fail
  go_ret
  exact ⟨ret_int (by rw [H.out]), rfl⟩

theorem size_any (a : Nat) (n : Int) (ha : a < 4294967296) (w : World) :
    Calls Tryz.prog 106 #[.agg #[.int .u32 a, .int .i64 n]] w fun e w' => e = .returned (.int .i64 (sizeP (a, n) : Int)) ∧ Below w.heap.size w w' := by
  have HG := fun w => Lib.hid (good_any a n ha w)
  have hal : Below w.heap.size w (w.alloc (.cells #[.int .u32 a, .int .i64 n] 66)) := (Below.refl _ _).alloc (Nat.le_refl _) _
  by_cases g : goodB a n = true
  · have e : sizeP (a, n) = 1 + bodyN n.toNat := by simp [sizeP, g]
    rw [e]
    rw [g] at HG
    obtain ⟨h0, h1, _⟩ := (goodB_iff a n).1 g
    obtain ⟨k, rfl⟩ := Int.eq_ofNat_of_zero_le h0
    rw [Int.toNat_natCast]
    have HB := fun w => Lib.hid (body_any k (by omega) w)
    have hb := bodyN_le k (by omega)
    clear g e h0
    generalize bodyN k = m at *
    go_enter Tryz.func106, Tryz.ntmps106
    go_wp2_with fail
    refine (HG _).out.mono ?_; rintro e w1 ⟨rfl, hb1⟩
    have q1 := (hb1.cell (p := ⟨w.heap.size, 1, none⟩) (by simp)).trans (show _ = some (.int .i64 (k : Int)) by go_simp)
    have HW := Lib.hid (hal.trans (hb1.mono (by simp)))
    have hlt : w.heap.size < w1.heap.size := by have := hb1.size; simp at this; omega
    clear hb1 hal
    go_wp2_with (go_at_call 80; refine (HB _).out.mono ?_; rintro e w' ⟨rfl, rfl⟩)
    go_ret
    exact ⟨ret_int (by simp), HW.out⟩
  · have g' : goodB a n = false := by simpa using g
    have e : sizeP (a, n) = 0 := by simp [sizeP, g']
    rw [e]
    rw [g'] at HG
    clear g e
    go_enter Tryz.func106, Tryz.ntmps106
    go_wp2_with fail
    refine (HG _).out.mono ?_; rintro e w1 ⟨rfl, hb1⟩
    have HW := Lib.hid (hal.trans (hb1.mono (by simp)))
    clear hb1 hal
    go_wp2_with fail
    go_ret
    exact ⟨rfl, HW.out⟩

theorem Size_any (a : Nat) (n : Int) (ha : a < 4294967296) (w : World) :
    Calls Tryz.prog 76 #[.agg #[.int .u32 a, .int .i64 n]] w fun e w' => e = .returned (.int .i64 (sizeP (a, n) : Int)) ∧ Below w.heap.size w w' := by
  have HG := fun w => Lib.hid (size_any a n ha w)
  have hal : Below w.heap.size w (w.alloc (.cells #[.int .u32 a, .int .i64 n] 66)) := (Below.refl _ _).alloc (Nat.le_refl _) _
  generalize sizeP (a, n) = s at *
  go_enter Tryz.func76, Tryz.ntmps76
  go_wp2_with fail
  refine (HG _).out.mono ?_; rintro e w1 ⟨rfl, hb1⟩
  have HW := Lib.hid (hal.trans (hb1.mono (by simp)))
  clear hb1 hal
  go_wp2_with fail
  go_ret
  exact ⟨rfl, HW.out⟩

theorem Make_ok (a n : Nat) (ha : a < 4294967296) (hn : n ≤ 32) (w : World) :
    Calls Tryz.prog 92 #[.int .u32 a, .int .i64 n] w fun e w' => e = .returned (.tuple #[.agg #[.int .u32 (cutv a n : Int), .int .i64 n], .int .i64 0]) ∧ Below w.heap.size w w' := by
  have HM := fun w => Lib.hid (mask_any n hn w)
  have hand := and_mask a n ha hn
  have hc : cutv a n < 4294967296 := Nat.lt_of_le_of_lt (cutv_le a n) ha
  have hm := maskv_le n
  generalize maskv n = m at *
  generalize cutv a n = c at *
  have d1 : decide ((n : Int) < 0) = false := by simp
  have d2 : decide ((32 : Int) < (n : Int)) = false := by simp; omega
  go_enter Tryz.func92, Tryz.ntmps92
  go_wp2_with (go_at_call 115; refine (HM _).out.mono ?_; rintro e w' ⟨rfl, rfl⟩)
  exact bodyPost_ret (v := .tuple #[.agg #[.int .u32 c, .int .i64 n], .int .i64 0]) (by simp [results, Tryz.results92, go_sem]) rfl ⟨rfl, (Below.refl _ _).alloc (Nat.le_refl _) _⟩

theorem Make_bad (a : Int) (n : Int) (hn : n < 0 ∨ 32 < n) (w : World) :
    Calls Tryz.prog 92 #[.int .u32 a, .int .i64 n] w fun e w' => e = .returned (.tuple #[.agg #[.int .u32 0, .int .i64 0], .int .i64 1]) ∧ Below w.heap.size w w' := by
  by_cases h : n < 0
  · have d1 : decide (n < 0) = true := by simpa using h
    clear hn
    go_enter Tryz.func92, Tryz.ntmps92
    go_wp2_with fail
    exact bodyPost_ret (v := .tuple #[.agg #[.int .u32 0, .int .i64 0], .int .i64 1]) (by simp [results, Tryz.results92, go_sem]) rfl ⟨rfl, (Below.refl _ _).alloc (Nat.le_refl _) _⟩
  · have d1 : decide (n < 0) = false := by simpa using h
    have d2 : decide (32 < n) = true := by simp; omega
    clear hn
    go_enter Tryz.func92, Tryz.ntmps92
    go_wp2_with fail
    exact bodyPost_ret (v := .tuple #[.agg #[.int .u32 0, .int .i64 0], .int .i64 1]) (by simp [results, Tryz.results92, go_sem]) rfl ⟨rfl, (Below.refl _ _).alloc (Nat.le_refl _) _⟩
end Go.Proofs.YtaeeeinpelfppaaGreat.nlri

namespace Go.Proofs.YtaeeeinpelfppaaGreat.nlri
open Go.RowKit Go.Proofs.YtaeeeinpelfppaaGreat.kit Go.Proofs.YtaeeeinpelfppaaGreat.mem Go.Proofs.YtaeeeinpelfppaaGreat.octet Go.Proofs.YtaeeeinpelfppaaGreat.pfx
set_option linter.unusedVariables false

theorem zc4 : (Builtin.zeroCells (Value.int .u8 0).cells 4).toList = bv [0, 0, 0, 0] := by simp [Builtin.zeroCells, bv, Value.cells]; rfl
theorem addr4_rget (l : List UInt8) : num (rget (l ++ [0, 0, 0, 0]) false 4) = addr4 l := by
  unfold rget
  rw [if_pos ((rok_iff _ _ _).2 ⟨rfl, by omega, by simp; omega⟩)]
  rfl

theorem info_pre : (Tryz.prog.info? 66).map (·.size) = some 2 := by kernel_rfl

set_option maxRecDepth 100000 in
set_option maxHeartbeats 1000000 in
theorem one_ok (r : Nat) (l t : List UInt8) (p : Nat × Int) (w : World) (hl : l.length ≤ 549755813888) (hr : Rdr w r l false) (hd : dec1 l = some (p, t)) :
    Calls Tryz.prog 52 #[.pointer (some ⟨r, 0, none⟩)] w fun e w' => e = .returned (.agg #[.int .u32 (p.1 : Int), .int .i64 p.2]) ∧ Rdr w' r t false ∧ w.grownBy w' (some r) := by
  cases l with
  | nil => cases hd
  | cons c u =>
  simp only [dec1] at hd
  split at hd
  case isFalse => cases hd
  case isTrue hc =>
  obtain ⟨hc1, hc2⟩ := hc
  injection hd with hd
  injection hd with hp ht
  subst hp ht
  generalize hcn : c.toNat = n at *
  have hcv : num [c] = n := by simp [num, hcn]
  obtain ⟨i0, hi, hz0, hz1, hz2⟩ := info_parts info_u8
  have HU := Lib.hid (u8_any r (c :: u) false (w.alloc (.cells #[.int .u32 0, .int .i64 0] 66)) (hr.below (B := w.heap.size) ((Below.refl _ _).alloc (Nat.le_refl _) _) hr.lt))
  obtain ⟨e1, e2, e3⟩ := rd_app [c] u 1 rfl
  simp only [List.cons_append, List.nil_append] at e1 e2 e3
  rw [e1, e2, e3, hcv] at HU
  have HB := fun w => Lib.hid (body_any n (by omega) w)
  have hb4 := bodyN_le n hc1
  simp only [List.length_cons] at hl
  have Hi := Lib.hid hi
  have Hz0 := Lib.hid hz0
  have Hz1 := Lib.hid hz1
  have Hz2 := Lib.hid hz2
  have hrlt := hr.lt
  have Hcn := Lib.hid hcn
  clear hcv hcn e1 e2 e3 hi hz0 hz1 hz2 hr
  go_enter Tryz.func52, Tryz.ntmps52
  go_wp2_with fail
  refine HU.out.mono ?_; rintro e w1 ⟨rfl, hR1, hG1⟩
  have hz1 : w.heap.size + 1 ≤ w1.heap.size := by have := hG1.size; simpa using this
  have HK1 : Hid (Bk w1 w.heap.size 66 #[.int .u32 0, .int .i64 0]) := (Bk.new w 66 #[.int .u32 0, .int .i64 0]).grown hG1 (by intro e; injection e with e; omega)
  have HG1 : Hid (w.grownBy w1 (some r)) := grown_first ((Below.refl _ _).alloc (Nat.le_refl _) _) hG1
  have HT := Lib.hid (Take_own r u false (bodyN n : Int) w1 (by omega) hR1)
  obtain ⟨e1, e2, e3⟩ := rd_app (u.take (bodyN n)) (u.drop (bodyN n)) (bodyN n : Int) (by rw [List.length_take, Nat.min_eq_left hc2])
  rw [List.take_append_drop] at e1 e2 e3
  rw [e1, e2, e3] at HT
  have hlt : (u.take (bodyN n)).length ≤ 4 := by rw [List.length_take]; omega
  generalize hbe : u.take (bodyN n) = b at *
  generalize hte : u.drop (bodyN n) = t at *
  have Hbe := Lib.hid hbe
  have Hte := Lib.hid hte
  clear hbe hte
  clear e1 e2 e3 hR1 hG1 HU
  go_wp2_with (go_at_call 80; refine (HB _).out.mono ?_; rintro e w' ⟨rfl, rfl⟩)
  refine HT.out.mono ?_; rintro e w2 ⟨A2, c2, rfl, ho2, hR2, hG2⟩
  have HO2 := Lib.hid ho2
  have hz2 := hG2.size
  have HK2 := Lib.hid (HK1.out.grown hG2 (by intro e; injection e with e; omega))
  have HG2 := Lib.hid (grown_trans HG1.out hG2)
  have HR2 := Lib.hid hR2
  clear ho2 hR2 hG2 HT
  go_wp2_with (at_builtin; refine wpList_append_zeros_own rfl (.tmp 14) _ _ _ rfl w1.heap.size 5 i0 (.int .u8 0) .i64 .i64 1 1 Tryz.underlying22 Tryz.underlying3 Hi.out Hz0.out Hz1.out Hz2.out rfl (by omega) (by decide) (.slice A2 b.length c2) b.length (bv b) rfl HO2.out 4 rfl (by omega) (by unfold maxLen; omega) (by omega) hz2 ?_; intro A3 c3 w3 hown3 hg3 hat3; have Hown3 := Lib.hid hown3; have Hg3 := Lib.hid hg3; clear hown3 hg3 hat3)
  have ho3 := Hown3.out
  rw [zc4, ← bv_app] at ho3
  have e4 : b.length + 4 = (b ++ [0, 0, 0, 0]).length := by simp
  have hb23 : Below w1.heap.size w2 w3 := below_grown Hg3.out hz2 (fun g hg => (HO2.out.lt g hg).1)
  have HK3 := Lib.hid (HK2.out.below hb23 (by omega))
  have HG3 := Lib.hid (grown_then HG2.out (hb23.mono (by omega)))
  have HR3 := Lib.hid (HR2.out.below hb23 (by have := HG1.out.size; omega))
  rw [e4] at ho3
  have HN := Lib.hid (New_any A3 c3 w3.heap.size (b ++ [0, 0, 0, 0]) w3 (by simp; omega) (own_form ho3 |>.elim fun A h => h.elim fun c h => by obtain ⟨h1, h2, _⟩ := h; injection h1 with h1 _ h3; subst h1 h3; exact h2) (Nat.le_refl _) (Rd.of_own ho3))
  rw [← e4] at HN
  have hz3 := hb23.size
  clear ho3 hb23 Hown3 Hg3 e4
  go_wp2_with fail
  refine HN.out.mono ?_; rintro e w4 ⟨⟨q, rfl, hq0, hq⟩, hb4'⟩
  have HK4 := Lib.hid (HK3.out.below hb4' HK3.out.lt)
  have HG4 := Lib.hid (grown_then HG3.out (hb4'.mono HG3.out.size))
  have HR4 := Lib.hid (HR3.out.below hb4' HR3.out.lt)
  have HU := Lib.hid (u32_any q (b ++ [0, 0, 0, 0]) false w4 hq)
  rw [addr4_rget] at HU
  have hz4 := HK3.out.lt
  have hr3 := HR3.out.lt
  have hal := addr4_lt b
  clear hq hb4' HN
  go_wp2_with fail
  refine HU.out.mono ?_; rintro e w5 ⟨rfl, _, hG5⟩
  have HK5 := Lib.hid (HK4.out.grown hG5 (by intro e; injection e with e; omega))
  have HG5 := Lib.hid (grown_then HG4.out (below_grown hG5 HG4.out.size (fun g hg => by injection hg with hg; have := HG3.out.size; omega)))
  have HR5 := Lib.hid (HR4.out.grown hG5 (by omega))
  generalize hae : addr4 b = a at *
  have Hae := Lib.hid hae
  clear hae
  have HM := Lib.hid (Make_ok a n hal hc1 w5)
  clear hG5 HU
  go_wp2_with fail
  refine HM.out.mono ?_; rintro e w6 ⟨rfl, hb6⟩
  have hk6 := HK5.out.below hb6 HK5.out.lt
  have hg6 := grown_then HG5.out (hb6.mono HG5.out.size)
  have hr6 := HR5.out.below hb6 HR5.out.lt
  have z0 := hk6.cell 0
  have z1 := hk6.cell 1
  have y0 := hk6.free 0
  have y1 := hk6.free 1
  simp at z0 z1
  have HX : Hid ((((w6.setCell ⟨w.heap.size, 0, none⟩ (.int .u32 (cutv a n : Int))).setCell ⟨w.heap.size, 1, none⟩ (.int .i64 n)).alloc (.cells #[.int .u32 (cutv a n : Int), .int .i64 n] 66)).heap[w.heap.size]? = some (.cells #[.int .u32 (cutv a n : Int), .int .i64 n] 66 (0, 0))) := by
    have h : Bk _ w.heap.size _ _ := ((hk6.put 0 (.int .u32 (cutv a n : Int))).put 1 (.int .i64 n)).alloc (.cells #[.int .u32 (cutv a n : Int), .int .i64 n] 66)
    simpa [Bk, Hid] using h
  have HF : Hid (Rdr (((w6.setCell ⟨w.heap.size, 0, none⟩ (.int .u32 (cutv a n : Int))).setCell ⟨w.heap.size, 1, none⟩ (.int .i64 n)).alloc (.cells #[.int .u32 (cutv a n : Int), .int .i64 n] 66)) r t false ∧
      w.grownBy (((w6.setCell ⟨w.heap.size, 0, none⟩ (.int .u32 (cutv a n : Int))).setCell ⟨w.heap.size, 1, none⟩ (.int .i64 n)).alloc (.cells #[.int .u32 (cutv a n : Int), .int .i64 n] 66)) (some r)) := by
    have hst : Below w.heap.size w6 (((w6.setCell ⟨w.heap.size, 0, none⟩ (.int .u32 (cutv a n : Int))).setCell ⟨w.heap.size, 1, none⟩ (.int .i64 n)).alloc (.cells #[.int .u32 (cutv a n : Int), .int .i64 n] 66)) :=
      (((Below.refl _ _).setCell (p := ⟨w.heap.size, 0, none⟩) (Nat.le_refl _) _).setCell (p := ⟨w.heap.size, 1, none⟩) (Nat.le_refl _) _).alloc (by simpa [World.setCell] using hg6.size) _
    exact ⟨hr6.below hst hrlt, grown_then hg6 hst⟩
  have hzz : w.heap.size < w6.heap.size := hk6.lt
  clear hk6 hg6 hr6 hb6
  go_wp2_with fail
  refine bodyPost_ret (results_cell_row rfl _ _ w.heap.size 66 #[.int .u32 (cutv a n : Int), .int .i64 n] (0, 0) _ rfl HX.out Tryz.underlying66 rfl info_pre) rfl ?_
  refine ⟨by rw [Hbe.out, Hae.out], by rw [Hte.out]; exact HF.out⟩

theorem rok_bad (l : List UInt8) (n : Int) : rok l true n = false := by unfold rok; rfl
set_option maxRecDepth 100000 in
set_option maxHeartbeats 1000000 in
/-- the first prefix's length is too great, or there are too few bytes behind -/
theorem one_bad (r : Nat) (c : UInt8) (u : List UInt8) (w : World) (hl : (c :: u).length ≤ 549755813888) (hr : Rdr w r (c :: u) false) (hd : dec1 (c :: u) = none) :
    Calls Tryz.prog 52 #[.pointer (some ⟨r, 0, none⟩)] w fun e w' => ∃ x y, e = .returned (.agg #[.int .u32 x, .int .i64 y]) ∧ Rdr w' r [] true ∧ w.grownBy w' (some r) := by
  simp only [dec1] at hd
  split at hd
  case isTrue => cases hd
  case isFalse hno =>
  clear hd
  have hc3 := c.toNat_lt
  generalize hcn : c.toNat = n at *
  have hcv : num [c] = n := by simp [num, hcn]
  obtain ⟨i0, hi, hz0, hz1, hz2⟩ := info_parts info_u8
  have HU := Lib.hid (u8_any r (c :: u) false (w.alloc (.cells #[.int .u32 0, .int .i64 0] 66)) (hr.below (B := w.heap.size) ((Below.refl _ _).alloc (Nat.le_refl _) _) hr.lt))
  obtain ⟨e1, e2, e3⟩ := rd_app [c] u 1 rfl
  simp only [List.cons_append, List.nil_append] at e1 e2 e3
  rw [e1, e2, e3, hcv] at HU
  have HB := fun w => Lib.hid (body_any n (by omega) w)
  have hb4 : bodyN n ≤ 32 := by unfold bodyN; omega
  simp only [List.length_cons] at hl
  have Hi := Lib.hid hi
  have Hz0 := Lib.hid hz0
  have Hz1 := Lib.hid hz1
  have Hz2 := Lib.hid hz2
  have hrlt := hr.lt
  have Hcn := Lib.hid hcn
  clear hcv hcn e1 e2 e3 hi hz0 hz1 hz2 hr
  go_enter Tryz.func52, Tryz.ntmps52
  go_wp2_with fail
  refine HU.out.mono ?_; rintro e w1 ⟨rfl, hR1, hG1⟩
  have hz1 : w.heap.size + 1 ≤ w1.heap.size := by have := hG1.size; simpa using this
  have HK1 : Hid (Bk w1 w.heap.size 66 #[.int .u32 0, .int .i64 0]) := (Bk.new w 66 #[.int .u32 0, .int .i64 0]).grown hG1 (by intro e; injection e with e; omega)
  have HG1 : Hid (w.grownBy w1 (some r)) := grown_first ((Below.refl _ _).alloc (Nat.le_refl _) _) hG1
  have HT := Lib.hid (Take_own r u false (bodyN n : Int) w1 (by omega) hR1)
  have hlt : (rget u false (bodyN n : Int)).length ≤ 32 := Nat.le_trans (rget_le _ _ _) hb4
  have Hq : Hid (n ≤ 32 → rleft u false (bodyN n : Int) = [] ∧ (!rok u false (bodyN n : Int)) = true) := by
    intro h
    have h1 : rok u false (bodyN n : Int) = false := by
      rw [Bool.eq_false_iff, Ne, rok_iff]
      intro h2
      exact hno ⟨h, by omega⟩
    unfold rleft
    rw [if_neg (by rw [h1]; simp), h1]
    exact ⟨rfl, rfl⟩
  generalize rget u false (bodyN n : Int) = b at *
  have HLT : Hid ((rleft u false (bodyN n : Int)).length ≤ 549755813888) := by have := rleft_len u false (bodyN n : Int); rw [Hid]; omega
  generalize rleft u false (bodyN n : Int) = t at *
  generalize (!rok u false (bodyN n : Int)) = bd at *
  clear hR1 hG1 HU hno
  go_wp2_with (go_at_call 80; refine (HB _).out.mono ?_; rintro e w' ⟨rfl, rfl⟩)
  refine HT.out.mono ?_; rintro e w2 ⟨A2, c2, rfl, ho2, hR2, hG2⟩
  have HO2 := Lib.hid ho2
  have hz2 := hG2.size
  have HK2 := Lib.hid (HK1.out.grown hG2 (by intro e; injection e with e; omega))
  have HG2 := Lib.hid (grown_trans HG1.out hG2)
  have HR2 := Lib.hid hR2
  clear ho2 hR2 hG2 HT
  go_wp2_with (at_builtin; refine wpList_append_zeros_own rfl (.tmp 14) _ _ _ rfl w1.heap.size 5 i0 (.int .u8 0) .i64 .i64 1 1 Tryz.underlying22 Tryz.underlying3 Hi.out Hz0.out Hz1.out Hz2.out rfl (by omega) (by decide) (.slice A2 b.length c2) b.length (bv b) rfl HO2.out 4 rfl (by omega) (by unfold maxLen; omega) (by omega) hz2 ?_; intro A3 c3 w3 hown3 hg3 hat3; have Hown3 := Lib.hid hown3; have Hg3 := Lib.hid hg3; clear hown3 hg3 hat3)
  have ho3 := Hown3.out
  rw [zc4, ← bv_app] at ho3
  have e4 : b.length + 4 = (b ++ [0, 0, 0, 0]).length := by simp
  have hb23 : Below w1.heap.size w2 w3 := below_grown Hg3.out hz2 (fun g hg => (HO2.out.lt g hg).1)
  have HK3 := Lib.hid (HK2.out.below hb23 (by omega))
  have HG3 := Lib.hid (grown_then HG2.out (hb23.mono (by omega)))
  have HR3 := Lib.hid (HR2.out.below hb23 (by have := HG1.out.size; omega))
  rw [e4] at ho3
  have HN := Lib.hid (New_any A3 c3 w3.heap.size (b ++ [0, 0, 0, 0]) w3 (by simp; omega) (own_form ho3 |>.elim fun A h => h.elim fun c h => by obtain ⟨h1, h2, _⟩ := h; injection h1 with h1 _ h3; subst h1 h3; exact h2) (Nat.le_refl _) (Rd.of_own ho3))
  rw [← e4] at HN
  have hz3 := hb23.size
  clear ho3 hb23 Hown3 Hg3 e4
  go_wp2_with fail
  refine HN.out.mono ?_; rintro e w4 ⟨⟨q, rfl, hq0, hq⟩, hb4'⟩
  have HK4 := Lib.hid (HK3.out.below hb4' HK3.out.lt)
  have HG4 := Lib.hid (grown_then HG3.out (hb4'.mono HG3.out.size))
  have HR4 := Lib.hid (HR3.out.below hb4' HR3.out.lt)
  have HU := Lib.hid (u32_any q (b ++ [0, 0, 0, 0]) false w4 hq)
  rw [addr4_rget] at HU
  have hz4 := HK3.out.lt
  have hr3 := HR3.out.lt
  have hal := addr4_lt b
  clear hq hb4' HN
  go_wp2_with fail
  refine HU.out.mono ?_; rintro e w5 ⟨rfl, _, hG5⟩
  have HK5 := Lib.hid (HK4.out.grown hG5 (by intro e; injection e with e; omega))
  have HG5 := Lib.hid (grown_then HG4.out (below_grown hG5 HG4.out.size (fun g hg => by injection hg with hg; have := HG3.out.size; omega)))
  have HR5 := Lib.hid (HR4.out.grown hG5 (by omega))
  generalize addr4 b = a at *
  by_cases hn : n ≤ 32
  · obtain ⟨rfl, rfl⟩ := Hq.out hn
    have HM := Lib.hid (Make_ok a n hal hn w5)
    clear Hq
    go_wp2_with fail
    refine HM.out.mono ?_; rintro e w6 ⟨rfl, hb6⟩
    generalize cutv a n = ca at *
    have hk6 := HK5.out.below hb6 HK5.out.lt
    have hg6 := grown_then HG5.out (hb6.mono HG5.out.size)
    have hr6 := HR5.out.below hb6 HR5.out.lt
    have z0 := hk6.cell 0
    have z1 := hk6.cell 1
    have y0 := hk6.free 0
    have y1 := hk6.free 1
    simp at z0 z1
    have HX : Hid ((((w6.setCell ⟨w.heap.size, 0, none⟩ (.int .u32 (ca : Int))).setCell ⟨w.heap.size, 1, none⟩ (.int .i64 n)).alloc (.cells #[.int .u32 (ca : Int), .int .i64 n] 66)).heap[w.heap.size]? = some (.cells #[.int .u32 (ca : Int), .int .i64 n] 66 (0, 0))) := by
      have h : Bk _ w.heap.size _ _ := ((hk6.put 0 (.int .u32 (ca : Int))).put 1 (.int .i64 n)).alloc (.cells #[.int .u32 (ca : Int), .int .i64 n] 66)
      simpa [Bk, Hid] using h
    have HF : Hid (Rdr (((w6.setCell ⟨w.heap.size, 0, none⟩ (.int .u32 (ca : Int))).setCell ⟨w.heap.size, 1, none⟩ (.int .i64 n)).alloc (.cells #[.int .u32 (ca : Int), .int .i64 n] 66)) r [] true ∧ w.grownBy (((w6.setCell ⟨w.heap.size, 0, none⟩ (.int .u32 (ca : Int))).setCell ⟨w.heap.size, 1, none⟩ (.int .i64 n)).alloc (.cells #[.int .u32 (ca : Int), .int .i64 n] 66)) (some r)) := by
      have hst : Below w.heap.size w6 (((w6.setCell ⟨w.heap.size, 0, none⟩ (.int .u32 (ca : Int))).setCell ⟨w.heap.size, 1, none⟩ (.int .i64 n)).alloc (.cells #[.int .u32 (ca : Int), .int .i64 n] 66)) := (((Below.refl _ _).setCell (p := ⟨w.heap.size, 0, none⟩) (Nat.le_refl _) _).setCell (p := ⟨w.heap.size, 1, none⟩) (Nat.le_refl _) _).alloc (by simpa [World.setCell] using hg6.size) _
      exact ⟨hr6.below hst hrlt, grown_then hg6 hst⟩
    have hzz : w.heap.size < w6.heap.size := hk6.lt
    clear hk6 hg6 hr6 hb6
    go_wp2_with fail
    refine bodyPost_ret (results_cell_row rfl _ _ w.heap.size 66 #[.int .u32 (ca : Int), .int .i64 n] (0, 0) _ rfl HX.out Tryz.underlying66 rfl info_pre) rfl ?_
    exact ⟨_, _, rfl, HF.out⟩
  · have HM := Lib.hid (Make_bad (a : Int) (n : Int) (by omega) w5)
    clear Hq
    go_wp2_with fail
    refine HM.out.mono ?_; rintro e w6 ⟨rfl, hb6⟩
    have HK6 := Lib.hid ((HK5.out.below hb6 HK5.out.lt).alloc (.cells #[.int .u32 0, .int .i64 0] 66))
    have hba : Below w5.heap.size w5 (w6.alloc (.cells #[.int .u32 0, .int .i64 0] 66)) := hb6.alloc hb6.size _
    have HG6 := Lib.hid (grown_then HG5.out (hba.mono HG5.out.size))
    have HR6 := Lib.hid (HR5.out.below hba HR5.out.lt)
    have hrk : rok t (bd) (-1) = false := by unfold rok; simp
    have HT2 := Lib.hid (Take_own r t bd (-1) _ (by have := HLT.out; omega) HR6.out)
    have e1 : rleft t bd (-1) = [] := by unfold rleft; rw [if_neg (by rw [hrk]; simp)]
    rw [e1, hrk] at HT2
    have hzg : w.heap.size < w6.heap.size := by have := HK5.out.lt; have := hb6.size; omega
    have hzr : r < w6.heap.size := by have := HR5.out.lt; have := hb6.size; omega
    clear hb6 hba hrk e1
    go_wp2_with fail
    refine HT2.out.mono ?_; rintro e w7 ⟨A7, c7, rfl, ho7, hR7, hG7⟩
    have hk6 := HK6.out.grown hG7 (by intro e; injection e with e; omega)
    have hg6 := grown_trans HG6.out hG7
    have hr6 := hR7
    have q0 : w7.cell? ⟨w6.heap.size, 0, none⟩ = some (.int .u32 0) := by
      have h : Bk (w6.alloc (.cells #[.int .u32 0, .int .i64 0] 66)) w6.heap.size _ _ := Bk.new w6 _ _
      have := (h.grown hG7 (by intro e; injection e with e; omega)).cell 0
      simpa using this
    have q1 : w7.cell? ⟨w6.heap.size, 1, none⟩ = some (.int .i64 0) := by
      have h : Bk (w6.alloc (.cells #[.int .u32 0, .int .i64 0] 66)) w6.heap.size _ _ := Bk.new w6 _ _
      have := (h.grown hG7 (by intro e; injection e with e; omega)).cell 1
      simpa using this
    clear ho7 hR7 hG7 HT2
    have z0 := hk6.cell 0
    have z1 := hk6.cell 1
    have y0 := hk6.free 0
    have y1 := hk6.free 1
    simp at z0 z1
    have HX : Hid (((w7.setCell ⟨w.heap.size, 0, none⟩ (.int .u32 0)).setCell ⟨w.heap.size, 1, none⟩ (.int .i64 0)).heap[w.heap.size]? = some (.cells #[.int .u32 0, .int .i64 0] 66 (0, 0))) := by
      have h : Bk _ w.heap.size _ _ := ((hk6.put 0 (.int .u32 0)).put 1 (.int .i64 0))
      simpa [Bk, Hid] using h
    have HF : Hid (Rdr ((w7.setCell ⟨w.heap.size, 0, none⟩ (.int .u32 0)).setCell ⟨w.heap.size, 1, none⟩ (.int .i64 0)) r [] true ∧ w.grownBy ((w7.setCell ⟨w.heap.size, 0, none⟩ (.int .u32 0)).setCell ⟨w.heap.size, 1, none⟩ (.int .i64 0)) (some r)) := by
      have hst : Below w.heap.size w7 ((w7.setCell ⟨w.heap.size, 0, none⟩ (.int .u32 0)).setCell ⟨w.heap.size, 1, none⟩ (.int .i64 0)) := (((Below.refl _ _).setCell (p := ⟨w.heap.size, 0, none⟩) (Nat.le_refl _) _).setCell (p := ⟨w.heap.size, 1, none⟩) (Nat.le_refl _) _)
      exact ⟨hr6.below hst hrlt, grown_then hg6 hst⟩
    have hzz : w.heap.size < w7.heap.size := hk6.lt
    clear hk6 hg6 hr6
    go_wp2_with fail
    refine bodyPost_ret (results_cell_row rfl _ _ w.heap.size 66 #[.int .u32 0, .int .i64 0] (0, 0) _ rfl HX.out Tryz.underlying66 rfl info_pre) rfl ?_
    exact ⟨_, _, rfl, HF.out⟩
theorem info_pre3 : (Tryz.prog.info? 66).map (fun i => (i.zero, i.size, i.bytes)) = some (some (.agg #[.int .u32 0, .int .i64 0]), 2, 16) := by kernel_rfl

/-- how many bytes a reader has left -/
def rlen (w : World) (r : Nat) : Nat := match w.cell? ⟨r, 0, none⟩ with | some (.slice _ n _) => n | _ => 0
theorem rlen_of {w : World} {r : Nat} {q : List UInt8} {bad : Bool} (h : Rdr w r q bad) : rlen w r = q.length := by
  obtain ⟨A, c, hk, _⟩ := h
  unfold rlen
  rw [hk.cell 0]
  rfl

/-- what Decode hands back -/
def DecPost (l : List UInt8) (w : World) (e : Ending) (w' : World) : Prop :=
  match dec l with
  | some ps => ∃ A c, e = .returned (.tuple #[.slice A ps.length c, .int .i64 0]) ∧ NewSl 2 ps.length (pv ps) w A c w'
  | none => e = .returned (.tuple #[.slice none 0 0, .int .i64 2]) ∧ Below w.heap.size w w'

/-- what holds at the loop's head -/
structure DecJ (l : List UInt8) (w : World) (r : Nat) (out : List (Nat × Int)) (A : Option Addr) (c : Nat) (q : List UInt8) (wr : World) : Prop where
  own : wr.ownsRow (r + 1) 66 2 (.slice A out.length c) out.length (pv out)
  rdr : Rdr wr r q false
  dec : dec l = (dec q).map (out ++ ·)
  bel : Below w.heap.size w wr
  rge : w.heap.size ≤ r
  len : out.length + q.length ≤ l.length

set_option maxRecDepth 100000 in
set_option maxHeartbeats 2000000 in
theorem Decode_any (A : Option Addr) (c B : Nat) (l : List UInt8) (w : World) (hl : l.length ≤ 274877906944) (hA : A = none → c = 0) (hB : B ≤ w.heap.size) (hr : Bs w B A l) :
    Calls Tryz.prog 19 #[.slice A l.length c] w (DecPost l w) := by
  have HN := Lib.hid (New_any A c B l w (by omega) hA hB hr)
  obtain ⟨i0, hi, hz0, hz1, hz2⟩ := info_parts info_pre3
  have Hi := Lib.hid hi
  have Hz0 := Lib.hid hz0
  have Hz1 := Lib.hid hz1
  have Hz2 := Lib.hid hz2
  clear hr hA hi hz0 hz1 hz2
  go_enter Tryz.func19, Tryz.ntmps19
  go_wp2_with fail
  refine wp_scope_jumps 0 (fun a' wr => ∃ r out A c q x0 x1 x6 x7 x8 x9 x10 x11 x12 x13 x14 x15 x16 x17 x18 x19 x20, DecJ l w r out A c q wr ∧ a' = { tmps := #[x0, x1, .slice none 0 0, .int .i64 0, .slice A out.length c, .pointer (some ⟨r, 0, none⟩), x6, x7, x8, x9, x10, x11, x12, x13, x14, x15, x16, x17, x18, x19, x20], defers := [] }) (fun (a' : Act) (wr : World) => match a'.tmps[5]? with | some (Value.pointer (some p)) => rlen wr p.block | _ => 0) rfl ?first ?pass
  case' first =>
    go_wp2_with fail
    refine HN.out.mono ?_; rintro e w1 ⟨⟨r, rfl, hr0, hr⟩, hb⟩
    have HJ : Hid (DecJ l w r [] none 0 l w1) := ⟨own_none _ _ _ _, hr, by simp, hb, hr0, by simp⟩
    obtain ⟨out, A1, c1, q, HJ, hfr⟩ : ∃ (out : List (Nat × Int)) (A1 : Option Addr) (c1 : Nat) (q : List UInt8), Hid (DecJ l w r out A1 c1 q w1) ∧ (#[.slice A l.length c, undef, .slice none 0 0, .int .i64 0, .slice none 0 0, .pointer (some ⟨r, 0, none⟩), undef, .slice A l.length c, .pointer (some ⟨r, 0, none⟩), undef, undef, undef, undef, undef, undef, undef, undef, undef, undef, undef, undef] : Array Value) = #[.slice A l.length c, undef, .slice none 0 0, .int .i64 0, .slice A1 out.length c1, .pointer (some ⟨r, 0, none⟩), undef, .slice A l.length c, .pointer (some ⟨r, 0, none⟩), undef, undef, undef, undef, undef, undef, undef, undef, undef, undef, undef, undef] := ⟨[], none, 0, l, HJ, rfl⟩
    have Hfr := Lib.hid hfr
    clear hr hb HN hfr
    go_wp2_with fail
    go_step3
    rw [Hfr.out]
    clear Hfr
  case' pass =>
    rintro a' w1 ⟨r, out, A1, c1, q, x0, x1, x6, x7, x8, x9, x10, x11, x12, x13, x14, x15, x16, x17, x18, x19, x20, hJ, rfl⟩
    have HJ := Lib.hid hJ
    clear hJ HN
  all_goals
    go_wp2_with fail
    refine (Left_any r q false w1 HJ.out.rdr).mono ?_; rintro e w' ⟨rfl, rfl⟩
    rcases q with _ | ⟨b0, u⟩
    · have HE : Hid (dec l = some out) := by rw [Hid, HJ.out.dec, dec_nil]; simp
      go_wp2_with fail
      try simp only [Exit.jump]
      go_ret2
      unfold DecPost
      rw [HE.out]
      exact ⟨A1, c1, rfl, NewSl.of_own (own_le HJ.out.own (by have := HJ.out.rge; omega)) HJ.out.bel⟩
    · have h0 : 0 < ((b0 :: u).length : Int) := by simp
      have hln : (b0 :: u).length ≤ 549755813888 := by have := HJ.out.len; omega
      have hrg := HJ.out.rge
      rcases hd : dec1 (b0 :: u) with _ | ⟨p, t⟩
      · have HO := Lib.hid (one_bad r b0 u w1 hln HJ.out.rdr hd)
        have HE : Hid (dec l = none) := by rw [Hid, HJ.out.dec, dec_bad (by simp) hd]; rfl
        clear hd hln
        go_wp2_with fail
        refine HO.out.mono ?_; rintro e w2 ⟨x, y, rfl, hR, hG⟩
        have hR2 := hR.below (B := w2.heap.size) ((Below.refl _ _).alloc (Nat.le_refl _) (.cells #[.int .u32 x, .int .i64 y] 66)) hR.lt
        have hb2 := (HJ.out.bel.trans (below_grown hG HJ.out.bel.size (fun g hg => by cases hg; exact hrg))).alloc (Nat.le_trans HJ.out.bel.size hG.size) (.cells #[.int .u32 x, .int .i64 y] 66)
        have HB2 := Lib.hid hb2
        have HR2 := Lib.hid hR2
        clear hR hG hR2 hb2 HO
        go_wp2_with fail
        refine (Bad_any r [] true _ HR2.out).mono ?_; rintro e w' ⟨rfl, rfl⟩
        go_wp2_with fail
        try simp only [Exit.jump]
        go_ret2
        unfold DecPost
        rw [HE.out]
        exact ⟨rfl, HB2.out⟩
      · have HO := Lib.hid (one_ok r (b0 :: u) t p w1 hln HJ.out.rdr hd)
        have HE : Hid (dec l = (dec t).map ((out ++ [p]) ++ ·)) := by
          rw [Hid, HJ.out.dec, dec_ok hd, Option.map_map]
          congr 1
          funext y
          simp
        have htl : t.length < (b0 :: u).length := dec1_len hd
        have HL : Hid (t.length < (b0 :: u).length) := htl
        clear hd hln htl
        go_wp2_with fail
        refine HO.out.mono ?_; rintro e w2 ⟨rfl, hR, hG⟩
        have ho2 := HJ.out.own.kept hG (.inr (fun e => by have := (HJ.out.own.lt _ e).1; omega))
        have hb2 := HJ.out.bel.trans (below_grown hG HJ.out.bel.size (fun g hg => by cases hg; exact hrg))
        have h3 := (Below.refl w2.heap.size w2).alloc (Nat.le_refl _) (.cells #[.int .u32 (p.1 : Int), .int .i64 p.2] 66)
        have HR3 := Lib.hid (hR.below h3 hR.lt)
        have h4 := h3.alloc (by simp) (.cells #[.int .u32 (p.1 : Int), .int .i64 p.2] 66)
        have HR4 := Lib.hid (hR.below h4 hR.lt)
        have HO4 := Lib.hid (own_below ho2 h4)
        have HB4 := Lib.hid (hb2.trans (h4.mono hb2.size))
        have HS4 : Hid (Rd ((w2.alloc (.cells #[.int .u32 (p.1 : Int), .int .i64 p.2] 66)).alloc (.cells #[.int .u32 (p.1 : Int), .int .i64 p.2] 66)) (w2.heap.size + 1 + 1) 2 (some ⟨w2.heap.size + 1, 0, none⟩) 1 (pv [p])) := by
          have := rd_new (w2.alloc (.cells #[.int .u32 (p.1 : Int), .int .i64 p.2] 66)) 66 2 1 #[.int .u32 (p.1 : Int), .int .i64 p.2] rfl
          simpa [pv, Hid] using this
        have HLO : Hid (out.length + 1 ≤ 274877906944) := by have h1 := HJ.out.len; have h2 := HL.out; rw [Hid]; omega
        have HM : Hid (out.length + 1 ≤ maxLen) := by have := HLO.out; rw [Hid]; unfold maxLen; omega
        have HN2 : Hid ((out.length + 1) * 16 ≤ 140737488355328) := by have := HLO.out; rw [Hid]; omega
        have hrlt : r < w2.heap.size := hR.lt
        clear hR hG ho2 hb2 h3 h4 HO
        go_wp2_with (first
          | (go_at_call 22; refine (Bad_any r t false _ HR3.out).mono ?_; rintro e w' ⟨rfl, rfl⟩)
          | (at_builtin; refine wpList_append_sl rfl (.tmp 16) (.tmp 18) _ rfl (r + 1) 66 i0 _ 2 16 Tryz.underlying24 Hi.out Hz0.out Hz1.out Hz2.out rfl (by omega) (.slice A1 out.length c1) out.length (pv out) rfl HO4.out (w2.heap.size + 1 + 1) (some ⟨w2.heap.size + 1, 0, none⟩) 1 1 (by intro h; cases h) (pv [p]) rfl HS4.out (pv_one _) HM.out HN2.out (by simp; omega) ?_; intro A2 c2 w5 hown5 hg5 hat5; have Hown5 := Lib.hid hown5; have Hg5 := Lib.hid hg5; clear hown5 hg5 hat5))
        have ho5 := Hown5.out
        rw [← pv_app] at ho5
        have e1 : out.length + 1 = (out ++ [p]).length := by simp
        rw [e1] at ho5
        have HJ2 : Hid (DecJ l w r (out ++ [p]) A2 c2 t w5) := by
          refine ⟨ho5, ?_, HE.out, HB4.out.trans (below_grown Hg5.out HB4.out.size (fun g hg => by have := (HO4.out.lt g hg).1; omega)), hrg, ?_⟩
          · rcases ho : (Value.slice A1 out.length c1).ownBlock with _ | g
            · have hg := Hg5.out
              rw [ho] at hg
              exact HR4.out.below ⟨hg.os, hg.tape, hg.output, hg.size, fun i hi => hg.block i hi (by simp)⟩ HR4.out.lt
            · have hg := Hg5.out
              rw [ho] at hg
              exact HR4.out.grown hg (by have := (HO4.out.lt g ho).1; omega)
          · have h1 := HJ.out.len
            have h2 := HL.out
            simp
            omega
        clear ho5 e1 Hown5 Hg5
        try simp only [Exit.jump]
        have Hfin : Hid (rlen w5 r < rlen w1 r) := by rw [Hid, rlen_of HJ2.out.rdr, rlen_of HJ.out.rdr]; exact HL.out
        go_step3
        have e1 : (out ++ [p]).length = out.length + 1 := by simp
        first
          | exact ⟨rfl, r, out ++ [p], A2, c2, t, _, _, _, _, _, _, _, _, _, _, _, _, _, _, _, _, _, HJ2.out, by rw [e1]⟩
          | exact ⟨rfl, ⟨r, out ++ [p], A2, c2, t, _, _, _, _, _, _, _, _, _, _, _, _, _, _, _, _, _, HJ2.out, by rw [e1]⟩, Hfin.out⟩
end Go.Proofs.YtaeeeinpelfppaaGreat.nlri
