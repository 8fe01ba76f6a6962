/- The walk of the law OctetBack: the Go text returns true and writes nothing that was there. No condition. -/
import Derived.Test.YtajilbapjpfloaaOctLives
namespace Go.Proofs.Ytajilbapjpfloaa.octetBack
open Go.RowKit Go.Proofs.Ytajilbapjpfloaa.kit Go.Proofs.Ytajilbapjpfloaa.mem Go.Proofs.Ytajilbapjpfloaa.octet
set_option linter.unusedVariables false

theorem ne_some {a b : Nat} (h : a ≠ b) : some a ≠ some b := fun e => h (by injection e)

set_option maxRecDepth 100000 in
set_option maxHeartbeats 4000000 in
theorem core (a b c0 c1 : Nat) (ha : a ≤ 255) (hb : b ≤ 65535) (h0 : c0 ≤ 4294967295) (h1 : c1 ≤ 4294967295) (W : World) :
    Calls Try.prog 5 #[.int .u8 a, .int .u16 b, .agg #[.int .u32 c0, .int .u32 c1]] W fun e w' => e = .returned (.bool true) ∧ Below W.heap.size W w' := by
  -- the world with the array's own variable and the writer
  have HW0 := Lib.hid (wtr_new (W.alloc (.cells #[.int .u32 c0, .int .u32 c1] 41)))
  simp only [World.size_alloc] at HW0
  go_enter Try.func5, Try.ntmps5
  go_wp2_with fail
  refine (U32_any (W.heap.size + 1) (W.heap.size + 1) [] c0 _ HW0.out (by simp) (by omega) (by omega)).mono ?_; rintro e w1 ⟨rfl, hw1, ho1⟩
  have HW1 := Lib.hid hw1
  have HO1 := Lib.hid ho1
  clear hw1 ho1
  go_wp2_with fail
  refine (U8_any (W.heap.size + 1) (W.heap.size + 1) _ a _ HW1.out (by simp)).mono ?_; rintro e w2 ⟨rfl, hw2, ho2⟩
  have HW2 := Lib.hid hw2
  have HO2 := Lib.hid (HO1.out.trans ho2)
  clear hw2 ho2
  go_wp2_with fail
  refine (U16_any (W.heap.size + 1) (W.heap.size + 1) _ b _ HW2.out (by simp)).mono ?_; rintro e w3 ⟨rfl, hw3, ho3⟩
  have HW3 := Lib.hid hw3
  have HO3 := Lib.hid (HO2.out.trans ho3)
  clear hw3 ho3
  have hB3 := HW0.out.only HO3.out
  have q0 := (hB3.cell (p := ⟨W.heap.size, 0, none⟩) (by simp)).trans (show _ = some (.int .u32 (c0 : Int)) by go_simp)
  have q1 := (hB3.cell (p := ⟨W.heap.size, 1, none⟩) (by simp)).trans (show _ = some (.int .u32 (c1 : Int)) by go_simp)
  have z3 : W.heap.size + 1 < w3.heap.size := HW3.out.lt
  have HB3 := Lib.hid hB3
  clear hB3
  go_wp2_with fail
  refine (Big_any c1 4 w3 (by omega) (by omega)).mono ?_; rintro e w4 ⟨A4, k4, rfl, g2, g3, g4, g5, g6, g7⟩
  have HW4 := Lib.hid (HW3.out.below g6)
  have HO4 := Lib.hid (HO3.out.trans (only_below g6 (HW3.out.lt)))
  have HS := Lib.hid (Sized_yes (W.heap.size + 1) (W.heap.size + 1) _ (bigv c1 4) A4 k4 w4.heap.size w4 HW4.out (by simp) (by rw [bigv_len]; omega) g2 (Nat.le_refl _) g5 (fun ad h => HW3.out.sep (g7 ad h) g6))
  clear g2 g3 g4 g5 g6 g7
  go_wp2_with fail
  refine HS.out.mono ?_; rintro e w5 ⟨rfl, hw5, ho5⟩
  have hL : ([] ++ [octet.byteOf ((c0 : Int) / 16777216), octet.byteOf ((c0 : Int) / 65536), octet.byteOf ((c0 : Int) / 256), octet.byteOf c0] ++ [octet.byteOf a] ++ [octet.byteOf ((b : Int) / 256), octet.byteOf b]) ++ octet.byteOf ((bigv c1 4).length : Int) :: bigv c1 4 = be4 c0 ++ ([octet.byteOf a] ++ (be2 b ++ ([octet.byteOf 4] ++ be4 c1))) := by
    rw [bigv_len, big_be4]; simp [be4, be2]
  rw [hL] at hw5
  have HW5 := Lib.hid hw5
  have HO5 := Lib.hid (HO4.out.trans ho5)
  clear hw5 ho5 hL HS
  go_wp2_with fail
  refine (Bytes_any _ _ _ w5 HW5.out (by simp [be4, be2])).mono ?_
  rintro e w6 ⟨⟨A6, k6, rfl, g2, g3, g4, g5, g6, g7⟩, hw6⟩
  have HO6 := Lib.hid (HO5.out.trans (only_below g6 (HW5.out.lt)))
  have HN := Lib.hid (New_any A6 k6 w6.heap.size _ w6 (by simp [be4, be2]) g2 (Nat.le_refl _) g5)
  clear g2 g3 g4 g5 g6 g7 hw6
  go_wp2_with fail
  refine HN.out.mono ?_; rintro e w7 ⟨⟨r, rfl, hr0, hr⟩, hb7⟩
  have hB7 := (HW0.out.only HO6.out).trans (hb7.mono (Nat.le_trans (by simp) (HO6.out.size)))
  have x0 := (hB7.cell (p := ⟨W.heap.size, 0, none⟩) (by simp)).trans (show _ = some (.int .u32 (c0 : Int)) by go_simp)
  have x1 := (hB7.cell (p := ⟨W.heap.size, 1, none⟩) (by simp)).trans (show _ = some (.int .u32 (c1 : Int)) by go_simp)
  have hN : W.heap.size + 1 < r := by have := HO6.out.size; simp at this; omega
  have H7 := Lib.hid hB7
  have hlt7 := hr.lt
  have z7 : W.heap.size + 1 < w7.heap.size := by omega
  -- the reader's steps
  have hu1 := u32_any r (be4 c0 ++ ([octet.byteOf a] ++ (be2 b ++ ([octet.byteOf 4] ++ be4 c1)))) false w7 hr
  obtain ⟨e1, e2, e3⟩ := rd_app (be4 c0) ([octet.byteOf a] ++ (be2 b ++ ([octet.byteOf 4] ++ be4 c1))) 4 rfl
  rw [e1, e2, e3, num_be4 _ (by omega) (by omega)] at hu1
  have HU1 := Lib.hid hu1
  clear hu1 e1 e2 e3 hr hb7 hB7 HN q0 q1
  go_wp2_with fail
  refine HU1.out.mono ?_; rintro e w8 ⟨rfl, hr8, hg8⟩
  have hu2 := u8_any r ([octet.byteOf a] ++ (be2 b ++ ([octet.byteOf 4] ++ be4 c1))) false w8 hr8
  obtain ⟨e1, e2, e3⟩ := rd_app [octet.byteOf a] (be2 b ++ ([octet.byteOf 4] ++ be4 c1)) 1 rfl
  rw [e1, e2, e3, num_be1 _ (by omega) (by omega)] at hu2
  have HU2 := Lib.hid hu2
  have HG8 := Lib.hid hg8
  clear hu2 e1 e2 e3 hr8 hg8 HU1
  go_wp2_with fail
  refine HU2.out.mono ?_; rintro e w9 ⟨rfl, hr9, hg9⟩
  have hu3 := u16_any r (be2 b ++ ([octet.byteOf 4] ++ be4 c1)) false w9 hr9
  obtain ⟨e1, e2, e3⟩ := rd_app (be2 b) ([octet.byteOf 4] ++ be4 c1) 2 rfl
  rw [e1, e2, e3, num_be2 _ (by omega) (by omega)] at hu3
  have HU3 := Lib.hid hu3
  have HG9 := Lib.hid (grown_trans HG8.out hg9)
  clear hu3 e1 e2 e3 hr9 hg9 HU2
  go_wp2_with fail
  refine HU3.out.mono ?_; rintro e w10 ⟨rfl, hr10, hg10⟩
  have hu4 := u8_any r ([octet.byteOf 4] ++ be4 c1) false w10 hr10
  obtain ⟨e1, e2, e3⟩ := rd_app [octet.byteOf 4] (be4 c1) 1 rfl
  rw [e1, e2, e3, num_be1 _ (by omega) (by omega)] at hu4
  have HU4 := Lib.hid hu4
  have HG10 := Lib.hid (grown_trans HG9.out hg10)
  clear hu4 e1 e2 e3 hr10 hg10 HU3
  go_wp2_with fail
  refine HU4.out.mono ?_; rintro e w11 ⟨rfl, hr11, hg11⟩
  have hu5 := Part_any r (be4 c1) false 4 w11 (by simp [be4]) hr11
  obtain ⟨e1, e2, e3⟩ := rd_app (be4 c1) [] 4 rfl
  rw [List.append_nil] at e1 e2 e3
  rw [e1, e2, e3] at hu5
  have HU5 := Lib.hid hu5
  have HG11 := Lib.hid (grown_trans HG10.out hg11)
  clear hu5 e1 e2 e3 hr11 hg11 HU4
  go_wp2_with fail
  refine HU5.out.mono ?_; rintro e w12 ⟨⟨p, rfl, hp0, hp⟩, hr12, hg12⟩
  have hg := grown_trans HG11.out hg12
  have y0 : w12.cell? ⟨W.heap.size, 0, none⟩ = some (.int .u32 (c0 : Int)) := hg.cell x0 (by intro e; simp at e; omega)
  have y1 : w12.cell? ⟨W.heap.size, 1, none⟩ = some (.int .u32 (c1 : Int)) := hg.cell x1 (by intro e; simp at e; omega)
  have hpr : r < p := Nat.lt_of_lt_of_le hlt7 (Nat.le_trans HG11.out.size hp0)
  have H12 := Lib.hid (H7.out.trans (below_grown hg (by omega) (fun g h => by cases h; omega)))
  have hNp : W.heap.size < p := by omega
  have z12 : W.heap.size + 1 < w12.heap.size := Nat.lt_of_lt_of_le z7 hg.size
  have hNp1 : W.heap.size + 1 ≤ p := by omega
  have HU6 : Hid (∀ w, Rdr w p (be4 c1) false → Calls Try.prog 22 #[.pointer (some ⟨p, 0, none⟩)] w fun e w' => e = .returned (.int .u32 (c1 : Int)) ∧ Rdr w' p [] false ∧ w.grownBy w' (some p)) := by
    intro w hp
    have hu6 := u32_any p (be4 c1) false w hp
    obtain ⟨e1, e2, e3⟩ := rd_app (be4 c1) [] 4 rfl
    rw [List.append_nil] at e1 e2 e3
    rw [e1, e2, e3, num_be4 _ (by omega) (by omega)] at hu6
    exact hu6
  have e0 : (!true) = false := rfl
  rw [e0] at hr12 hp
  have HP12 := Lib.hid hp
  have HR12 := Lib.hid hr12
  clear e0 hr12 hp hg hg12 HU5 x0 x1
  go_wp2_with fail
  have wa1 : IntKind.i64.wrap (a : Int) = a := IntWalk.i64_in _ (by omega)
  have wb1 : IntKind.i64.wrap (b : Int) = b := IntWalk.i64_in _ (by omega)
  have wa2 : wrap64 (a : Int) = a := IntWalk.wrap64_in _ ⟨by omega, by omega⟩
  have wb2 : wrap64 (b : Int) = b := IntWalk.wrap64_in _ ⟨by omega, by omega⟩
  go_region_held3 (fun w' => w'.cell? ⟨W.heap.size, 0, none⟩ = some (.int .u32 (c0 : Int)) ∧ w'.cell? ⟨W.heap.size, 1, none⟩ = some (.int .u32 (c1 : Int))) (first | exact ⟨y0, y1⟩ | exact ⟨v0, v1⟩ | exact ⟨u0, u1⟩) (first
    | (go_at_call 22; refine (HU6.out _ (by exact HP12.out)).mono ?_; rintro e w13 ⟨rfl, hp13, hg13'⟩; go_must (have hg13 : w12.grownBy w13 (some p) := ⟨hg13'.os, hg13'.tape, hg13'.output, hg13'.size, hg13'.block⟩); go_must (have v0 := hg13.cell y0 (ne_some (a := W.heap.size) (b := p) (Nat.ne_of_lt hNp))); go_must (have v1 := hg13.cell y1 (ne_some (a := W.heap.size) (b := p) (Nat.ne_of_lt hNp))); go_must (have HP13 := Lib.hid hp13); go_must (have HR13 := Lib.hid (HR12.out.grown hg13 hpr)); go_must (have H13 := Lib.hid (H12.out.trans (below_grown hg13 (Nat.le_of_lt z12) (fun g h => by cases h; exact hNp1)))); clear hp13 hg13 hg13')
    | (go_at_call 26; refine (Left_any r [] false _ (by exact HR13.out)).mono ?_; rintro e w' ⟨rfl, rfl⟩)
    | (go_at_call_of 25 (Value.pointer (some ⟨r, 0, none⟩)); refine (Bad_any r [] false _ (by exact HR13.out)).mono ?_; rintro e w' ⟨rfl, rfl⟩)
    | (go_at_call_of 25 (Value.pointer (some ⟨p, 0, none⟩)); refine (Bad_any p [] false _ (by exact HP13.out)).mono ?_; rintro e w' ⟨rfl, rfl⟩)
    | (go_at_call 28; refine (lives_any _).mono ?_; rintro e w14 ⟨rfl, hb14'⟩; go_must (have hb14 : Below w13.heap.size w13 w14 := ⟨hb14'.os, hb14'.tape, hb14'.output, hb14'.size, hb14'.block⟩); go_must (have u0 := (hb14.cell (p := ⟨W.heap.size, 0, none⟩) (World.block_lt_of_cell? w13 ⟨W.heap.size, 0, none⟩ v0)).trans v0); go_must (have u1 := (hb14.cell (p := ⟨W.heap.size, 1, none⟩) (World.block_lt_of_cell? w13 ⟨W.heap.size, 1, none⟩ v1)).trans v1); go_must (have H14 := Lib.hid (H13.out.trans (hb14.mono (Nat.succ_le_of_lt (World.block_lt_of_cell? w13 ⟨W.heap.size, 0, none⟩ v0))))); clear hb14 hb14'))
  go_wp2_with fail
  go_ret
  exact ⟨rfl, (Go.Joins.below_alloc2 W _ _).trans (H14.out.mono (by omega))⟩

set_option maxRecDepth 100000 in
theorem walk {H : Type} {enc : TypeId × Value → H} {W : World} {base : Nat} {v2 : Value} {d2 : DataW H} {p2 : List MemPlace} (a0 : Int) (w0 : (Lit.int .u8 a0).wf = true) (a1 : Int) (w1 : (Lit.int .u16 a1).wf = true)
    (hv2 : Value.okWide Try.prog W .any base 41 v2) (h2 : DataW.Trod enc Try.prog W 0 (fun _ => true) true 41 v2 d2 p2) :
    Calls Try.prog 5 #[.int .u8 a0, .int .u16 a1, v2] W fun e w' => e = .returned (.bool true) ∧ Below W.heap.size W w' := by
  obtain ⟨x, y, rfl, wx, wy⟩ := open_arr2 Try.underlying41 Try.underlying33 (by kernel_rfl) (by kernel_rfl) hv2 h2
  have b0 := wf_u8 w0
  have b1 := wf_u16 w1
  have bx := wf_u32 wx
  have bY := wf_u32 wy
  obtain ⟨a, rfl⟩ := Int.eq_ofNat_of_zero_le b0.1
  obtain ⟨b, rfl⟩ := Int.eq_ofNat_of_zero_le b1.1
  obtain ⟨c0, rfl⟩ := Int.eq_ofNat_of_zero_le bx.1
  obtain ⟨c1, rfl⟩ := Int.eq_ofNat_of_zero_le bY.1
  exact core a b c0 c1 (by omega) (by omega) (by omega) (by omega) W

end Go.Proofs.Ytajilbapjpfloaa.octetBack
