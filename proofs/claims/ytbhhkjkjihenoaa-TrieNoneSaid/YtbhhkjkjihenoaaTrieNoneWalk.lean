/- The walk of the law TrieNone: the Go text returns true and writes nothing that was there. No condition. -/
import Derived.Test.YtbhhkjkjihenoaaTrieLives
import Derived.Test.YtbhhkjkjihenoaaTrieArgs
namespace Go.Proofs.Ytbhhkjkjihenoaa.trieNone
open Go.RowKit Go.Proofs.Ytbhhkjkjihenoaa.kit Go.Proofs.Ytbhhkjkjihenoaa.mem Go.Proofs.Ytbhhkjkjihenoaa.foot Go.Proofs.Ytbhhkjkjihenoaa.pfx Go.Proofs.Ytbhhkjkjihenoaa.tri
set_option linter.unusedVariables false
set_option linter.unusedSimpArgs false

set_option maxRecDepth 100000 in
set_option maxHeartbeats 2000000 in
theorem core (a : Nat) (n : Int) (x : Nat) (ha : a < 4294967296) (hx : x < 4294967296) (W : World) :
    Calls Try.prog 7 #[.agg #[.int .u32 a, .int .i64 n], .int .u32 x] W fun e w' => e = .returned (.bool true) ∧ Below W.heap.size W w' := by
  have HB0 : Hid (Below W.heap.size W (W.alloc (.cells #[.int .u32 (a : Int), .int .i64 n] 30))) := (Below.refl _ _).alloc (Nat.le_refl _) _
  have K0 := Lib.hid (Bk.new W 30 #[.int .u32 (a : Int), .int .i64 n])
  have HGn := Lib.hid (fun w => Get_none none a n w (find_nil a n))
  have HCn := Lib.hid (fun w => Cut_none none a n w (find_nil a n))
  go_enter Try.func7, Try.ntmps7
  go_wp2_with fail
  refine (Put_nil a n 5 _).mono ?_; rintro e w1 ⟨rfl, hb⟩
  have k1 := K0.out.below hb K0.out.lt
  have q0 := k1.cell 0
  have q1 := k1.cell 1
  simp at q0 q1
  have K1 := Lib.hid k1
  have HB1 := Lib.hid (HB0.out.trans (hb.mono HB0.out.size))
  clear k1 hb K0 HB0
  go_wp2_with fail
  refine (HGn.out _).mono ?_; rintro e w2 ⟨rfl, hb⟩
  have k1 := K1.out.below hb K1.out.lt
  have q0 := k1.cell 0
  have q1 := k1.cell 1
  simp at q0 q1
  have K2 := Lib.hid k1
  have HB2 := Lib.hid (HB1.out.trans (hb.mono HB1.out.size))
  clear k1 hb K1 HB1
  go_wp2_with fail
  refine (HCn.out _).mono ?_; rintro e w3 ⟨rfl, hb⟩
  have k1 := K2.out.below hb K2.out.lt
  have K3 := Lib.hid k1
  have HB3 := Lib.hid (HB2.out.trans (hb.mono HB2.out.size))
  clear k1 hb K2 HB2 q0 q1
  go_wp2_with fail
  refine (Longest_nil x _).mono ?_; rintro e w4 ⟨rfl, hb⟩
  have hb' : Below w3.heap.size w3 (w4.alloc (.cells #[.int .u32 0, .int .i64 0] 30)) := hb.alloc hb.size _
  have k1 := K3.out.below hb' K3.out.lt
  have q0 := k1.cell 0
  have q1 := k1.cell 1
  simp at q0 q1
  have K4 := Lib.hid k1
  have HB4 := Lib.hid (HB3.out.trans (hb'.mono HB3.out.size))
  clear k1 hb hb' K3 HB3
  go_wp2_with fail
  refine (above_nil a n _).mono ?_; rintro e w5 ⟨A5, c5, rfl, hN⟩
  have k1 := K4.out.below hN.bel K4.out.lt
  have q0 := k1.cell 0
  have q1 := k1.cell 1
  simp at q0 q1
  have K5 := Lib.hid k1
  have HB5 := Lib.hid (HB4.out.trans (hN.bel.mono HB4.out.size))
  clear k1 hN K4 HB4
  go_wp2_with fail
  refine (Below_nil a n _).mono ?_; rintro e w6 ⟨A6, c6, rfl, hN⟩
  have k1 := K5.out.below hN.bel K5.out.lt
  have K6 := Lib.hid k1
  have HB6 := Lib.hid (HB5.out.trans (hN.bel.mono HB5.out.size))
  clear k1 hN K5 HB5 q0 q1
  go_wp2_with fail
  refine (All_nil _).mono ?_; rintro e w7 ⟨A7, c7, rfl, hN⟩
  have k1 := K6.out.below hN.bel K6.out.lt
  have q0 := k1.cell 0
  have q1 := k1.cell 1
  simp at q0 q1
  have HB7 := Lib.hid (HB6.out.trans (hN.bel.mono HB6.out.size))
  clear k1 hN K6 HB6
  go_wp2_with (go_at_call 32; refine (Len_nil _).mono ?_; rintro e w' ⟨rfl, rfl⟩)
  refine (Count_nil a n _).mono ?_; rintro e w8 ⟨rfl, hb⟩
  have HB8 := Lib.hid (HB7.out.trans (hb.mono HB7.out.size))
  clear hb HB7 q0 q1
  go_wp2_with fail
  refine (Nodes_nil _).mono ?_; rintro e w9 ⟨rfl, hb⟩
  have HB9 := Lib.hid (HB8.out.trans (hb.mono HB8.out.size))
  clear hb HB8
  go_wp2_with (go_at_call 16; refine (Check_nil _).mono ?_; rintro e w' ⟨rfl, rfl⟩)
  refine (tri.lives_any _).mono ?_; rintro e w10 ⟨rfl, hb⟩
  have HB10 := Lib.hid (HB9.out.trans (hb.mono HB9.out.size))
  clear hb HB9
  go_wp2_with fail
  go_ret
  exact ⟨rfl, HB10.out⟩
set_option maxRecDepth 100000 in
theorem walk {H : Type} {enc : TypeId × Value → H} {W : World} {base : Nat} {v0 : Value} {d0 : DataW H} {p0 : List MemPlace}
    (hv0 : Value.okWide Try.prog W .any base 30 v0) (h0 : DataW.Trod enc Try.prog W 0 (fun _ => true) true 30 v0 d0 p0) (a1 : Int) (w1 : (Lit.int .u32 a1).wf = true) :
    Calls Try.prog 7 #[v0, .int .u32 a1] W fun e w' => e = .returned (.bool true) ∧ Below W.heap.size W w' := by
  obtain ⟨cs0, s, rfl, hs⟩ := open_st Try.underlying30 opens_pfx hv0 h0
  obtain ⟨a, ha, _, hcs, _⟩ := pfx_eq hs
  obtain rfl := arr_eq hcs
  have hx := kit.wf_u32 w1
  obtain ⟨x, rfl⟩ := Int.eq_ofNat_of_zero_le hx.1
  exact core a s.2 x ha (by omega) W
end Go.Proofs.Ytbhhkjkjihenoaa.trieNone
