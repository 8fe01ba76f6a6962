/- The walk of the law CollideStays: the Go text returns true and writes nothing that was there. No condition. -/
import Derived.Test.YtbhhkjkjihenoaaCollide
namespace Go.Proofs.Ytbhhkjkjihenoaa.collideStays
open Go.RowKit Go.Proofs.Ytbhhkjkjihenoaa.kit Go.Proofs.Ytbhhkjkjihenoaa.mem Go.Proofs.Ytbhhkjkjihenoaa.foot Go.Proofs.Ytbhhkjkjihenoaa.collide
set_option linter.unusedVariables false
set_option linter.unusedSimpArgs false

set_option maxRecDepth 100000 in
set_option maxHeartbeats 1000000 in
theorem core (s0 s1 s2 s3 s4 : Int) (s5 : Bool) (f0 f1 f2 f3 f4 p0 p1 p2 : Int) (p3 ours : Bool) (o0 o1 o2 : Int) (o3 : Bool) (W : World) :
    Calls Try.prog 8 #[.agg #[.int .u32 s0, .int .u32 s1, .int .u32 s2, .int .i64 s3, .int .i64 s4, .bool s5], .agg #[.int .i64 f0, .int .i64 f1, .int .i64 f2, .int .i64 f3, .int .i64 f4, .int .u32 p0, .int .i64 p1, .int .u32 p2, .bool p3], .agg #[.bool ours, .int .u32 o0, .int .i64 o1, .int .u32 o2, .bool o3]] W fun e w' => e = .returned (.bool true) ∧ Below W.heap.size W w' := by
  have HR := Lib.hid (Rival_est s0 s1 s2 s3 s4 s5 f1 f2 f3 f4 p0 p1 p2 p3 ours o0 o1 o2 o3)
  have HT := Lib.hid (Turn_est s0 s1 s2 s3 s4 s5 f1 f2 f3 f4 p0 p1 p2 p3 ours o0 o1 o2 o3)
  have HK0 := Lib.hid (allocs_at [.cells #[.int .u32 s0, .int .u32 s1, .int .u32 s2, .int .i64 s3, .int .i64 s4, .bool s5] 53, .cells #[.int .i64 5, .int .i64 f1, .int .i64 f2, .int .i64 f3, .int .i64 f4, .int .u32 p0, .int .i64 p1, .int .u32 p2, .bool p3] 70, .cells #[.bool ours, .int .u32 o0, .int .i64 o1, .int .u32 o2, .bool o3] 82] W 0 _ _ rfl)
  have HK1 := Lib.hid (allocs_at [.cells #[.int .u32 s0, .int .u32 s1, .int .u32 s2, .int .i64 s3, .int .i64 s4, .bool s5] 53, .cells #[.int .i64 5, .int .i64 f1, .int .i64 f2, .int .i64 f3, .int .i64 f4, .int .u32 p0, .int .i64 p1, .int .u32 p2, .bool p3] 70, .cells #[.bool ours, .int .u32 o0, .int .i64 o1, .int .u32 o2, .bool o3] 82] W 1 _ _ rfl)
  have HK2 := Lib.hid (allocs_at [.cells #[.int .u32 s0, .int .u32 s1, .int .u32 s2, .int .i64 s3, .int .i64 s4, .bool s5] 53, .cells #[.int .i64 5, .int .i64 f1, .int .i64 f2, .int .i64 f3, .int .i64 f4, .int .u32 p0, .int .i64 p1, .int .u32 p2, .bool p3] 70, .cells #[.bool ours, .int .u32 o0, .int .i64 o1, .int .u32 o2, .bool o3] 82] W 2 _ _ rfl)
  have HB0 := Lib.hid (allocs_below [.cells #[.int .u32 s0, .int .u32 s1, .int .u32 s2, .int .i64 s3, .int .i64 s4, .bool s5] 53, .cells #[.int .i64 5, .int .i64 f1, .int .i64 f2, .int .i64 f3, .int .i64 f4, .int .u32 p0, .int .i64 p1, .int .u32 p2, .bool p3] 70, .cells #[.bool ours, .int .u32 o0, .int .i64 o1, .int .u32 o2, .bool o3] 82] W)
  go_enter Try.func8, Try.ntmps8
  go_wp2_with fail
  refine (HR.out _).mono ?_; rintro e w1 ⟨rfl, hb1⟩
  have hk0 : Bk w1 W.heap.size 53 _ := HK0.out.below hb1 HK0.out.lt
  have hk1 : Bk w1 (W.heap.size + 1) 70 _ := HK1.out.below hb1 HK1.out.lt
  have hk2 : Bk w1 (W.heap.size + 1 + 1) 82 _ := HK2.out.below hb1 HK2.out.lt
  have HB1 := Lib.hid (HB0.out.trans (hb1.mono HB0.out.size))
  have H1 := Lib.hid hk1
  have qa := fun i => hk0.cell i
  have qb := fun i => hk1.cell i
  have qc := fun i => hk2.cell i
  have l0 := hk0.lt
  have l1 := hk1.lt
  have l2 := hk2.lt
  clear hb1 hk0 hk1 hk2 HK0 HK1 HK2 HB0 HR
  go_wp2_with fail
  refine (HT.out _).mono ?_; rintro e w2 ⟨rfl, hb2⟩
  have hbN : Below w1.heap.size w1 (w1.alloc (.cells #[.int .i64 6, .int .i64 7, .slice none 0 0] 64)) := (Below.refl _ _).alloc (Nat.le_refl _) _
  have hk1 := H1.out.below (hbN.trans (hb2.mono hbN.size)) H1.out.lt
  have HB2 := Lib.hid (HB1.out.trans ((hbN.trans (hb2.mono hbN.size)).mono HB1.out.size))
  clear qa qb qc
  have qb := fun i => hk1.cell i
  have l1 : W.heap.size + 1 < w2.heap.size := hk1.lt
  have l1b : W.heap.size + 1 < w2.heap.size + 1 := by omega
  clear hb2 hbN hk1 H1 HT
  go_wp2_with fail
  refine (lives_any _).mono ?_; rintro e w' ⟨rfl, rfl⟩
  go_wp2_with fail
  go_ret
  exact ⟨rfl, (HB2.out.alloc HB2.out.size _).alloc (by have := HB2.out.size; simp; omega) _⟩

set_option maxRecDepth 100000 in
theorem walk {H : Type} {enc : TypeId × Value → H} {W : World} {base : Nat} {v0 v1 v2 : Value} {d0 d1 d2 : DataW H} {p0 p1 p2 : List MemPlace}
    (hv0 : Value.okWide Try.prog W .any base 53 v0) (h0 : DataW.Trod enc Try.prog W 0 (fun _ => true) true 53 v0 d0 p0)
    (hv1 : Value.okWide Try.prog W .any base 70 v1) (h1 : DataW.Trod enc Try.prog W 0 (fun _ => true) true 70 v1 d1 p1)
    (hv2 : Value.okWide Try.prog W .any base 82 v2) (h2 : DataW.Trod enc Try.prog W 0 (fun _ => true) true 82 v2 d2 p2) :
    Calls Try.prog 8 #[v0, v1, v2] W fun e w' => e = .returned (.bool true) ∧ Below W.heap.size W w' := by
  obtain ⟨cs0, s, rfl, hs⟩ := open_st Try.underlying53 opens_side hv0 h0
  obtain ⟨cs1, f, rfl, hf⟩ := open_st Try.underlying70 opens_fsm hv1 h1
  obtain ⟨cs2, x, rfl, hx⟩ := open_st Try.underlying82 (opens_other) hv2 h2
  obtain ⟨s0, s1, s2, s3, s4, s5⟩ := s
  obtain ⟨f0, f1, f2, f3, f4, p0, p1, p2, p3⟩ := f
  obtain ⟨ours, o0, o1, o2, o3⟩ := x
  obtain rfl := arr_eq (side_eq hs).1
  obtain rfl := arr_eq (fsm_eq hf).1
  obtain rfl := arr_eq (other_eq hx).1
  exact core s0 s1 s2 s3 s4 s5 f0 f1 f2 f3 f4 p0 p1 p2 p3 ours o0 o1 o2 o3 W
end Go.Proofs.Ytbhhkjkjihenoaa.collideStays
