/- The walk of the law OpenJudges: the Go text returns true and writes nothing that was there. No condition. -/
import Derived.Test.YtajilbapjpfloaaOpenJudge
import Derived.Deep.RegionHeld3
namespace Go.Proofs.Ytajilbapjpfloaa.openJudges
open Go.RowKit Go.Proofs.Ytajilbapjpfloaa.kit Go.Proofs.Ytajilbapjpfloaa.mem Go.Proofs.Ytajilbapjpfloaa.octet Go.Proofs.Ytajilbapjpfloaa.openk
set_option linter.unusedVariables false

set_option maxRecDepth 100000 in
set_option maxHeartbeats 4000000 in
theorem core (n hold id : Int) (four : Bool) (a own : Nat) (ha : a ≤ 4294967295) (W : World) :
    Calls Try.prog 6 #[.agg #[.int .u32 n, .int .i64 hold, .int .u32 id, .bool four], .int .u32 a, .int .u32 own] W fun e w' => e = .returned (.bool true) ∧ Below W.heap.size W w' := by
  have HA := Lib.hid (((Below.refl W.heap.size W).alloc (Nat.le_refl _) (.cells #[.int .u32 n, .int .i64 hold, .int .u32 id, .bool four] 52)).drew)
  have hk := Bk.new W 52 #[.int .u32 n, .int .i64 hold, .int .u32 id, .bool four]
  have q0 := hk.cell 0
  have q1 := hk.cell 1
  have q2 := hk.cell 2
  have q3 := hk.cell 3
  simp at q0 q1 q2 q3
  have HK : Hid (Bk ((W.alloc (.cells #[.int .u32 n, .int .i64 hold, .int .u32 id, .bool four] 52)).drew) W.heap.size 52 #[.int .u32 n, .int .i64 hold, .int .u32 id, .bool four]) := hk
  clear hk
  go_enter Try.func6, Try.ntmps6
  go_wp2_with fail
  go_region_held3 (fun w' => w'.cell? ⟨W.heap.size, 0, none⟩ = some (.int .u32 n) ∧ w'.cell? ⟨W.heap.size, 1, none⟩ = some (.int .i64 hold) ∧ w'.cell? ⟨W.heap.size, 2, none⟩ = some (.int .u32 id) ∧ w'.cell? ⟨W.heap.size, 3, none⟩ = some (.bool four)) (first | exact ⟨(HK.out.cell 0).trans rfl, (HK.out.cell 1).trans rfl, (HK.out.cell 2).trans rfl, (HK.out.cell 3).trans rfl⟩) (first
    | (go_at_call 36; refine (Judge_any n hold id four a own ⟨by omega, by omega⟩ _).mono ?_; rintro e w1 ⟨A1, c1, rfl, a1, s1, b1⟩; have HK := Lib.hid (HK.out.below b1 HK.out.lt); have HA := Lib.hid (HA.out.trans (b1.mono HA.out.size)); have HS := Lib.hid s1; clear a1 s1 b1)
    | (go_at_call 37; refine (refJudge_any n hold id four a own ha _).mono ?_; rintro e w2 ⟨A2, c2, rfl, a2, s2, b2⟩; have HK := Lib.hid (HK.out.below b2 HK.out.lt); have HA := Lib.hid (HA.out.trans (b2.mono HA.out.size)); have HS2 := Lib.hid s2; have HS := Lib.hid ((HS.out.below b2 (Nat.le_refl _)).more b2.size); clear a2 s2 b2)
    | (go_at_call 35; refine (Told_yes _ _ _ A1 A2 c1 c2 w2.heap.size w2.heap.size _ (Nat.le_refl _) (Nat.le_refl _) HS.out HS2.out).mono ?_; rintro e w3 ⟨rfl, b3⟩; have HK := Lib.hid (HK.out.below b3 HK.out.lt); have HA := Lib.hid (HA.out.trans (b3.mono HA.out.size)); clear b3)
    | (go_at_call 16; refine (openk.lives_any _).mono ?_; rintro e w4 ⟨rfl, b4⟩; have HK := Lib.hid (HK.out.below b4 HK.out.lt); have HA := Lib.hid (HA.out.trans (b4.mono HA.out.size)); clear b4))
  go_wp2_with fail
  go_ret
  exact ⟨rfl, HA.out⟩
set_option maxRecDepth 100000 in
theorem walk {H : Type} {enc : TypeId × Value → H} {W : World} {base : Nat} {v0 : Value} {d0 : DataW H} {p0 : List MemPlace}
    (hv0 : Value.okWide Try.prog W .any base 52 v0) (h0 : DataW.Trod enc Try.prog W 0 (fun _ => true) true 52 v0 d0 p0) (a1 : Int) (w1 : (Lit.int .u32 a1).wf = true) (a2 : Int) (w2 : (Lit.int .u32 a2).wf = true) :
    Calls Try.prog 6 #[v0, .int .u32 a1, .int .u32 a2] W fun e w' => e = .returned (.bool true) ∧ Below W.heap.size W w' := by
  obtain ⟨c0, c1, c2, c3, y0, y1, y2, y3, m, rfl, rfl, rfl, hy0, hy1, hy2, hy3⟩ := Go.Joins.open_agg4 Try.underlying52 (by kernel_rfl) (by kernel_rfl) hv0 h0
  obtain ⟨n, e0, _, wn⟩ := DataW.trod_int Try.underlying33 hy0
  obtain ⟨hold, e1, _, _⟩ := DataW.trod_int Try.underlying3 hy1
  obtain ⟨id, e2, _, _⟩ := DataW.trod_int Try.underlying33 hy2
  obtain ⟨four, e3, _⟩ := DataW.trod_bool Try.underlying4 hy3
  simp at e0 e1 e2 e3
  subst e0 e1 e2 e3
  have b1 := wf_u32 w1
  have b2 := wf_u32 w2
  obtain ⟨a, rfl⟩ := Int.eq_ofNat_of_zero_le b1.1
  obtain ⟨own, rfl⟩ := Int.eq_ofNat_of_zero_le b2.1
  exact core n hold id four a own (by omega) W
end Go.Proofs.Ytajilbapjpfloaa.openJudges
