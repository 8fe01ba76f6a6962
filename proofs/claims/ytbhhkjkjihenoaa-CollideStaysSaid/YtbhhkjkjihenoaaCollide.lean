/- Sides, states and Opens as arguments; what collide's keeps, rival, Rival and notice.Close return. No condition. -/
import Derived.Test.YtbhhkjkjihenoaaRows
import Derived.Test.YtbhhkjkjihenoaaStruct
import Derived.WalkLawsBesides
import Derived.WalkSpells
namespace Go.Proofs.Ytbhhkjkjihenoaa.collide
open Go.RowKit Go.Proofs.Ytbhhkjkjihenoaa.kit Go.Proofs.Ytbhhkjkjihenoaa.mem Go.Proofs.Ytbhhkjkjihenoaa.foot
set_option linter.unusedVariables false
set_option linter.unusedSimpArgs false

abbrev ROpen : Rel (Int × Int × Int × Bool) := rPair (rInt .u32) (rPair (rInt .i64) (rPair (rInt .u32) rBool))
abbrev RSide : Rel (Int × Int × Int × Int × Int × Bool) := rPair (rInt .u32) (rPair (rInt .u32) (rPair (rInt .u32) (rPair (rInt .i64) (rPair (rInt .i64) rBool))))
abbrev RFsm : Rel (Int × Int × Int × Int × Int × Int × Int × Int × Bool) := rPair (rInt .i64) (rPair (rInt .i64) (rPair (rInt .i64) (rPair (rInt .i64) (rPair (rInt .i64) ROpen))))
section
variable {H : Type} {enc : TypeId × Value → H} {w : World} {base : Nat} {held : Bool}
set_option maxRecDepth 100000 in
theorem opens_open : Opens enc Try.prog w base held 55 ROpen :=
  opens_struct Try.underlying55 (by kernel_rfl) (opensF_cons (o' := 1) rfl (by kernel_rfl) (opens_int Try.underlying28) (opensF_cons (o' := 2) rfl (by kernel_rfl) (opens_int Try.underlying3) (opensF_cons (o' := 3) rfl (by kernel_rfl) (opens_int Try.underlying28) (opensF_last rfl (opens_bool Try.underlying4)))))
set_option maxRecDepth 100000 in
theorem opens_side : Opens enc Try.prog w base held 53 RSide :=
  opens_struct Try.underlying53 (by kernel_rfl) (opensF_cons (o' := 1) rfl (by kernel_rfl) (opens_int Try.underlying28) (opensF_cons (o' := 2) rfl (by kernel_rfl) (opens_int Try.underlying28) (opensF_cons (o' := 3) rfl (by kernel_rfl) (opens_int Try.underlying28) (opensF_cons (o' := 4) rfl (by kernel_rfl) (opens_int Try.underlying3) (opensF_cons (o' := 5) rfl (by kernel_rfl) (opens_int Try.underlying3) (opensF_last rfl (opens_bool Try.underlying4)))))))
set_option maxRecDepth 100000 in
theorem opens_fsm : Opens enc Try.prog w base held 70 RFsm :=
  opens_struct Try.underlying70 (by kernel_rfl) (opensF_cons (o' := 1) rfl (by kernel_rfl) (opens_int Try.underlying3) (opensF_cons (o' := 2) rfl (by kernel_rfl) (opens_int Try.underlying3) (opensF_cons (o' := 3) rfl (by kernel_rfl) (opens_int Try.underlying3) (opensF_cons (o' := 4) rfl (by kernel_rfl) (opens_int Try.underlying3) (opensF_cons (o' := 5) rfl (by kernel_rfl) (opens_int Try.underlying3) (opensF_last rfl opens_open))))))
end

/-- the cells of an Open, a side, a state, an Open on another link -/
theorem open_eq {w : World} {G : Foot} {cs : List Value} {o0 o1 o2 : Int} {o3 : Bool} (h : ROpen w G cs (o0, o1, o2, o3)) : cs = [.int .u32 o0, .int .i64 o1, .int .u32 o2, .bool o3] ∧ (Lit.int .u32 o0).wf = true ∧ (Lit.int .i64 o1).wf = true ∧ (Lit.int .u32 o2).wf = true := by
  obtain ⟨_, _, rfl, ⟨rfl, h0⟩, _, _, rfl, ⟨rfl, h1⟩, _, _, rfl, ⟨rfl, h2⟩, h3⟩ := h
  have h3 : _ = [Value.bool o3] := h3
  exact ⟨by rw [h3]; rfl, h0, h1, h2⟩
theorem side_eq {w : World} {G : Foot} {cs : List Value} {s0 s1 s2 s3 s4 : Int} {s5 : Bool} (h : RSide w G cs (s0, s1, s2, s3, s4, s5)) : cs = [.int .u32 s0, .int .u32 s1, .int .u32 s2, .int .i64 s3, .int .i64 s4, .bool s5] ∧ (Lit.int .u32 s0).wf = true ∧ (Lit.int .u32 s1).wf = true ∧ (Lit.int .u32 s2).wf = true ∧ (Lit.int .i64 s3).wf = true ∧ (Lit.int .i64 s4).wf = true := by
  obtain ⟨_, _, rfl, ⟨rfl, h0⟩, _, _, rfl, ⟨rfl, h1⟩, _, _, rfl, ⟨rfl, h2⟩, _, _, rfl, ⟨rfl, h3⟩, _, _, rfl, ⟨rfl, h4⟩, h5⟩ := h
  have h5 : _ = [Value.bool s5] := h5
  exact ⟨by rw [h5]; rfl, h0, h1, h2, h3, h4⟩
theorem fsm_eq {w : World} {G : Foot} {cs : List Value} {f0 f1 f2 f3 f4 p0 p1 p2 : Int} {p3 : Bool} (h : RFsm w G cs (f0, f1, f2, f3, f4, p0, p1, p2, p3)) : cs = [.int .i64 f0, .int .i64 f1, .int .i64 f2, .int .i64 f3, .int .i64 f4, .int .u32 p0, .int .i64 p1, .int .u32 p2, .bool p3] ∧
    (Lit.int .i64 f0).wf = true ∧ (Lit.int .i64 f1).wf = true ∧ (Lit.int .i64 f2).wf = true ∧ (Lit.int .i64 f3).wf = true ∧ (Lit.int .i64 f4).wf = true ∧ (Lit.int .u32 p0).wf = true ∧ (Lit.int .i64 p1).wf = true ∧ (Lit.int .u32 p2).wf = true := by
  obtain ⟨_, _, rfl, ⟨rfl, h0⟩, _, _, rfl, ⟨rfl, h1⟩, _, _, rfl, ⟨rfl, h2⟩, _, _, rfl, ⟨rfl, h3⟩, _, _, rfl, ⟨rfl, h4⟩, h5⟩ := h
  obtain ⟨rfl, g0, g1, g2⟩ := open_eq h5
  exact ⟨rfl, h0, h1, h2, h3, h4, g0, g1, g2⟩
abbrev ROther : Rel (Bool × Int × Int × Int × Bool) := rPair rBool ROpen
theorem other_eq {w : World} {G : Foot} {cs : List Value} {ours : Bool} {o0 o1 o2 : Int} {o3 : Bool} (h : ROther w G cs (ours, o0, o1, o2, o3)) : cs = [.bool ours, .int .u32 o0, .int .i64 o1, .int .u32 o2, .bool o3] ∧ (Lit.int .u32 o0).wf = true ∧ (Lit.int .i64 o1).wf = true ∧ (Lit.int .u32 o2).wf = true := by
  obtain ⟨c0, _, rfl, h0, h1⟩ := h
  have h0 : c0 = [Value.bool ours] := h0
  subst h0
  obtain ⟨rfl, g0, g1, g2⟩ := open_eq h1
  exact ⟨rfl, g0, g1, g2⟩
section
variable {H : Type} {enc : TypeId × Value → H} {w : World} {base : Nat} {held : Bool}
set_option maxRecDepth 100000 in
theorem opens_other : Opens enc Try.prog w base held 82 ROther :=
  opens_struct Try.underlying82 (by kernel_rfl) (opensF_cons (o' := 1) rfl (by kernel_rfl) (opens_bool Try.underlying4) (opensF_last rfl opens_open))
end

def kp (a b : Int) (o : Bool) : Bool := (a == b) || (o == decide (b < a))

theorem keeps_in (a b : Int) (o : Bool) (w : World) : Calls Try.prog 116 #[.int .u32 a, .int .u32 b, .bool o] w fun e w' => e = .returned (.bool (kp a b o)) ∧ w = w' := by
  rcases Int.lt_trichotomy a b with h | h | h
  · have e1 : (a == b) = false := by simp; omega
    have e2 : decide (b < a) = false := by simp; omega
    go_enter Try.func116, Try.ntmps116
    go_wp2
    go_ret
    exact ⟨by simp [kp, e1, e2], rfl⟩
  · subst h
    go_enter Try.func116, Try.ntmps116
    go_wp2
    go_ret
    exact ⟨by simp [kp], rfl⟩
  · have e1 : (a == b) = false := by simp; omega
    have e2 : decide (b < a) = true := by simp; omega
    go_enter Try.func116, Try.ntmps116
    go_wp2
    go_ret
    exact ⟨by simp [kp, e1, e2], rfl⟩

theorem keeps_any (a b : Int) (o : Bool) (w : World) : Calls Try.prog 88 #[.int .u32 a, .int .u32 b, .bool o] w fun e w' => e = .returned (.bool (kp a b o)) ∧ w = w' := by
  go_enter Try.func88, Try.ntmps88
  go_wp2_with (go_at_call 116; refine (keeps_in _ _ _ _).mono ?_; rintro e w' ⟨rfl, rfl⟩)
  go_ret
  exact ⟨rfl, rfl⟩

theorem lives_any (w : World) : Calls Try.prog 38 #[] w fun e w' => e = .returned (.bool true) ∧ w = w' := by
  go_enter Try.func38, Try.ntmps38
  go_wp2_with (go_at_call 88; refine (keeps_any _ _ _ _).mono ?_; rintro e w' ⟨rfl, rfl⟩)
  go_ret
  exact ⟨rfl, rfl⟩

theorem info_notice : (Try.prog.info? 64).map (·.size) = some 3 := by kernel_rfl
theorem Close_any (n : Int) (w : World) : Calls Try.prog 115 #[.int .i64 n] w fun e w' => e = .returned (.agg #[.int .i64 6, .int .i64 n, .slice none 0 0]) ∧ Below w.heap.size w w' := by
  go_enter Try.func115, Try.ntmps115
  go_wp2_with fail
  exact bodyPost_ret (results_cell_row rfl _ _ w.heap.size 64 _ (0, 0) _ rfl (Bk.new w _ _) Try.underlying64 rfl info_notice) rfl ⟨rfl, (Below.refl _ _).alloc (Nat.le_refl _) _⟩

/-- whether a session is dropped -/
def dropB (st own other : Int) (ours : Bool) : Bool := if st = 5 then false else if st = 3 ∨ st = 4 then !kp own other ours else true
/-- whether there is a link -/
def linkB (st : Int) : Bool := decide (3 ≤ st ∧ st ≤ 5)
/-- what is told -/
def noteV (st : Int) : Array Value := if linkB st = true then #[.int .i64 6, .int .i64 7, .slice none 0 0] else #[.int .i64 0, .int .i64 0, .slice none 0 0]

set_option maxRecDepth 100000 in
theorem rival_est (s0 s1 s2 s3 s4 : Int) (s5 : Bool) (f1 f2 f3 f4 p0 p1 p2 : Int) (p3 ours : Bool) (o0 o1 o2 : Int) (o3 : Bool) (w : World) :
    Calls Try.prog 86 #[.agg #[.int .u32 s0, .int .u32 s1, .int .u32 s2, .int .i64 s3, .int .i64 s4, .bool s5], .agg #[.int .i64 5, .int .i64 f1, .int .i64 f2, .int .i64 f3, .int .i64 f4, .int .u32 p0, .int .i64 p1, .int .u32 p2, .bool p3], .bool ours, .agg #[.int .u32 o0, .int .i64 o1, .int .u32 o2, .bool o3]] w
      fun e w' => e = .returned (.tuple #[.bool false, .agg #[.int .i64 6, .int .i64 7, .slice none 0 0]]) ∧ Below w.heap.size w w' := by
  go_enter Try.func86, Try.ntmps86
  go_wp2_with fail
  refine (Close_any 7 _).mono ?_; rintro e w1 ⟨rfl, hb⟩
  have hk0 := allocs_at [.cells #[.int .u32 s0, .int .u32 s1, .int .u32 s2, .int .i64 s3, .int .i64 s4, .bool s5] 53, .cells #[.int .i64 5, .int .i64 f1, .int .i64 f2, .int .i64 f3, .int .i64 f4, .int .u32 p0, .int .i64 p1, .int .u32 p2, .bool p3] 70, .cells #[.int .u32 o0, .int .i64 o1, .int .u32 o2, .bool o3] 55, .cells #[.int .i64 0, .int .i64 0, .slice none 0 0] 64] w 3 _ _ rfl
  have hb0 := allocs_below [.cells #[.int .u32 s0, .int .u32 s1, .int .u32 s2, .int .i64 s3, .int .i64 s4, .bool s5] 53, .cells #[.int .i64 5, .int .i64 f1, .int .i64 f2, .int .i64 f3, .int .i64 f4, .int .u32 p0, .int .i64 p1, .int .u32 p2, .bool p3] 70, .cells #[.int .u32 o0, .int .i64 o1, .int .u32 o2, .bool o3] 55, .cells #[.int .i64 0, .int .i64 0, .slice none 0 0] 64] w
  have hk1 : Bk w1 (w.heap.size + 1 + 1 + 1) 64 #[.int .i64 0, .int .i64 0, .slice none 0 0] := hk0.below hb hk0.lt
  have HB1 := Lib.hid (hb0.trans (hb.mono hb0.size))
  have HK1 := Lib.hid hk1
  have q0 := hk1.cell 0
  have q1 := hk1.cell 1
  have q2 := hk1.cell 2
  have qf := fun i => hk1.free i
  simp at q0 q1 q2
  clear hb hb0 hk0 hk1
  go_wp2_with fail
  exact bodyPost_ret (res_tc rfl _ _ (w.heap.size + 1 + 1 + 1) 64 (.bool false) _ (0, 0) _ rfl rfl (stores_all [.int .i64 6, .int .i64 7, .slice none 0 0] HK1.out rfl) Try.underlying64 rfl info_notice) rfl ⟨rfl, HB1.out.trans (stores_below (g := w.heap.size + 1 + 1 + 1) [.int .i64 6, .int .i64 7, .slice none 0 0] 0 (by omega) HB1.out.size)⟩

set_option maxRecDepth 100000 in
theorem Rival_est (s0 s1 s2 s3 s4 : Int) (s5 : Bool) (f1 f2 f3 f4 p0 p1 p2 : Int) (p3 ours : Bool) (o0 o1 o2 : Int) (o3 : Bool) (w : World) :
    Calls Try.prog 36 #[.agg #[.int .u32 s0, .int .u32 s1, .int .u32 s2, .int .i64 s3, .int .i64 s4, .bool s5], .agg #[.int .i64 5, .int .i64 f1, .int .i64 f2, .int .i64 f3, .int .i64 f4, .int .u32 p0, .int .i64 p1, .int .u32 p2, .bool p3], .bool ours, .agg #[.int .u32 o0, .int .i64 o1, .int .u32 o2, .bool o3]] w
      fun e w' => e = .returned (.tuple #[.bool false, .agg #[.int .i64 6, .int .i64 7, .slice none 0 0]]) ∧ Below w.heap.size w w' := by
  have HR := Lib.hid (rival_est s0 s1 s2 s3 s4 s5 f1 f2 f3 f4 p0 p1 p2 p3 ours o0 o1 o2 o3)
  go_enter Try.func36, Try.ntmps36
  go_wp2_with fail
  refine (HR.out _).mono ?_; rintro e w1 ⟨rfl, hb⟩
  have hk0 := allocs_at [.cells #[.int .u32 s0, .int .u32 s1, .int .u32 s2, .int .i64 s3, .int .i64 s4, .bool s5] 53, .cells #[.int .i64 5, .int .i64 f1, .int .i64 f2, .int .i64 f3, .int .i64 f4, .int .u32 p0, .int .i64 p1, .int .u32 p2, .bool p3] 70, .cells #[.int .u32 o0, .int .i64 o1, .int .u32 o2, .bool o3] 55, .cells #[.int .i64 0, .int .i64 0, .slice none 0 0] 64] w 3 _ _ rfl
  have hb0 := allocs_below [.cells #[.int .u32 s0, .int .u32 s1, .int .u32 s2, .int .i64 s3, .int .i64 s4, .bool s5] 53, .cells #[.int .i64 5, .int .i64 f1, .int .i64 f2, .int .i64 f3, .int .i64 f4, .int .u32 p0, .int .i64 p1, .int .u32 p2, .bool p3] 70, .cells #[.int .u32 o0, .int .i64 o1, .int .u32 o2, .bool o3] 55, .cells #[.int .i64 0, .int .i64 0, .slice none 0 0] 64] w
  have hk1 : Bk w1 (w.heap.size + 1 + 1 + 1) 64 #[.int .i64 0, .int .i64 0, .slice none 0 0] := hk0.below hb hk0.lt
  have HB1 := Lib.hid (hb0.trans (hb.mono hb0.size))
  have HK1 := Lib.hid hk1
  have q0 := hk1.cell 0
  have q1 := hk1.cell 1
  have q2 := hk1.cell 2
  have qf := fun i => hk1.free i
  simp at q0 q1 q2
  clear hb hb0 hk0 hk1
  go_wp2_with fail
  exact bodyPost_ret (res_tc rfl _ _ (w.heap.size + 1 + 1 + 1) 64 (.bool false) _ (0, 0) _ rfl rfl (stores_all [.int .i64 6, .int .i64 7, .slice none 0 0] HK1.out rfl) Try.underlying64 rfl info_notice) rfl ⟨rfl, HB1.out.trans (stores_below (g := w.heap.size + 1 + 1 + 1) [.int .i64 6, .int .i64 7, .slice none 0 0] 0 (by omega) HB1.out.size)⟩

theorem info_fsm : (Try.prog.info? 70).map (·.size) = some 9 := by kernel_rfl
theorem info_out : (Try.prog.info? 76).map (·.size) = some 5 := by kernel_rfl

set_option maxRecDepth 100000 in
theorem Turn_est (s0 s1 s2 s3 s4 : Int) (s5 : Bool) (f1 f2 f3 f4 p0 p1 p2 : Int) (p3 ours : Bool) (o0 o1 o2 : Int) (o3 : Bool) (w : World) :
    Calls Try.prog 37 #[.agg #[.int .u32 s0, .int .u32 s1, .int .u32 s2, .int .i64 s3, .int .i64 s4, .bool s5], .agg #[.int .i64 5, .int .i64 f1, .int .i64 f2, .int .i64 f3, .int .i64 f4, .int .u32 p0, .int .i64 p1, .int .u32 p2, .bool p3], .bool ours, .agg #[.int .u32 o0, .int .i64 o1, .int .u32 o2, .bool o3]] w
      fun e w' => e = .returned (.tuple #[.agg #[.int .i64 5, .int .i64 f1, .int .i64 f2, .int .i64 f3, .int .i64 f4, .int .u32 p0, .int .i64 p1, .int .u32 p2, .bool p3], .agg #[.slice none 0 0, .bool false, .bool false, .bool false, .bool false], .bool false]) ∧ Below w.heap.size w w' := by
  have HR := Lib.hid (rival_est s0 s1 s2 s3 s4 s5 f1 f2 f3 f4 p0 p1 p2 p3 ours o0 o1 o2 o3)
  have hk1 := allocs_at [.cells #[.int .u32 s0, .int .u32 s1, .int .u32 s2, .int .i64 s3, .int .i64 s4, .bool s5] 53, .cells #[.int .i64 5, .int .i64 f1, .int .i64 f2, .int .i64 f3, .int .i64 f4, .int .u32 p0, .int .i64 p1, .int .u32 p2, .bool p3] 70, .cells #[.int .u32 o0, .int .i64 o1, .int .u32 o2, .bool o3] 55, .cells #[.int .i64 0, .int .i64 0, .int .i64 0, .int .i64 0, .int .i64 0, .int .u32 0, .int .i64 0, .int .u32 0, .bool false] 70, .cells #[.slice none 0 0, .bool false, .bool false, .bool false, .bool false] 76] w 1 _ _ rfl
  have hk3 := allocs_at [.cells #[.int .u32 s0, .int .u32 s1, .int .u32 s2, .int .i64 s3, .int .i64 s4, .bool s5] 53, .cells #[.int .i64 5, .int .i64 f1, .int .i64 f2, .int .i64 f3, .int .i64 f4, .int .u32 p0, .int .i64 p1, .int .u32 p2, .bool p3] 70, .cells #[.int .u32 o0, .int .i64 o1, .int .u32 o2, .bool o3] 55, .cells #[.int .i64 0, .int .i64 0, .int .i64 0, .int .i64 0, .int .i64 0, .int .u32 0, .int .i64 0, .int .u32 0, .bool false] 70, .cells #[.slice none 0 0, .bool false, .bool false, .bool false, .bool false] 76] w 3 _ _ rfl
  have hk4 := allocs_at [.cells #[.int .u32 s0, .int .u32 s1, .int .u32 s2, .int .i64 s3, .int .i64 s4, .bool s5] 53, .cells #[.int .i64 5, .int .i64 f1, .int .i64 f2, .int .i64 f3, .int .i64 f4, .int .u32 p0, .int .i64 p1, .int .u32 p2, .bool p3] 70, .cells #[.int .u32 o0, .int .i64 o1, .int .u32 o2, .bool o3] 55, .cells #[.int .i64 0, .int .i64 0, .int .i64 0, .int .i64 0, .int .i64 0, .int .u32 0, .int .i64 0, .int .u32 0, .bool false] 70, .cells #[.slice none 0 0, .bool false, .bool false, .bool false, .bool false] 76] w 4 _ _ rfl
  have hb0 := allocs_below [.cells #[.int .u32 s0, .int .u32 s1, .int .u32 s2, .int .i64 s3, .int .i64 s4, .bool s5] 53, .cells #[.int .i64 5, .int .i64 f1, .int .i64 f2, .int .i64 f3, .int .i64 f4, .int .u32 p0, .int .i64 p1, .int .u32 p2, .bool p3] 70, .cells #[.int .u32 o0, .int .i64 o1, .int .u32 o2, .bool o3] 55, .cells #[.int .i64 0, .int .i64 0, .int .i64 0, .int .i64 0, .int .i64 0, .int .u32 0, .int .i64 0, .int .u32 0, .bool false] 70, .cells #[.slice none 0 0, .bool false, .bool false, .bool false, .bool false] 76] w
  have H1 := Lib.hid hk1
  have H3 := Lib.hid hk3
  have H4 := Lib.hid hk4
  have H0 := Lib.hid hb0
  clear hk1 hk3 hk4 hb0
  go_enter Try.func37, Try.ntmps37
  go_wp2_with fail
  refine (HR.out _).mono ?_; rintro e w1 ⟨rfl, hb⟩
  have hk1 : Bk w1 (w.heap.size + 1) 70 #[.int .i64 5, .int .i64 f1, .int .i64 f2, .int .i64 f3, .int .i64 f4, .int .u32 p0, .int .i64 p1, .int .u32 p2, .bool p3] := H1.out.below hb H1.out.lt
  have hk3 : Bk w1 (w.heap.size + 1 + 1 + 1) 70 _ := H3.out.below hb H3.out.lt
  have hk4 : Bk w1 (w.heap.size + 1 + 1 + 1 + 1) 76 _ := H4.out.below hb H4.out.lt
  have HB1 := Lib.hid (H0.out.trans (hb.mono H0.out.size))
  have HK1 := Lib.hid hk1
  have HK3 := Lib.hid hk3
  have HK4 := Lib.hid hk4
  have qa := fun i => hk1.cell i
  have qb := fun i => hk3.cell i
  have qc := fun i => hk4.cell i
  have qf := fun i => hk3.free i
  have qg := fun i => hk4.free i
  have ql := hk4.lt
  have ql1 := hk1.lt
  have ql3 := hk3.lt
  clear hb hk1 hk3 hk4 H0 H1 H3 H4
  go_wp2_with fail
  have e1 : Bk (stores (stores w1 (w.heap.size + 1 + 1 + 1) 0 [.int .i64 5, .int .i64 f1, .int .i64 f2, .int .i64 f3, .int .i64 f4, .int .u32 p0, .int .i64 p1, .int .u32 p2, .bool p3]) (w.heap.size + 1 + 1 + 1 + 1) 0 [.slice none 0 0, .bool false, .bool false, .bool false, .bool false]) (w.heap.size + 1 + 1 + 1) 70 #[.int .i64 5, .int .i64 f1, .int .i64 f2, .int .i64 f3, .int .i64 f4, .int .u32 p0, .int .i64 p1, .int .u32 p2, .bool p3] := stores_far [.slice none 0 0, .bool false, .bool false, .bool false, .bool false] 0 (stores_all [.int .i64 5, .int .i64 f1, .int .i64 f2, .int .i64 f3, .int .i64 f4, .int .u32 p0, .int .i64 p1, .int .u32 p2, .bool p3] HK3.out rfl) (by omega)
  have e2 : Bk (stores (stores w1 (w.heap.size + 1 + 1 + 1) 0 [.int .i64 5, .int .i64 f1, .int .i64 f2, .int .i64 f3, .int .i64 f4, .int .u32 p0, .int .i64 p1, .int .u32 p2, .bool p3]) (w.heap.size + 1 + 1 + 1 + 1) 0 [.slice none 0 0, .bool false, .bool false, .bool false, .bool false]) (w.heap.size + 1 + 1 + 1 + 1) 76 #[.slice none 0 0, .bool false, .bool false, .bool false, .bool false] := stores_all [.slice none 0 0, .bool false, .bool false, .bool false, .bool false] (stores_far [.int .i64 5, .int .i64 f1, .int .i64 f2, .int .i64 f3, .int .i64 f4, .int .u32 p0, .int .i64 p1, .int .u32 p2, .bool p3] 0 HK4.out (by omega)) rfl
  have e3 : Below w.heap.size w1 (stores (stores w1 (w.heap.size + 1 + 1 + 1) 0 [.int .i64 5, .int .i64 f1, .int .i64 f2, .int .i64 f3, .int .i64 f4, .int .u32 p0, .int .i64 p1, .int .u32 p2, .bool p3]) (w.heap.size + 1 + 1 + 1 + 1) 0 [.slice none 0 0, .bool false, .bool false, .bool false, .bool false]) := (stores_below (g := w.heap.size + 1 + 1 + 1) [.int .i64 5, .int .i64 f1, .int .i64 f2, .int .i64 f3, .int .i64 f4, .int .u32 p0, .int .i64 p1, .int .u32 p2, .bool p3] 0 (by omega) HB1.out.size).trans (stores_below (g := w.heap.size + 1 + 1 + 1 + 1) [.slice none 0 0, .bool false, .bool false, .bool false, .bool false] 0 (by omega) (Nat.le_trans HB1.out.size (stores_below (g := w.heap.size + 1 + 1 + 1) [.int .i64 5, .int .i64 f1, .int .i64 f2, .int .i64 f3, .int .i64 f4, .int .u32 p0, .int .i64 p1, .int .u32 p2, .bool p3] 0 (by omega) HB1.out.size).size))
  exact bodyPost_ret (res_cct rfl _ _ (w.heap.size + 1 + 1 + 1) (w.heap.size + 1 + 1 + 1 + 1) 70 76 (.bool false) _ _ (0, 0) (0, 0) _ _ rfl (e1.alloc _) Try.underlying70 rfl info_fsm rfl (e2.alloc _) Try.underlying76 rfl info_out rfl) rfl ⟨rfl, (HB1.out.trans e3).alloc (HB1.out.trans e3).size _⟩
end Go.Proofs.Ytbhhkjkjihenoaa.collide
