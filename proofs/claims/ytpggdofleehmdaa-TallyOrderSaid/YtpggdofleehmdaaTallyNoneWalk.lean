/- The walk of the law TallyNone: the Go text returns true and writes nothing that was there. No condition. -/
import Derived.Test.YtpggdofleehmdaaTally
import Derived.Test.YtpggdofleehmdaaStruct
import Derived.LaidEqlPtr
namespace Go.Proofs.Ytpggdofleehmdaa.tallyNone
open Go.RowKit Go.Proofs.Ytpggdofleehmdaa.kit Go.Proofs.Ytpggdofleehmdaa.mem Go.Proofs.Ytpggdofleehmdaa.foot Go.Proofs.Ytpggdofleehmdaa.tally
set_option linter.unusedVariables false
set_option linter.unusedSimpArgs false

theorem Of_nil (k : Int) (w : World) : Calls Try.prog 31 #[.pointer none, .int .u32 k] w fun e w' => e = .returned (.tuple #[.int .i64 0, .int .i64 0]) ∧ w = w' := by
  go_enter Try.func31, Try.ntmps31
  go_wp2_with fail
  go_ret2
  exact ⟨rfl, rfl⟩
theorem Sum_nil (w : World) : Calls Try.prog 32 #[.pointer none] w fun e w' => e = .returned (.tuple #[.int .i64 0, .int .i64 0]) ∧ w = w' := by
  go_enter Try.func32, Try.ntmps32
  go_wp2_with fail
  go_ret2
  exact ⟨rfl, rfl⟩
theorem Turn_nil (k : Int) (w : World) : Calls Try.prog 44 #[.pointer none, .int .u32 k] w fun e w' => e = .returned (.tuple #[]) ∧ w = w' := by
  go_enter Try.func44, Try.ntmps44
  go_wp2_with fail
  exact bodyPost_ret (results_none rfl _ _ _) rfl ⟨rfl, rfl⟩
theorem Add_nil (k u v : Int) (w : World) : Calls Try.prog 30 #[.pointer none, .int .u32 k, .int .i64 u, .int .i64 v] w fun e w' => e = .returned (.int .i64 1) ∧ w = w' := by
  go_enter Try.func30, Try.ntmps30
  go_wp2_with fail
  go_ret
  exact ⟨rfl, rfl⟩
theorem keys_nil (w : World) : Calls Try.prog 64 #[.pointer none] w fun e w' => e = .returned (.slice none 0 0) ∧ w = w' := by
  go_enter Try.func64, Try.ntmps64
  go_wp2_with fail
  go_ret
  exact ⟨rfl, rfl⟩
theorem Keys_nil (w : World) : Calls Try.prog 49 #[.pointer none] w fun e w' => e = .returned (.slice none 0 0) ∧ w = w' := by
  go_enter Try.func49, Try.ntmps49
  go_wp2_with (go_at_call 64; refine (keys_nil _).mono ?_; rintro e w' ⟨rfl, rfl⟩)
  go_ret
  exact ⟨rfl, rfl⟩
theorem Join_nil (o : Option Addr) (w : World) : Calls Try.prog 47 #[.pointer none, .pointer o] w fun e w' => e = .returned (.int .i64 1) ∧ w = w' := by
  go_enter Try.func47, Try.ntmps47
  go_wp2_with fail
  go_ret
  exact ⟨rfl, rfl⟩
theorem Join_to_nil (t : Nat) (w : World) : Calls Try.prog 47 #[.pointer (some ⟨t, 0, none⟩), .pointer none] w fun e w' => e = .returned (.int .i64 1) ∧ w = w' := by
  go_enter Try.func47, Try.ntmps47
  go_wp2_with fail
  go_ret
  exact ⟨rfl, rfl⟩
set_option maxRecDepth 100000 in
theorem Join_self (t : Nat) (w : World) : Calls Try.prog 47 #[.pointer (some ⟨t, 0, none⟩), .pointer (some ⟨t, 0, none⟩)] w fun e w' => e = .returned (.int .i64 1) ∧ w = w' := by
  obtain ⟨j, hj⟩ : ∃ j, Try.prog.info? 90 = some j := by
    have h : (Try.prog.info? 90).isSome = true := by kernel_rfl
    exact Option.isSome_iff_exists.1 h
  have heq := fun w => run_eql_ptr_same (P := Try.prog) w (tp := 44) ⟨t, 0, none⟩ Try.underlying44 hj
  clear hj
  go_enter Try.func47, Try.ntmps47
  go_wp2_with fail
  go_ret
  exact ⟨rfl, rfl⟩
theorem Drop_nil (k : Int) (w : World) : Calls Try.prog 45 #[.pointer none, .int .u32 k] w fun e w' => e = .returned (.bool false) ∧ w = w' := by
  go_enter Try.func45, Try.ntmps45
  go_wp2_with fail
  go_ret
  exact ⟨rfl, rfl⟩

/-- an act -/
abbrev RAct : Rel (Int × Int × Int × Int) := rPair (rInt .i64) (rPair (rInt .u32) (rPair (rInt .i64) (rInt .i64)))
section
variable {H : Type} {enc : TypeId × Value → H} {w : World} {base : Nat} {held : Bool}
set_option maxRecDepth 100000 in
theorem opens_act : Opens enc Try.prog w base held 49 RAct :=
  opens_struct Try.underlying49 (by kernel_rfl) (opensF_cons (o' := 1) rfl (by kernel_rfl) (opens_int Try.underlying3) (opensF_cons (o' := 2) rfl (by kernel_rfl) (opens_int Try.underlying22) (opensF_cons (o' := 3) rfl (by kernel_rfl) (opens_int Try.underlying3) (opensF_last rfl (opens_int Try.underlying3)))))
end
theorem act_eq {w : World} {G : Foot} {cs : List Value} {a0 a1 a2 a3 : Int} (h : RAct w G cs (a0, a1, a2, a3)) : cs = [.int .i64 a0, .int .u32 a1, .int .i64 a2, .int .i64 a3] ∧ (Lit.int .i64 a0).wf = true ∧ (Lit.int .u32 a1).wf = true ∧ (Lit.int .i64 a2).wf = true ∧ (Lit.int .i64 a3).wf = true := by
  obtain ⟨_, _, rfl, ⟨rfl, h0⟩, _, _, rfl, ⟨rfl, h1⟩, _, _, rfl, ⟨rfl, h2⟩, h3⟩ := h
  obtain ⟨rfl, h3⟩ := h3
  exact ⟨rfl, h0, h1, h2, h3⟩

set_option maxRecDepth 100000 in
theorem core (a0 a1 a2 a3 : Int) (W : World) :
    Calls Try.prog 14 #[.agg #[.int .i64 a0, .int .u32 a1, .int .i64 a2, .int .i64 a3]] W fun e w' => e = .returned (.bool true) ∧ Below W.heap.size W w' := by
  have HN := Lib.hid (New_any (W.alloc (.cells #[.int .i64 a0, .int .u32 a1, .int .i64 a2, .int .i64 a3] 49)))
  have HB0 : Hid (Below W.heap.size W (W.alloc (.cells #[.int .i64 a0, .int .u32 a1, .int .i64 a2, .int .i64 a3] 49))) := (Below.refl _ _).alloc (Nat.le_refl _) _
  have HK0 : Hid (Bk (W.alloc (.cells #[.int .i64 a0, .int .u32 a1, .int .i64 a2, .int .i64 a3] 49)) W.heap.size 49 #[.int .i64 a0, .int .u32 a1, .int .i64 a2, .int .i64 a3]) := Bk.new _ _ _
  go_enter Try.func14, Try.ntmps14
  go_wp2_with (first
    | (go_at_call 31; refine (Of_nil _ _).mono ?_; rintro e w' ⟨rfl, rfl⟩)
    | (go_at_call 32; refine (Sum_nil _).mono ?_; rintro e w' ⟨rfl, rfl⟩)
    | (go_at_call 44; refine (Turn_nil _ _).mono ?_; rintro e w' ⟨rfl, rfl⟩))
  refine HN.out.mono ?_; rintro e w1 ⟨t, F, rfl, ht, hF, hb1⟩
  have hk1 := HK0.out.below hb1 HK0.out.lt
  have c1 := hk1.cell 1
  simp at c1
  have HB1 := Lib.hid (HB0.out.trans (hb1.mono HB0.out.size))
  clear ht hF hb1 hk1 HN HK0 HB0
  go_wp2_with (first
    | (go_at_call 30; refine (Add_nil _ _ _ _).mono ?_; rintro e w' ⟨rfl, rfl⟩)
    | (go_at_call 49; refine (Keys_nil _).mono ?_; rintro e w' ⟨rfl, rfl⟩)
    | (go_at_call 47; (with_reducible refine (Join_nil _ _).mono ?_); rintro e w' ⟨rfl, rfl⟩)
    | (go_at_call 47; (with_reducible refine (Join_to_nil _ _).mono ?_); rintro e w' ⟨rfl, rfl⟩)
    | (go_at_call 47; (with_reducible refine (Join_self _ _).mono ?_); rintro e w' ⟨rfl, rfl⟩)
    | (go_at_call 45; refine (Drop_nil _ _).mono ?_; rintro e w' ⟨rfl, rfl⟩)
    | (go_at_call 22; refine (lives_any _).mono ?_; rintro e w2 ⟨rfl, hb2⟩))
  go_ret
  exact ⟨rfl, HB1.out.trans (hb2.mono HB1.out.size)⟩

set_option maxRecDepth 100000 in
theorem walk {H : Type} {enc : TypeId × Value → H} {W : World} {base : Nat} {v0 : Value} {d0 : DataW H} {p0 : List MemPlace}
    (hv0 : Value.okWide Try.prog W .any base 49 v0) (h0 : DataW.Trod enc Try.prog W 0 (fun _ => true) true 49 v0 d0 p0) :
    Calls Try.prog 14 #[v0] W fun e w' => e = .returned (.bool true) ∧ Below W.heap.size W w' := by
  obtain ⟨cs, a, rfl, ha⟩ := open_st Try.underlying49 opens_act hv0 h0
  obtain ⟨a0, a1, a2, a3⟩ := a
  obtain rfl := arr_eq (act_eq ha).1
  exact core a0 a1 a2 a3 W
end Go.Proofs.Ytpggdofleehmdaa.tallyNone
