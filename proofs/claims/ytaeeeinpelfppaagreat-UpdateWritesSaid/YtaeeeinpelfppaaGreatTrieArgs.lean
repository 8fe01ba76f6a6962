/- Prefixes as arguments. No condition. -/
import Derived.Test.YtaeeeinpelfppaaGreatRows
import Derived.Test.YtaeeeinpelfppaaGreatGround
namespace Go.Proofs.YtaeeeinpelfppaaGreat.foot
open Go.RowKit Go.Proofs.YtaeeeinpelfppaaGreat.kit Go.Proofs.YtaeeeinpelfppaaGreat.mem
set_option linter.unusedVariables false
abbrev RPfx : Rel (Int × Int) := rPair (rInt .u32) (rInt .i64)
theorem keeps_pfx : Keeps 2 RPfx := keeps_pair (keeps_int .u32) (keeps_int .i64)
section
variable {H : Type} {enc : TypeId × Value → H} {w : World} {base : Nat} {held : Bool}
set_option maxRecDepth 100000 in
theorem opens_pfx : Opens enc Tryz.prog w base held 66 RPfx :=
  opens_struct Tryz.underlying66 (by kernel_rfl) (opensF_cons (o' := 1) rfl (by kernel_rfl) (opens_int Tryz.underlying26) (opensF_last rfl (opens_int Tryz.underlying3)))
end
/-- a prefix's cells; its address as a natural number -/
theorem pfx_eq {w : World} {G : Foot} {cs : List Value} {p : Int × Int} (h : RPfx w G cs p) : ∃ a : Nat, a < 4294967296 ∧ p.1 = a ∧ cs = [.int .u32 (a : Int), .int .i64 p.2] ∧ (Lit.int .i64 p.2).wf = true := by
  obtain ⟨_, _, rfl, ⟨rfl, h0⟩, rfl, h1⟩ := h
  have := wf_u32 h0
  obtain ⟨a, ha⟩ := Int.eq_ofNat_of_zero_le this.1
  exact ⟨a, by omega, ha, by rw [ha]; rfl, h1⟩
end Go.Proofs.YtaeeeinpelfppaaGreat.foot
