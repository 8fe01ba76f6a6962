/- The trie laws' acts as arguments. No condition. -/
import Derived.Test.YtbhhkjkjihenoaaTrieArgs
namespace Go.Proofs.Ytbhhkjkjihenoaa.tri
open Go.RowKit Go.Proofs.Ytbhhkjkjihenoaa.kit Go.Proofs.Ytbhhkjkjihenoaa.mem Go.Proofs.Ytbhhkjkjihenoaa.foot
set_option linter.unusedVariables false

abbrev RAct : Rel (Int × Int × Int × Int) := rPair (rInt .i64) (rPair (rInt .i64) RPfx)
theorem keeps_act : Keeps 4 RAct := keeps_pair (keeps_int .i64) (keeps_pair (keeps_int .i64) keeps_pfx)
section
variable {H : Type} {enc : TypeId × Value → H} {w : World} {base : Nat} {held : Bool}
set_option maxRecDepth 100000 in
theorem opens_act : Opens enc Try.prog w base held 32 RAct :=
  opens_struct Try.underlying32 (by kernel_rfl) (opensF_cons (o' := 1) rfl (by kernel_rfl) (opens_int Try.underlying3) (opensF_cons (o' := 2) rfl (by kernel_rfl) (opens_int Try.underlying3) (opensF_last rfl opens_pfx)))
end
/-- the k-th act of a slice that came in -/
theorem act_at {W : World} {G : Foot} {A : Option Addr} {l : List (Int × Int × Int × Int)} (h : Els 4 RAct W G A l) {k : Nat} (hk : k < l.length) :
    ∃ (b off : Nat) (kind v : Int) (pa : Nat) (pn : Int), A = some ⟨b, off, none⟩ ∧ b < W.heap.size ∧ pa < 4294967296 ∧ -9223372036854775808 ≤ v ∧ v ≤ 9223372036854775807 ∧ W.cell? ⟨b, off + k * 4, none⟩ = some (.int .i64 kind) ∧ W.cell? ⟨b, off + k * 4 + 1, none⟩ = some (.int .i64 v) ∧ W.cell? ⟨b, off + k * 4 + 2, none⟩ = some (.int .u32 (pa : Int)) ∧ W.cell? ⟨b, off + k * 4 + 3, none⟩ = some (.int .i64 pn) := by
  obtain ⟨b, off, cs, e, _, hb, hr, hc⟩ := h.at_ keeps_act hk
  obtain ⟨_, c2, rfl, ⟨rfl, _⟩, _, c3, rfl, ⟨rfl, hv⟩, h3⟩ := hr
  obtain ⟨a, ha, h1, rfl, _⟩ := pfx_eq h3
  have hv := wf_i64 hv
  have q0 := hc 0 _ rfl
  have q1 := hc 1 _ rfl
  have q2 := hc 2 _ rfl
  have q3 := hc 3 _ rfl
  rw [Nat.add_zero] at q0
  exact ⟨b, off, _, _, a, _, e, hb, ha, hv.1, hv.2, q0, q1, q2, q3⟩
end Go.Proofs.Ytbhhkjkjihenoaa.tri
