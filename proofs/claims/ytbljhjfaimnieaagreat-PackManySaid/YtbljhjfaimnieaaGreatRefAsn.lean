/- What confluenceref02.Same returns. Condition: at most 10^6 numbers. What confluenceref04.Same returns. Condition: at most 10^6 pieces and numbers together. What confluenceref02.Has, Put and Set return. Condition: at most 10^6 numbers. -/
import Derived.Test.YtbljhjfaimnieaaGreatPathAll
import Derived.Deep.RegionHeld3
import Derived.Test.YtbljhjfaimnieaaGreatGround
namespace Go.Proofs.YtbljhjfaimnieaaGreat.pth
open Go.RowKit Go.Proofs.YtbljhjfaimnieaaGreat.kit Go.Proofs.YtbljhjfaimnieaaGreat.mem Go.Proofs.YtbljhjfaimnieaaGreat.foot Go.Proofs.YtbljhjfaimnieaaGreat.nums Go.Proofs.YtbljhjfaimnieaaGreat.asn
set_option linter.unusedVariables false
set_option linter.unusedSimpArgs false
/-- only answers were drawn -/
def Draws (w w' : World) : Prop := ∃ n, w' = w.drewN n
theorem Draws.refl (w : World) : Draws w w := ⟨0, rfl⟩
theorem Draws.drew {w w' : World} (h : Draws w w') : Draws w w'.drew := by
  obtain ⟨n, rfl⟩ := h
  exact ⟨n + 1, rfl⟩
theorem Draws.drewN {w w' : World} (h : Draws w w') (m : Nat) : Draws w (w'.drewN m) := by
  obtain ⟨n, rfl⟩ := h
  exact ⟨n + m, by simp [World.drewN, Nat.add_assoc]⟩
theorem Draws.cell {w w' : World} (h : Draws w w') (p : Addr) : w'.cell? p = w.cell? p := by
  obtain ⟨n, rfl⟩ := h
  rfl
theorem Draws.bel {w w' : World} (h : Draws w w') : Below w.heap.size w w' := by
  obtain ⟨n, rfl⟩ := h
  exact ⟨rfl, rfl, rfl, Nat.le_refl _, fun _ _ => rfl⟩
end Go.Proofs.YtbljhjfaimnieaaGreat.pth

namespace Go.Proofs.YtbljhjfaimnieaaGreat.pth
open Go.RowKit Go.Proofs.YtbljhjfaimnieaaGreat.kit Go.Proofs.YtbljhjfaimnieaaGreat.mem Go.Proofs.YtbljhjfaimnieaaGreat.foot Go.Proofs.YtbljhjfaimnieaaGreat.nums Go.Proofs.YtbljhjfaimnieaaGreat.asn
set_option linter.unusedVariables false
set_option linter.unusedSimpArgs false
end Go.Proofs.YtbljhjfaimnieaaGreat.pth

namespace Go.Proofs.YtbljhjfaimnieaaGreat.asn
open Go.RowKit Go.Proofs.YtbljhjfaimnieaaGreat.kit Go.Proofs.YtbljhjfaimnieaaGreat.mem Go.Proofs.YtbljhjfaimnieaaGreat.foot Go.Proofs.YtbljhjfaimnieaaGreat.nums Go.Proofs.YtbljhjfaimnieaaGreat.pth
set_option linter.unusedVariables false
set_option linter.unusedSimpArgs false
end Go.Proofs.YtbljhjfaimnieaaGreat.asn
