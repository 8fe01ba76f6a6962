/- What confluenceref04.put returns, and confluenceref04.Join without a set. Condition: at most 10^5 numbers. What confluenceref04.Norm returns. Condition: at most 10^5 pieces and numbers together. -/
import Derived.Test.YtbljhjfaimnieaaGreatRefAsn
import Derived.Test.YtbljhjfaimnieaaGreatAttrAll
namespace Go.Proofs.YtbljhjfaimnieaaGreat.attr
open Go.RowKit Go.Proofs.YtbljhjfaimnieaaGreat.kit Go.Proofs.YtbljhjfaimnieaaGreat.mem Go.Proofs.YtbljhjfaimnieaaGreat.foot Go.Proofs.YtbljhjfaimnieaaGreat.nums Go.Proofs.YtbljhjfaimnieaaGreat.asn Go.Proofs.YtbljhjfaimnieaaGreat.pth
set_option linter.unusedVariables false
set_option linter.unusedSimpArgs false
theorem putS_yes {p : List Sg} {s : Sg} (h : s.1 = 2) (h2 : s.2.length < 255) (n : Nat) : putS (p ++ [s]) n = p ++ [(2, s.2 ++ [n])] := by
  unfold putS
  rw [List.getLast?_concat]
  dsimp only
  rw [if_pos ⟨h, h2⟩, List.dropLast_concat]
theorem putS_no {p : List Sg} (h : ∀ s, p.getLast? = some s → ¬ (s.1 = 2 ∧ s.2.length < 255)) (n : Nat) : putS p n = p ++ [(2, [n])] := by
  unfold putS
  rcases hl : p.getLast? with _ | s
  · rfl
  · dsimp only
    rw [if_neg (h s hl)]
end Go.Proofs.YtbljhjfaimnieaaGreat.attr

namespace Go.Proofs.YtbljhjfaimnieaaGreat.attr
open Go.RowKit Go.Proofs.YtbljhjfaimnieaaGreat.kit Go.Proofs.YtbljhjfaimnieaaGreat.mem Go.Proofs.YtbljhjfaimnieaaGreat.foot Go.Proofs.YtbljhjfaimnieaaGreat.nums Go.Proofs.YtbljhjfaimnieaaGreat.asn Go.Proofs.YtbljhjfaimnieaaGreat.pth
set_option linter.unusedVariables false
set_option linter.unusedSimpArgs false
def rstep (out : List Sg) (s : Sg) : List Sg := if s.1 = 2 then s.2.foldl putS out else if s.1 = 1 ∧ 0 < s.2.length then out ++ [(1, setN s.2)] else out
end Go.Proofs.YtbljhjfaimnieaaGreat.attr
