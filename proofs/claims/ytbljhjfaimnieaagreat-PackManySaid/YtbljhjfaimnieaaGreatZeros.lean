/- append(s, make([]T, k)...) onto a row of the call's own, at least one zero. No condition beyond those that the lemma states. -/
import Derived.Test.YtbljhjfaimnieaaGreatGround
import Derived.Lib.AppendZerosOnto
namespace Go.Proofs.YtbljhjfaimnieaaGreat.mem
open Go.RowKit
set_option linter.unusedVariables false

section
variable {P : Program} {w : World}
end
end Go.Proofs.YtbljhjfaimnieaaGreat.mem
