/- What octet's Reader does: take, number, U8, U16, U32, Take, Part, Rest, Left, Bad, New. Condition: at most 2^40 bytes. -/
import Derived.Test.YtbljhjfaimnieaaGreatWriter
import Derived.WalkMore
import Derived.ScopeJumps
namespace Go.Proofs.YtbljhjfaimnieaaGreat.octet
open Go.RowKit Go.Proofs.YtbljhjfaimnieaaGreat.kit Go.Proofs.YtbljhjfaimnieaaGreat.mem
set_option linter.unusedVariables false

section
variable {w w' : World} {r : Nat} {l : List UInt8} {bad : Bool}
end

end Go.Proofs.YtbljhjfaimnieaaGreat.octet
