/- b[:n] and b[n:] of a byte slice, nil or not, n within its length. No condition. -/
import Derived.Test.YtbljhjfaimnieaaGreatGround
import Derived.Test.YtbljhjfaimnieaaGreatRows
namespace Go.Proofs.YtbljhjfaimnieaaGreat.mem
open Go.RowKit Go.Proofs.YtbljhjfaimnieaaGreat.kit
set_option linter.unusedVariables false

end Go.Proofs.YtbljhjfaimnieaaGreat.mem
