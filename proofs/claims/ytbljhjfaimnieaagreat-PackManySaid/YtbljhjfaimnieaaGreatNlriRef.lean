/- What confluenceref07's Size, Same, Good and Decode return. Conditions as each lemma states. -/
import Derived.Test.YtbljhjfaimnieaaGreatNlriDec
import Derived.Test.YtbljhjfaimnieaaGreatPfxRef0
import Derived.Test.YtbljhjfaimnieaaGreatOctRef
namespace Go.Proofs.YtbljhjfaimnieaaGreat.nlri
open Go.RowKit Go.Proofs.YtbljhjfaimnieaaGreat.kit Go.Proofs.YtbljhjfaimnieaaGreat.mem Go.Proofs.YtbljhjfaimnieaaGreat.octet Go.Proofs.YtbljhjfaimnieaaGreat.pfx
set_option linter.unusedVariables false

end Go.Proofs.YtbljhjfaimnieaaGreat.nlri
