/- What confluenceref08.Same returns. Condition: at most 10^6 pieces and numbers together. -/
import Derived.Test.YtbljhjfaimnieaaGreatAttrAll
import Derived.Test.YtbljhjfaimnieaaGreatRefAsn
namespace Go.Proofs.YtbljhjfaimnieaaGreat.attr
open Go.RowKit Go.Proofs.YtbljhjfaimnieaaGreat.kit Go.Proofs.YtbljhjfaimnieaaGreat.mem Go.Proofs.YtbljhjfaimnieaaGreat.foot Go.Proofs.YtbljhjfaimnieaaGreat.nums Go.Proofs.YtbljhjfaimnieaaGreat.asn Go.Proofs.YtbljhjfaimnieaaGreat.pth
set_option linter.unusedVariables false
set_option linter.unusedSimpArgs false
end Go.Proofs.YtbljhjfaimnieaaGreat.attr
