/- What confluenceref08's Has, Hop, Flags, long, Told and Same return. Conditions as each lemma states. -/
import Derived.Test.YtbljhjfaimnieaaGreatAttrPub
import Derived.Test.YtbljhjfaimnieaaGreatRefAsn
import Derived.Test.YtbljhjfaimnieaaGreatStr
namespace Go.Proofs.YtbljhjfaimnieaaGreat.attr
open Go.RowKit Go.Proofs.YtbljhjfaimnieaaGreat.kit Go.Proofs.YtbljhjfaimnieaaGreat.mem Go.Proofs.YtbljhjfaimnieaaGreat.foot Go.Proofs.YtbljhjfaimnieaaGreat.nums Go.Proofs.YtbljhjfaimnieaaGreat.asn Go.Proofs.YtbljhjfaimnieaaGreat.pth Go.Proofs.YtbljhjfaimnieaaGreat.octet
set_option linter.unusedVariables false
set_option linter.unusedSimpArgs false
end Go.Proofs.YtbljhjfaimnieaaGreat.attr
