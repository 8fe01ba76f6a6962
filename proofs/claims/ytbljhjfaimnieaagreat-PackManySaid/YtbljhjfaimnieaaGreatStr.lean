/- string(b) of bytes. No condition. -/
import Derived.Test.YtbljhjfaimnieaaGreatRows
import Derived.Test.YtbljhjfaimnieaaGreatGround
import Derived.Laws.BytesString
import Derived.Laws.Cells
namespace Go.Proofs.YtbljhjfaimnieaaGreat.mem
open Go.RowKit

end Go.Proofs.YtbljhjfaimnieaaGreat.mem
