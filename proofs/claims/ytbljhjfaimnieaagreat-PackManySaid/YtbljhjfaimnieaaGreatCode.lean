/- Parts of a function's code, by their places. No condition. -/
import Derived.Test.YtbljhjfaimnieaaGreatRows
namespace Go.Proofs.YtbljhjfaimnieaaGreat.code
def left : Code → Code | .seq a _ => a | c => c
def right : Code → Code | .seq _ b => b | c => c
end Go.Proofs.YtbljhjfaimnieaaGreat.code
