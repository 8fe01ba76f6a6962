/- Parts of a function's code, by their places. No condition. -/
import Derived.Test.YtaeeeinpelfppaaGreatRows
namespace Go.Proofs.YtaeeeinpelfppaaGreat.code
end Go.Proofs.YtaeeeinpelfppaaGreat.code
