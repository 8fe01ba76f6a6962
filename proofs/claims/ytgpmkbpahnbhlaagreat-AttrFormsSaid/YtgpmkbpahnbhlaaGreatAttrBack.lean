/- The plain law: the bytes of good attributes are read as these. No condition. -/
import Derived.Test.YtgpmkbpahnbhlaaGreatAttrDecode
import Derived.Test.YtgpmkbpahnbhlaaGreatRefNorm8
import Derived.Test.YtgpmkbpahnbhlaaGreatRefGood04
import Derived.Test.YtgpmkbpahnbhlaaGreatOctLives
namespace Go.Proofs.YtgpmkbpahnbhlaaGreat.attr
open Go.RowKit Go.Proofs.YtgpmkbpahnbhlaaGreat.kit Go.Proofs.YtgpmkbpahnbhlaaGreat.mem Go.Proofs.YtgpmkbpahnbhlaaGreat.foot Go.Proofs.YtgpmkbpahnbhlaaGreat.nums Go.Proofs.YtgpmkbpahnbhlaaGreat.asn Go.Proofs.YtgpmkbpahnbhlaaGreat.pth Go.Proofs.YtgpmkbpahnbhlaaGreat.octet
set_option linter.unusedVariables false
set_option linter.unusedSimpArgs false
end Go.Proofs.YtgpmkbpahnbhlaaGreat.attr
