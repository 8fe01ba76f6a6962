/- What confluenceref06's Num and Big, and confluencelaw06's Bytes, return. Conditions: at most 2^40 bytes; of Num: at most four. -/
import Derived.Test.YtgpmkbpahnbhlaaGreatReader2
import Derived.Test.YtgpmkbpahnbhlaaGreatWriter
namespace Go.Proofs.YtgpmkbpahnbhlaaGreat.octet
open Go.RowKit Go.Proofs.YtgpmkbpahnbhlaaGreat.kit Go.Proofs.YtgpmkbpahnbhlaaGreat.mem
set_option linter.unusedVariables false

end Go.Proofs.YtgpmkbpahnbhlaaGreat.octet
