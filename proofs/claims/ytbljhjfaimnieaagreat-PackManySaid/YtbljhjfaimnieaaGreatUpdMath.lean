/- The plain law of an Update's bytes. No program in sight. -/
import Derived.Test.YtbljhjfaimnieaaGreatNlriDec
import Derived.Test.YtbljhjfaimnieaaGreatAttrPub
namespace Go.Proofs.YtbljhjfaimnieaaGreat.upd
open Go.RowKit Go.Proofs.YtbljhjfaimnieaaGreat.kit Go.Proofs.YtbljhjfaimnieaaGreat.mem Go.Proofs.YtbljhjfaimnieaaGreat.foot Go.Proofs.YtbljhjfaimnieaaGreat.nums Go.Proofs.YtbljhjfaimnieaaGreat.asn Go.Proofs.YtbljhjfaimnieaaGreat.pth Go.Proofs.YtbljhjfaimnieaaGreat.octet Go.Proofs.YtbljhjfaimnieaaGreat.attr
set_option linter.unusedVariables false
structure Upd where
  gone : List (Nat × Int)
  a : Atr
  here : List (Nat × Int)
def zeroU : Upd := ⟨[], zeroA, []⟩
end Go.Proofs.YtbljhjfaimnieaaGreat.upd
