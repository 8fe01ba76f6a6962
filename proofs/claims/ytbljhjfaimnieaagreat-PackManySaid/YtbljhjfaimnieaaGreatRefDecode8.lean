/- The memory within confluenceref08.Decode; the end of its round. Conditions as each lemma states. Printed by gen_refdec8.py. Which error is told of an attribute in confluenceref08.Decode. Conditions as the lemma states. Printed by gen_refdec8.py. The attribute's own flags, and its bytes, in confluenceref08.Decode. Conditions as each lemma states. Printed by gen_refdec8.py. An attribute's bytes in confluenceref08.Decode. Conditions as each lemma states. Printed by gen_refdec8.py. The head of an attribute in confluenceref08.Decode. Conditions as each lemma states. Printed by gen_refdec8.py. What confluenceref08.Decode returns. Condition: at most 50000 bytes. Printed by gen_refdec8.py. -/
import Derived.Test.YtbljhjfaimnieaaGreatRefLay8
import Derived.Test.YtbljhjfaimnieaaGreatRefNorm8
import Derived.Test.YtbljhjfaimnieaaGreatAttrPub
import Derived.Test.YtbljhjfaimnieaaGreatCode
import Derived.Deep.RegionHeld3
namespace Go.Proofs.YtbljhjfaimnieaaGreat.attr
open Go.RowKit Go.Proofs.YtbljhjfaimnieaaGreat.kit Go.Proofs.YtbljhjfaimnieaaGreat.mem Go.Proofs.YtbljhjfaimnieaaGreat.foot Go.Proofs.YtbljhjfaimnieaaGreat.nums Go.Proofs.YtbljhjfaimnieaaGreat.asn Go.Proofs.YtbljhjfaimnieaaGreat.pth Go.Proofs.YtbljhjfaimnieaaGreat.octet Go.Proofs.YtbljhjfaimnieaaGreat.code
set_option linter.unusedVariables false
set_option linter.unusedSimpArgs false
section
variable {w wr w' : World} {seen ms : List Nat} {a : Atr}
end
/-- .. seen with fewer bounds -/
theorem LR.wide {w wr : World} {g cp cc : Nat} {a : Atr} {Ap Ac : Option Addr} {G H : Foot} (h : LR w g a Ap cp Ac cc G wr) (hG : ∀ j, G j → H j) (hg : ¬ H g) : LR w g a Ap cp Ac cc H wr := ⟨h.bk, h.am.mono fun j _ hj => hj.imp (hG j) id, h.ch, h.gl, hg⟩
end Go.Proofs.YtbljhjfaimnieaaGreat.attr

namespace Go.Proofs.YtbljhjfaimnieaaGreat.attr
open Go.RowKit Go.Proofs.YtbljhjfaimnieaaGreat.kit Go.Proofs.YtbljhjfaimnieaaGreat.mem Go.Proofs.YtbljhjfaimnieaaGreat.foot Go.Proofs.YtbljhjfaimnieaaGreat.nums Go.Proofs.YtbljhjfaimnieaaGreat.asn Go.Proofs.YtbljhjfaimnieaaGreat.pth Go.Proofs.YtbljhjfaimnieaaGreat.octet Go.Proofs.YtbljhjfaimnieaaGreat.code
set_option linter.unusedVariables false
set_option linter.unusedSimpArgs false
end Go.Proofs.YtbljhjfaimnieaaGreat.attr

namespace Go.Proofs.YtbljhjfaimnieaaGreat.attr
open Go.RowKit Go.Proofs.YtbljhjfaimnieaaGreat.kit Go.Proofs.YtbljhjfaimnieaaGreat.mem Go.Proofs.YtbljhjfaimnieaaGreat.foot Go.Proofs.YtbljhjfaimnieaaGreat.nums Go.Proofs.YtbljhjfaimnieaaGreat.asn Go.Proofs.YtbljhjfaimnieaaGreat.pth Go.Proofs.YtbljhjfaimnieaaGreat.octet Go.Proofs.YtbljhjfaimnieaaGreat.code
set_option linter.unusedVariables false
set_option linter.unusedSimpArgs false
end Go.Proofs.YtbljhjfaimnieaaGreat.attr

namespace Go.Proofs.YtbljhjfaimnieaaGreat.attr
open Go.RowKit Go.Proofs.YtbljhjfaimnieaaGreat.kit Go.Proofs.YtbljhjfaimnieaaGreat.mem Go.Proofs.YtbljhjfaimnieaaGreat.foot Go.Proofs.YtbljhjfaimnieaaGreat.nums Go.Proofs.YtbljhjfaimnieaaGreat.asn Go.Proofs.YtbljhjfaimnieaaGreat.pth Go.Proofs.YtbljhjfaimnieaaGreat.octet Go.Proofs.YtbljhjfaimnieaaGreat.code
set_option linter.unusedVariables false
set_option linter.unusedSimpArgs false
end Go.Proofs.YtbljhjfaimnieaaGreat.attr

namespace Go.Proofs.YtbljhjfaimnieaaGreat.attr
open Go.RowKit Go.Proofs.YtbljhjfaimnieaaGreat.kit Go.Proofs.YtbljhjfaimnieaaGreat.mem Go.Proofs.YtbljhjfaimnieaaGreat.foot Go.Proofs.YtbljhjfaimnieaaGreat.nums Go.Proofs.YtbljhjfaimnieaaGreat.asn Go.Proofs.YtbljhjfaimnieaaGreat.pth Go.Proofs.YtbljhjfaimnieaaGreat.octet Go.Proofs.YtbljhjfaimnieaaGreat.code
set_option linter.unusedVariables false
set_option linter.unusedSimpArgs false
end Go.Proofs.YtbljhjfaimnieaaGreat.attr

namespace Go.Proofs.YtbljhjfaimnieaaGreat.attr
open Go.RowKit Go.Proofs.YtbljhjfaimnieaaGreat.kit Go.Proofs.YtbljhjfaimnieaaGreat.mem Go.Proofs.YtbljhjfaimnieaaGreat.foot Go.Proofs.YtbljhjfaimnieaaGreat.nums Go.Proofs.YtbljhjfaimnieaaGreat.asn Go.Proofs.YtbljhjfaimnieaaGreat.pth Go.Proofs.YtbljhjfaimnieaaGreat.octet Go.Proofs.YtbljhjfaimnieaaGreat.code
set_option linter.unusedVariables false
set_option linter.unusedSimpArgs false
end Go.Proofs.YtbljhjfaimnieaaGreat.attr
