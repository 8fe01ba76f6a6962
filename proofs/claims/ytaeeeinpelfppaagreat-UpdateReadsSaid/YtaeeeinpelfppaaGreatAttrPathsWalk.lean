/- The walk of the law AttrPaths: the Go text returns true and writes nothing that was there. No condition. -/
import Derived.Test.YtaeeeinpelfppaaGreatRefPath8
import Derived.Test.YtaeeeinpelfppaaGreatAttrDecSz
import Derived.Test.YtaeeeinpelfppaaGreatRefAsn
namespace Go.Proofs.YtaeeeinpelfppaaGreat.attrPaths
open Go.RowKit Go.Proofs.YtaeeeinpelfppaaGreat.kit Go.Proofs.YtaeeeinpelfppaaGreat.mem Go.Proofs.YtaeeeinpelfppaaGreat.foot Go.Proofs.YtaeeeinpelfppaaGreat.nums Go.Proofs.YtaeeeinpelfppaaGreat.asn Go.Proofs.YtaeeeinpelfppaaGreat.pth Go.Proofs.YtaeeeinpelfppaaGreat.octet Go.Proofs.YtaeeeinpelfppaaGreat.attr
set_option linter.unusedVariables false
set_option linter.unusedSimpArgs false
theorem bytesN_any (A : Option Addr) (c most : Nat) (l : List UInt8) (w : World) (hmo : most ≤ 1099511627776) (hcap : l.length ≤ c) (hm : c ≤ maxLen) (hA : A = none → c = 0) (hs : Bs w w.heap.size A l) :
    Calls Tryz.prog 5 #[.slice A l.length c, .int .i64 most] w fun e w' => ∃ A' c', e = .returned (.slice A' (l.take most).length c') ∧ Bn w' (fun k => w.heap.size ≤ k) A' c' (l.take most) ∧ Below w.heap.size w w' := by
  refine (Bytes_law A c w.heap.size l most w (Or.inr hmo) hcap (Nat.le_trans hcap hm) hA (Nat.le_refl _) hs).mono ?_
  rintro e w' ⟨A', c', rfl, h1, h2, h3, h4, h5, h6⟩
  exact ⟨A', c', rfl, ⟨h1, h2, h3, Rg.of_rd h4 (Nat.le_refl _) h6⟩, h5⟩
end Go.Proofs.YtaeeeinpelfppaaGreat.attrPaths
