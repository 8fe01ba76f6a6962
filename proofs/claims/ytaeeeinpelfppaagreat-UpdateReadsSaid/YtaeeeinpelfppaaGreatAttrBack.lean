/- The plain law: the bytes of good attributes are read as these. No condition. -/
import Derived.Test.YtaeeeinpelfppaaGreatAttrDecSz
import Derived.Test.YtaeeeinpelfppaaGreatRefNorm8
import Derived.Test.YtaeeeinpelfppaaGreatRefGood04
import Derived.Test.YtaeeeinpelfppaaGreatOctLives
namespace Go.Proofs.YtaeeeinpelfppaaGreat.attr
open Go.RowKit Go.Proofs.YtaeeeinpelfppaaGreat.kit Go.Proofs.YtaeeeinpelfppaaGreat.mem Go.Proofs.YtaeeeinpelfppaaGreat.foot Go.Proofs.YtaeeeinpelfppaaGreat.nums Go.Proofs.YtaeeeinpelfppaaGreat.asn Go.Proofs.YtaeeeinpelfppaaGreat.pth Go.Proofs.YtaeeeinpelfppaaGreat.octet
set_option linter.unusedVariables false
set_option linter.unusedSimpArgs false
theorem attB_val (a : Atr) (k : Nat) : (attB a k).length ≤ (valB a k).length + 4 := by
  unfold attB
  split <;> simp <;> omega
theorem encB_len {a : Atr} (hg : GoodA a) : (encB a).length ≤ 50000 := by
  have hp := pathB_eq a.path
  have hc := n4s_len a.comms
  have h3 := hg.ways.2
  have h5 := hg.ways.1.2.1
  have h6 := hg.few
  have hb : ∀ k, (if bitI a.has k = true then attB a k else []).length ≤ (valB a k).length + 4 := fun k => by
    split
    · exact attB_val a k
    · simp
  have v1 : (valB a 1).length = 1 := rfl
  have v2 : (valB a 2).length = (pathB a.path).length := rfl
  have v3 : (valB a 3).length = 4 := rfl
  have v4 : (valB a 4).length = 4 := rfl
  have v5 : (valB a 5).length = 4 := rfl
  have v6 : (valB a 6).length = 0 := rfl
  have v7 : (valB a 7).length = 8 := rfl
  have v8 : (valB a 8).length = (n4s a.comms).length := rfl
  have b1 := hb 1
  have b2 := hb 2
  have b3 := hb 3
  have b4 := hb 4
  have b5 := hb 5
  have b6 := hb 6
  have b7 := hb 7
  have b8 := hb 8
  unfold encB
  simp only [encU, List.length_append, List.length_nil, Nat.zero_add, Nat.reduceAdd]
  omega
end Go.Proofs.YtaeeeinpelfppaaGreat.attr
