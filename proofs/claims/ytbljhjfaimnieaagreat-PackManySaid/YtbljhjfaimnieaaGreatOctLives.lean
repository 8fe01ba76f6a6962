/- What confluencelaw06.lives returns, and readers over joined lists. No condition. -/
import Derived.Test.YtbljhjfaimnieaaGreatOctRef
import Derived.Test.YtbljhjfaimnieaaGreatStr
import Derived.Deep.RegionHeld3
import Derived.Deep.RegionWith
namespace Go.Proofs.YtbljhjfaimnieaaGreat.octet
open Go.RowKit Go.Proofs.YtbljhjfaimnieaaGreat.kit Go.Proofs.YtbljhjfaimnieaaGreat.mem
set_option linter.unusedVariables false

def be4 (n : Int) : List UInt8 := [byteOf (n / 16777216), byteOf (n / 65536), byteOf (n / 256), byteOf n]
theorem Wtr.grown {w w' : World} {B b r : Nat} {l : List UInt8} (h : Wtr w B b l) (hg : w.grownBy w' (some r)) (hr : r < B) : Wtr w' B b l := by
  obtain ⟨h1, A, c, hk, ho⟩ := h
  refine ⟨h1, A, c, hk.grown hg (by intro e; injection e with e; omega), ho.kept hg ?_⟩
  by_cases e : (Value.slice A l.length c).ownBlock = none
  · exact .inl e
  · refine .inr (fun e2 => ?_)
    have := (ho.lt r e2).1
    omega

/-- a writer that has just been made -/
theorem wtr_new (w : World) : Wtr (w.alloc (.cells #[.slice none 0 0] 127)) w.heap.size w.heap.size [] :=
  ⟨Nat.le_refl _, none, 0, Bk.new w _ _, ⟨rfl, .inl ⟨rfl, rfl⟩⟩⟩

end Go.Proofs.YtbljhjfaimnieaaGreat.octet
