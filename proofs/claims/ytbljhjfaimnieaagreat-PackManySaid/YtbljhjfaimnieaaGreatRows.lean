/-
  No cell of these rows narrows 'for every input' (looked for: loops, veiled, ifaces, maps, wideKeys, modest, calm, conditions, laid).
  DERIVED. THE GIVEN ROWS OF THIS SEAT. 3 by the template 'for every input the law returns true; each argument reads behind the call as it read before'; 0 by the template 'total and deterministic' (their statements: YtbljhjfaimnieaaGreatTotals.lean).
  GIVEN WITH THE SEED: the statements are not yours to turn. If you find one false, say at which input.
  Laid BY PROGRAM, IN A SANDBOX (cutbox-rows.mjs): the forced cells as the released guide's own fill.sh prints them over the translation a6846cd4ec628133… (all of the seat's roots in one cut). By AI agents, Wed Nov 11 2026. No macro, syntax, notation, axiom, sorry.
-/
import Derived.Test.YtbljhjfaimnieaaGreatChecked
import GoSem.Claim
import GoSem.ClaimJoined
import GoSem.ClaimMapViews
import Derived.JoinedTies
import Derived.KernelRfl
namespace Go.Proofs.YtbljhjfaimnieaaGreat
/- THE CELL 'sum', in the pinned program and in every row, IS THE sha256 OF THE DUMP (.gsa) THAT YtbljhjfaimnieaaGreatProg.lean LOADS. Nothing in Lean hashes anything: it is a label: what it is worth is what the hold of that sum in a sandbox is worth. -/
noncomputable def Tryz.pinned : Pinned := { name := "ytbljhjfaimnieaagreat", sum := "a6846cd4ec62813382f171897b6b4c9a211cf915b1b9fb1495ab2bbe1d28d687", checked := Tryz.checked }
namespace Rows
def none {H : Type} : Left H := { results := [], args := [] }

/-- 'confluencelaw37.PackFits': WHATEVER THE INPUT: true; the input reads as it did. -/
def packFitsSpec : ChangeSpec := { name := "packFits", fn := fun _ => fun
  | [d1, d2] => { results := [.lit (.bool true)], args := [d1, d2] }
  | _ => none }
def packFitsRow : OpenClaim := { program := "ytbljhjfaimnieaagreat", sum := "a6846cd4ec62813382f171897b6b4c9a211cf915b1b9fb1495ab2bbe1d28d687", func := "confluence/confluencelaw37.PackFits", spec := "packFits", unfollowed := true, recurses := true, apart := false }
def PackFitsSaid : Prop := packFitsRow.holds Tryz.pinned (OpenSpec.ofChange packFitsSpec)

/-- ITS FALSE NEIGHBOUR: 'it returns false'. Refute it at one input. -/
def packFitsWrong : ChangeSpec := { name := "packFits", fn := fun _ => fun
  | [d1, d2] => { results := [.lit (.bool false)], args := [d1, d2] }
  | _ => none }
def PackFitsWrongFalsely : Prop := packFitsRow.holds Tryz.pinned (OpenSpec.ofChange packFitsWrong)

/-- 'confluencelaw37.PackMakes': WHATEVER THE INPUT: true; the input reads as it did. -/
def packMakesSpec : ChangeSpec := { name := "packMakes", fn := fun _ => fun
  | [d1, d2] => { results := [.lit (.bool true)], args := [d1, d2] }
  | _ => none }
def packMakesRow : OpenClaim := { program := "ytbljhjfaimnieaagreat", sum := "a6846cd4ec62813382f171897b6b4c9a211cf915b1b9fb1495ab2bbe1d28d687", func := "confluence/confluencelaw37.PackMakes", spec := "packMakes", unfollowed := true, recurses := true, apart := false }
def PackMakesSaid : Prop := packMakesRow.holds Tryz.pinned (OpenSpec.ofChange packMakesSpec)

/-- ITS FALSE NEIGHBOUR: 'it returns false'. Refute it at one input. -/
def packMakesWrong : ChangeSpec := { name := "packMakes", fn := fun _ => fun
  | [d1, d2] => { results := [.lit (.bool false)], args := [d1, d2] }
  | _ => none }
def PackMakesWrongFalsely : Prop := packMakesRow.holds Tryz.pinned (OpenSpec.ofChange packMakesWrong)

/-- 'confluencelaw37.PackMany': WHATEVER THE INPUT: true; the input reads as it did. -/
def packManySpec : ChangeSpec := { name := "packMany", fn := fun _ => fun
  | [d1, d2] => { results := [.lit (.bool true)], args := [d1, d2] }
  | _ => none }
def packManyRow : OpenClaim := { program := "ytbljhjfaimnieaagreat", sum := "a6846cd4ec62813382f171897b6b4c9a211cf915b1b9fb1495ab2bbe1d28d687", func := "confluence/confluencelaw37.PackMany", spec := "packMany", unfollowed := true, recurses := true, apart := false }
def PackManySaid : Prop := packManyRow.holds Tryz.pinned (OpenSpec.ofChange packManySpec)

/-- ITS FALSE NEIGHBOUR: 'it returns false'. Refute it at one input. -/
def packManyWrong : ChangeSpec := { name := "packMany", fn := fun _ => fun
  | [d1, d2] => { results := [.lit (.bool false)], args := [d1, d2] }
  | _ => none }
def PackManyWrongFalsely : Prop := packManyRow.holds Tryz.pinned (OpenSpec.ofChange packManyWrong)

/- THE SECOND FORM. 'bulk': how many values and letters a reading holds, each counted each time it is reached (what is shared counts as often as it is met; a slice's spare places count too). A statement '..UptoSaid' is the law's where the arguments, and the package variables that the reading takes, are together of bulk at most 1048576: NARROWER than '..Said'. Prove '..Said' where nothing that the law and all that it calls make is longer than what came in: it says more and counts as full. Else prove '..UptoSaid'. A law counts once. -/
mutual
def uptoBulk {H : Type} : DataW H → Nat
  | .lit (.string bytes) => bytes.length + 1
  | .lit _ => 1
  | .nil => 1
  | .ptr d => uptoBulk d + 1
  | .slice elems spare => uptoBulkAll elems + uptoBulkAll spare + 1
  | .agg parts => uptoBulkAll parts + 1
  | .iface _ d => uptoBulk d + 1
  | .map entries => uptoBulkEntries entries + 1
  | .held _ => 1
def uptoBulkAll {H : Type} : List (DataW H) → Nat
  | [] => 0
  | d :: r => uptoBulk d + uptoBulkAll r
def uptoBulkEntries {H : Type} : List (Lit × DataW H) → Nat
  | [] => 0
  | x :: r => uptoBulkEntry x + uptoBulkEntries r
def uptoBulkEntry {H : Type} : Lit × DataW H → Nat
  | (.string bytes, d) => bytes.length + uptoBulk d + 1
  | (_, d) => uptoBulk d + 1
 end
def uptoSmall : (H : Type) → List (DataW H) → Bool := fun _ ds => decide (uptoBulkAll ds ≤ 1048576)
def OpenSpec.upto (s : _root_.Go.ChangeSpec) : _root_.Go.OpenSpec := { _root_.Go.OpenSpec.ofChange s with cond := some uptoSmall }

/-- 'confluencelaw37.PackFits', WHERE WHAT IT READS IS OF BULK AT MOST 1048576: true; the input reads as it did. -/
def packFitsUptoRow : OpenClaim := { program := "ytbljhjfaimnieaagreat", sum := "a6846cd4ec62813382f171897b6b4c9a211cf915b1b9fb1495ab2bbe1d28d687", func := "confluence/confluencelaw37.PackFits", spec := "packFits", unfollowed := true, recurses := true, apart := false, narrowed := true }
def PackFitsUptoSaid : Prop := packFitsUptoRow.holds Tryz.pinned (OpenSpec.upto packFitsSpec)

/-- 'confluencelaw37.PackMakes', WHERE WHAT IT READS IS OF BULK AT MOST 1048576: true; the input reads as it did. -/
def packMakesUptoRow : OpenClaim := { program := "ytbljhjfaimnieaagreat", sum := "a6846cd4ec62813382f171897b6b4c9a211cf915b1b9fb1495ab2bbe1d28d687", func := "confluence/confluencelaw37.PackMakes", spec := "packMakes", unfollowed := true, recurses := true, apart := false, narrowed := true }
def PackMakesUptoSaid : Prop := packMakesUptoRow.holds Tryz.pinned (OpenSpec.upto packMakesSpec)

/-- 'confluencelaw37.PackMany', WHERE WHAT IT READS IS OF BULK AT MOST 1048576: true; the input reads as it did. -/
def packManyUptoRow : OpenClaim := { program := "ytbljhjfaimnieaagreat", sum := "a6846cd4ec62813382f171897b6b4c9a211cf915b1b9fb1495ab2bbe1d28d687", func := "confluence/confluencelaw37.PackMany", spec := "packMany", unfollowed := true, recurses := true, apart := false, narrowed := true }
def PackManyUptoSaid : Prop := packManyUptoRow.holds Tryz.pinned (OpenSpec.upto packManySpec)

end Rows
end Go.Proofs.YtbljhjfaimnieaaGreat
