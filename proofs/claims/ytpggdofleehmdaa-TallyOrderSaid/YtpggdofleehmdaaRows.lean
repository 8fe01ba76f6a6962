/-
  No cell of these rows narrows 'for every input' (looked for: loops, veiled, ifaces, maps, wideKeys, modest, calm, conditions, laid).
  DERIVED. THE GIVEN ROWS OF THIS SEAT. 12 by the template 'for every input the law returns true; each argument reads behind the call as it read before'; 0 by the template 'total and deterministic' (their statements: YtpggdofleehmdaaTotals.lean).
  GIVEN WITH THE SEED: the statements are not yours to turn. If you find one false, say at which input.
  Laid BY PROGRAM, IN A SANDBOX (cutbox-rows.mjs): the forced cells as the released guide's own fill.sh prints them over the translation ff957a9e38dda883… (all of the seat's roots in one cut). By AI agents, Wed Nov 11 2026. No macro, syntax, notation, axiom, sorry.
-/
import Derived.Test.YtpggdofleehmdaaChecked
import GoSem.Claim
import GoSem.ClaimJoined
import GoSem.ClaimMapViews
import Derived.JoinedTies
import Derived.KernelRfl
namespace Go.Proofs.Ytpggdofleehmdaa
/- THE CELL 'sum', in the pinned program and in every row, IS THE sha256 OF THE DUMP (.gsa) THAT YtpggdofleehmdaaProg.lean LOADS. Nothing in Lean hashes anything: it is a label: what it is worth is what the hold of that sum in a sandbox is worth. -/
noncomputable def Try.pinned : Pinned := { name := "ytpggdofleehmdaa", sum := "ff957a9e38dda883599a14db36fdb10d2f3666139da4b11dceda47ce2f8e1987", checked := Try.checked }
namespace Rows
def none {H : Type} : Left H := { results := [], args := [] }

/-- 'confluencelaw26.CollideKeeps': WHATEVER THE INPUT: true; the input reads as it did. -/
def collideKeepsSpec : ChangeSpec := { name := "collideKeeps", fn := fun _ => fun
  | [d1, d2, d3] => { results := [.lit (.bool true)], args := [d1, d2, d3] }
  | _ => none }
def collideKeepsRow : OpenClaim := { program := "ytpggdofleehmdaa", sum := "ff957a9e38dda883599a14db36fdb10d2f3666139da4b11dceda47ce2f8e1987", func := "confluence/confluencelaw26.CollideKeeps", spec := "collideKeeps", apart := false }
def CollideKeepsSaid : Prop := collideKeepsRow.holds Try.pinned (OpenSpec.ofChange collideKeepsSpec)

/-- ITS FALSE NEIGHBOUR: 'it returns false'. Refute it at one input. -/
def collideKeepsWrong : ChangeSpec := { name := "collideKeeps", fn := fun _ => fun
  | [d1, d2, d3] => { results := [.lit (.bool false)], args := [d1, d2, d3] }
  | _ => none }
def CollideKeepsWrongFalsely : Prop := collideKeepsRow.holds Try.pinned (OpenSpec.ofChange collideKeepsWrong)

/-- 'confluencelaw42.PlaneAddrs': WHATEVER THE INPUT: true; the input reads as it did. -/
def planeAddrsSpec : ChangeSpec := { name := "planeAddrs", fn := fun _ => fun
  | [d1, d2, d3] => { results := [.lit (.bool true)], args := [d1, d2, d3] }
  | _ => none }
def planeAddrsRow : OpenClaim := { program := "ytpggdofleehmdaa", sum := "ff957a9e38dda883599a14db36fdb10d2f3666139da4b11dceda47ce2f8e1987", func := "confluence/confluencelaw42.PlaneAddrs", spec := "planeAddrs", apart := false }
def PlaneAddrsSaid : Prop := planeAddrsRow.holds Try.pinned (OpenSpec.ofChange planeAddrsSpec)

/-- ITS FALSE NEIGHBOUR: 'it returns false'. Refute it at one input. -/
def planeAddrsWrong : ChangeSpec := { name := "planeAddrs", fn := fun _ => fun
  | [d1, d2, d3] => { results := [.lit (.bool false)], args := [d1, d2, d3] }
  | _ => none }
def PlaneAddrsWrongFalsely : Prop := planeAddrsRow.holds Try.pinned (OpenSpec.ofChange planeAddrsWrong)

/-- 'confluencelaw05.TallyTimes': WHATEVER THE INPUT: true; the input reads as it did. -/
def tallyTimesSpec : ChangeSpec := { name := "tallyTimes", fn := fun _ => fun
  | [d1, d2] => { results := [.lit (.bool true)], args := [d1, d2] }
  | _ => none }
def tallyTimesRow : OpenClaim := { program := "ytpggdofleehmdaa", sum := "ff957a9e38dda883599a14db36fdb10d2f3666139da4b11dceda47ce2f8e1987", func := "confluence/confluencelaw05.TallyTimes", spec := "tallyTimes", unfollowed := true, recurses := true, apart := false }
def TallyTimesSaid : Prop := tallyTimesRow.holds Try.pinned (OpenSpec.ofChange tallyTimesSpec)

/-- ITS FALSE NEIGHBOUR: 'it returns false'. Refute it at one input. -/
def tallyTimesWrong : ChangeSpec := { name := "tallyTimes", fn := fun _ => fun
  | [d1, d2] => { results := [.lit (.bool false)], args := [d1, d2] }
  | _ => none }
def TallyTimesWrongFalsely : Prop := tallyTimesRow.holds Try.pinned (OpenSpec.ofChange tallyTimesWrong)

/-- 'confluencelaw42.PlanePoints': WHATEVER THE INPUT: true; the input reads as it did. -/
def planePointsSpec : ChangeSpec := { name := "planePoints", fn := fun _ => fun
  | [d1, d2] => { results := [.lit (.bool true)], args := [d1, d2] }
  | _ => none }
def planePointsRow : OpenClaim := { program := "ytpggdofleehmdaa", sum := "ff957a9e38dda883599a14db36fdb10d2f3666139da4b11dceda47ce2f8e1987", func := "confluence/confluencelaw42.PlanePoints", spec := "planePoints", apart := false }
def PlanePointsSaid : Prop := planePointsRow.holds Try.pinned (OpenSpec.ofChange planePointsSpec)

/-- ITS FALSE NEIGHBOUR: 'it returns false'. Refute it at one input. -/
def planePointsWrong : ChangeSpec := { name := "planePoints", fn := fun _ => fun
  | [d1, d2] => { results := [.lit (.bool false)], args := [d1, d2] }
  | _ => none }
def PlanePointsWrongFalsely : Prop := planePointsRow.holds Try.pinned (OpenSpec.ofChange planePointsWrong)

/-- 'confluencelaw42.PlaneDoubles': WHATEVER THE INPUT: true; the input reads as it did. -/
def planeDoublesSpec : ChangeSpec := { name := "planeDoubles", fn := fun _ => fun
  | [d] => { results := [.lit (.bool true)], args := [d] }
  | _ => none }
def planeDoublesRow : OpenClaim := { program := "ytpggdofleehmdaa", sum := "ff957a9e38dda883599a14db36fdb10d2f3666139da4b11dceda47ce2f8e1987", func := "confluence/confluencelaw42.PlaneDoubles", spec := "planeDoubles", apart := false }
def PlaneDoublesSaid : Prop := planeDoublesRow.holds Try.pinned (OpenSpec.ofChange planeDoublesSpec)

/-- ITS FALSE NEIGHBOUR: 'it returns false'. Refute it at one input. -/
def planeDoublesWrong : ChangeSpec := { name := "planeDoubles", fn := fun _ => fun
  | [d] => { results := [.lit (.bool false)], args := [d] }
  | _ => none }
def PlaneDoublesWrongFalsely : Prop := planeDoublesRow.holds Try.pinned (OpenSpec.ofChange planeDoublesWrong)

/-- 'confluencelaw05.TallyFar': WHATEVER THE INPUT: true; the input reads as it did. -/
def tallyFarSpec : ChangeSpec := { name := "tallyFar", fn := fun _ => fun
  | [d1, d2] => { results := [.lit (.bool true)], args := [d1, d2] }
  | _ => none }
def tallyFarRow : OpenClaim := { program := "ytpggdofleehmdaa", sum := "ff957a9e38dda883599a14db36fdb10d2f3666139da4b11dceda47ce2f8e1987", func := "confluence/confluencelaw05.TallyFar", spec := "tallyFar", unfollowed := true, recurses := true, apart := false }
def TallyFarSaid : Prop := tallyFarRow.holds Try.pinned (OpenSpec.ofChange tallyFarSpec)

/-- ITS FALSE NEIGHBOUR: 'it returns false'. Refute it at one input. -/
def tallyFarWrong : ChangeSpec := { name := "tallyFar", fn := fun _ => fun
  | [d1, d2] => { results := [.lit (.bool false)], args := [d1, d2] }
  | _ => none }
def TallyFarWrongFalsely : Prop := tallyFarRow.holds Try.pinned (OpenSpec.ofChange tallyFarWrong)

/-- 'confluencelaw05.TallyOrder': WHATEVER THE INPUT: true; the input reads as it did. -/
def tallyOrderSpec : ChangeSpec := { name := "tallyOrder", fn := fun _ => fun
  | [d] => { results := [.lit (.bool true)], args := [d] }
  | _ => none }
def tallyOrderRow : OpenClaim := { program := "ytpggdofleehmdaa", sum := "ff957a9e38dda883599a14db36fdb10d2f3666139da4b11dceda47ce2f8e1987", func := "confluence/confluencelaw05.TallyOrder", spec := "tallyOrder", unfollowed := true, recurses := true, apart := false }
def TallyOrderSaid : Prop := tallyOrderRow.holds Try.pinned (OpenSpec.ofChange tallyOrderSpec)

/-- ITS FALSE NEIGHBOUR: 'it returns false'. Refute it at one input. -/
def tallyOrderWrong : ChangeSpec := { name := "tallyOrder", fn := fun _ => fun
  | [d] => { results := [.lit (.bool false)], args := [d] }
  | _ => none }
def TallyOrderWrongFalsely : Prop := tallyOrderRow.holds Try.pinned (OpenSpec.ofChange tallyOrderWrong)

/-- 'confluencelaw42.PlaneTurns': WHATEVER THE INPUT: true; the input reads as it did. -/
def planeTurnsSpec : ChangeSpec := { name := "planeTurns", fn := fun _ => fun
  | [d1, d2, d3] => { results := [.lit (.bool true)], args := [d1, d2, d3] }
  | _ => none }
def planeTurnsRow : OpenClaim := { program := "ytpggdofleehmdaa", sum := "ff957a9e38dda883599a14db36fdb10d2f3666139da4b11dceda47ce2f8e1987", func := "confluence/confluencelaw42.PlaneTurns", spec := "planeTurns", apart := false }
def PlaneTurnsSaid : Prop := planeTurnsRow.holds Try.pinned (OpenSpec.ofChange planeTurnsSpec)

/-- ITS FALSE NEIGHBOUR: 'it returns false'. Refute it at one input. -/
def planeTurnsWrong : ChangeSpec := { name := "planeTurns", fn := fun _ => fun
  | [d1, d2, d3] => { results := [.lit (.bool false)], args := [d1, d2, d3] }
  | _ => none }
def PlaneTurnsWrongFalsely : Prop := planeTurnsRow.holds Try.pinned (OpenSpec.ofChange planeTurnsWrong)

/-- 'confluencelaw42.PlaneBoxes': WHATEVER THE INPUT: true; the input reads as it did. -/
def planeBoxesSpec : ChangeSpec := { name := "planeBoxes", fn := fun _ => fun
  | [d1, d2] => { results := [.lit (.bool true)], args := [d1, d2] }
  | _ => none }
def planeBoxesRow : OpenClaim := { program := "ytpggdofleehmdaa", sum := "ff957a9e38dda883599a14db36fdb10d2f3666139da4b11dceda47ce2f8e1987", func := "confluence/confluencelaw42.PlaneBoxes", spec := "planeBoxes", apart := false }
def PlaneBoxesSaid : Prop := planeBoxesRow.holds Try.pinned (OpenSpec.ofChange planeBoxesSpec)

/-- ITS FALSE NEIGHBOUR: 'it returns false'. Refute it at one input. -/
def planeBoxesWrong : ChangeSpec := { name := "planeBoxes", fn := fun _ => fun
  | [d1, d2] => { results := [.lit (.bool false)], args := [d1, d2] }
  | _ => none }
def PlaneBoxesWrongFalsely : Prop := planeBoxesRow.holds Try.pinned (OpenSpec.ofChange planeBoxesWrong)

/-- 'confluencelaw42.PlaneFar': WHATEVER THE INPUT: true; the input reads as it did. -/
def planeFarSpec : ChangeSpec := { name := "planeFar", fn := fun _ => fun
  | [d1, d2, d3] => { results := [.lit (.bool true)], args := [d1, d2, d3] }
  | _ => none }
def planeFarRow : OpenClaim := { program := "ytpggdofleehmdaa", sum := "ff957a9e38dda883599a14db36fdb10d2f3666139da4b11dceda47ce2f8e1987", func := "confluence/confluencelaw42.PlaneFar", spec := "planeFar", unfollowed := true, recurses := true, apart := false }
def PlaneFarSaid : Prop := planeFarRow.holds Try.pinned (OpenSpec.ofChange planeFarSpec)

/-- ITS FALSE NEIGHBOUR: 'it returns false'. Refute it at one input. -/
def planeFarWrong : ChangeSpec := { name := "planeFar", fn := fun _ => fun
  | [d1, d2, d3] => { results := [.lit (.bool false)], args := [d1, d2, d3] }
  | _ => none }
def PlaneFarWrongFalsely : Prop := planeFarRow.holds Try.pinned (OpenSpec.ofChange planeFarWrong)

/-- 'confluencelaw05.TallyPlays': WHATEVER THE INPUT: true; the input reads as it did. -/
def tallyPlaysSpec : ChangeSpec := { name := "tallyPlays", fn := fun _ => fun
  | [d1, d2] => { results := [.lit (.bool true)], args := [d1, d2] }
  | _ => none }
def tallyPlaysRow : OpenClaim := { program := "ytpggdofleehmdaa", sum := "ff957a9e38dda883599a14db36fdb10d2f3666139da4b11dceda47ce2f8e1987", func := "confluence/confluencelaw05.TallyPlays", spec := "tallyPlays", unfollowed := true, recurses := true, apart := false }
def TallyPlaysSaid : Prop := tallyPlaysRow.holds Try.pinned (OpenSpec.ofChange tallyPlaysSpec)

/-- ITS FALSE NEIGHBOUR: 'it returns false'. Refute it at one input. -/
def tallyPlaysWrong : ChangeSpec := { name := "tallyPlays", fn := fun _ => fun
  | [d1, d2] => { results := [.lit (.bool false)], args := [d1, d2] }
  | _ => none }
def TallyPlaysWrongFalsely : Prop := tallyPlaysRow.holds Try.pinned (OpenSpec.ofChange tallyPlaysWrong)

/-- 'confluencelaw05.TallyNone': WHATEVER THE INPUT: true; the input reads as it did. -/
def tallyNoneSpec : ChangeSpec := { name := "tallyNone", fn := fun _ => fun
  | [d] => { results := [.lit (.bool true)], args := [d] }
  | _ => none }
def tallyNoneRow : OpenClaim := { program := "ytpggdofleehmdaa", sum := "ff957a9e38dda883599a14db36fdb10d2f3666139da4b11dceda47ce2f8e1987", func := "confluence/confluencelaw05.TallyNone", spec := "tallyNone", unfollowed := true, recurses := true, apart := false }
def TallyNoneSaid : Prop := tallyNoneRow.holds Try.pinned (OpenSpec.ofChange tallyNoneSpec)

/-- ITS FALSE NEIGHBOUR: 'it returns false'. Refute it at one input. -/
def tallyNoneWrong : ChangeSpec := { name := "tallyNone", fn := fun _ => fun
  | [d] => { results := [.lit (.bool false)], args := [d] }
  | _ => none }
def TallyNoneWrongFalsely : Prop := tallyNoneRow.holds Try.pinned (OpenSpec.ofChange tallyNoneWrong)

/- THE SECOND FORM. 'bulk': how many values and letters a reading holds, each counted each time it is reached (what is shared counts as often as it is met; a slice's spare places count too). A statement '..UptoSaid' is the law's where the arguments, and the package variables that the reading takes, are together of bulk at most 1048576: NARROWER than '..Said'. Prove '..Said' where nothing that the law and all that it calls make is longer than what came in: it says more and counts as full. Else prove '..UptoSaid'. A law counts once. -/
mutual
def uptoBulk {H : Type} : DataW H → Nat
  | .lit (.string bytes) => bytes.length + 1
  | .lit _ => 1
  | .nil => 1
  | .ptr d => uptoBulk d + 1
  | .slice elems spare => uptoBulkAll elems + uptoBulkAll spare + 1
  | .agg parts => uptoBulkAll parts + 1
  | .iface _ d => uptoBulk d + 1
  | .map entries => uptoBulkEntries entries + 1
  | .held _ => 1
def uptoBulkAll {H : Type} : List (DataW H) → Nat
  | [] => 0
  | d :: r => uptoBulk d + uptoBulkAll r
def uptoBulkEntries {H : Type} : List (Lit × DataW H) → Nat
  | [] => 0
  | x :: r => uptoBulkEntry x + uptoBulkEntries r
def uptoBulkEntry {H : Type} : Lit × DataW H → Nat
  | (.string bytes, d) => bytes.length + uptoBulk d + 1
  | (_, d) => uptoBulk d + 1
 end
def uptoSmall : (H : Type) → List (DataW H) → Bool := fun _ ds => decide (uptoBulkAll ds ≤ 1048576)
def OpenSpec.upto (s : _root_.Go.ChangeSpec) : _root_.Go.OpenSpec := { _root_.Go.OpenSpec.ofChange s with cond := some uptoSmall }

/-- 'confluencelaw26.CollideKeeps', WHERE WHAT IT READS IS OF BULK AT MOST 1048576: true; the input reads as it did. -/
def collideKeepsUptoRow : OpenClaim := { program := "ytpggdofleehmdaa", sum := "ff957a9e38dda883599a14db36fdb10d2f3666139da4b11dceda47ce2f8e1987", func := "confluence/confluencelaw26.CollideKeeps", spec := "collideKeeps", apart := false, narrowed := true }
def CollideKeepsUptoSaid : Prop := collideKeepsUptoRow.holds Try.pinned (OpenSpec.upto collideKeepsSpec)

/-- 'confluencelaw42.PlaneAddrs', WHERE WHAT IT READS IS OF BULK AT MOST 1048576: true; the input reads as it did. -/
def planeAddrsUptoRow : OpenClaim := { program := "ytpggdofleehmdaa", sum := "ff957a9e38dda883599a14db36fdb10d2f3666139da4b11dceda47ce2f8e1987", func := "confluence/confluencelaw42.PlaneAddrs", spec := "planeAddrs", apart := false, narrowed := true }
def PlaneAddrsUptoSaid : Prop := planeAddrsUptoRow.holds Try.pinned (OpenSpec.upto planeAddrsSpec)

/-- 'confluencelaw05.TallyTimes', WHERE WHAT IT READS IS OF BULK AT MOST 1048576: true; the input reads as it did. -/
def tallyTimesUptoRow : OpenClaim := { program := "ytpggdofleehmdaa", sum := "ff957a9e38dda883599a14db36fdb10d2f3666139da4b11dceda47ce2f8e1987", func := "confluence/confluencelaw05.TallyTimes", spec := "tallyTimes", unfollowed := true, recurses := true, apart := false, narrowed := true }
def TallyTimesUptoSaid : Prop := tallyTimesUptoRow.holds Try.pinned (OpenSpec.upto tallyTimesSpec)

/-- 'confluencelaw42.PlanePoints', WHERE WHAT IT READS IS OF BULK AT MOST 1048576: true; the input reads as it did. -/
def planePointsUptoRow : OpenClaim := { program := "ytpggdofleehmdaa", sum := "ff957a9e38dda883599a14db36fdb10d2f3666139da4b11dceda47ce2f8e1987", func := "confluence/confluencelaw42.PlanePoints", spec := "planePoints", apart := false, narrowed := true }
def PlanePointsUptoSaid : Prop := planePointsUptoRow.holds Try.pinned (OpenSpec.upto planePointsSpec)

/-- 'confluencelaw42.PlaneDoubles', WHERE WHAT IT READS IS OF BULK AT MOST 1048576: true; the input reads as it did. -/
def planeDoublesUptoRow : OpenClaim := { program := "ytpggdofleehmdaa", sum := "ff957a9e38dda883599a14db36fdb10d2f3666139da4b11dceda47ce2f8e1987", func := "confluence/confluencelaw42.PlaneDoubles", spec := "planeDoubles", apart := false, narrowed := true }
def PlaneDoublesUptoSaid : Prop := planeDoublesUptoRow.holds Try.pinned (OpenSpec.upto planeDoublesSpec)

/-- 'confluencelaw05.TallyFar', WHERE WHAT IT READS IS OF BULK AT MOST 1048576: true; the input reads as it did. -/
def tallyFarUptoRow : OpenClaim := { program := "ytpggdofleehmdaa", sum := "ff957a9e38dda883599a14db36fdb10d2f3666139da4b11dceda47ce2f8e1987", func := "confluence/confluencelaw05.TallyFar", spec := "tallyFar", unfollowed := true, recurses := true, apart := false, narrowed := true }
def TallyFarUptoSaid : Prop := tallyFarUptoRow.holds Try.pinned (OpenSpec.upto tallyFarSpec)

/-- 'confluencelaw05.TallyOrder', WHERE WHAT IT READS IS OF BULK AT MOST 1048576: true; the input reads as it did. -/
def tallyOrderUptoRow : OpenClaim := { program := "ytpggdofleehmdaa", sum := "ff957a9e38dda883599a14db36fdb10d2f3666139da4b11dceda47ce2f8e1987", func := "confluence/confluencelaw05.TallyOrder", spec := "tallyOrder", unfollowed := true, recurses := true, apart := false, narrowed := true }
def TallyOrderUptoSaid : Prop := tallyOrderUptoRow.holds Try.pinned (OpenSpec.upto tallyOrderSpec)

/-- 'confluencelaw42.PlaneTurns', WHERE WHAT IT READS IS OF BULK AT MOST 1048576: true; the input reads as it did. -/
def planeTurnsUptoRow : OpenClaim := { program := "ytpggdofleehmdaa", sum := "ff957a9e38dda883599a14db36fdb10d2f3666139da4b11dceda47ce2f8e1987", func := "confluence/confluencelaw42.PlaneTurns", spec := "planeTurns", apart := false, narrowed := true }
def PlaneTurnsUptoSaid : Prop := planeTurnsUptoRow.holds Try.pinned (OpenSpec.upto planeTurnsSpec)

/-- 'confluencelaw42.PlaneBoxes', WHERE WHAT IT READS IS OF BULK AT MOST 1048576: true; the input reads as it did. -/
def planeBoxesUptoRow : OpenClaim := { program := "ytpggdofleehmdaa", sum := "ff957a9e38dda883599a14db36fdb10d2f3666139da4b11dceda47ce2f8e1987", func := "confluence/confluencelaw42.PlaneBoxes", spec := "planeBoxes", apart := false, narrowed := true }
def PlaneBoxesUptoSaid : Prop := planeBoxesUptoRow.holds Try.pinned (OpenSpec.upto planeBoxesSpec)

/-- 'confluencelaw42.PlaneFar', WHERE WHAT IT READS IS OF BULK AT MOST 1048576: true; the input reads as it did. -/
def planeFarUptoRow : OpenClaim := { program := "ytpggdofleehmdaa", sum := "ff957a9e38dda883599a14db36fdb10d2f3666139da4b11dceda47ce2f8e1987", func := "confluence/confluencelaw42.PlaneFar", spec := "planeFar", unfollowed := true, recurses := true, apart := false, narrowed := true }
def PlaneFarUptoSaid : Prop := planeFarUptoRow.holds Try.pinned (OpenSpec.upto planeFarSpec)

/-- 'confluencelaw05.TallyPlays', WHERE WHAT IT READS IS OF BULK AT MOST 1048576: true; the input reads as it did. -/
def tallyPlaysUptoRow : OpenClaim := { program := "ytpggdofleehmdaa", sum := "ff957a9e38dda883599a14db36fdb10d2f3666139da4b11dceda47ce2f8e1987", func := "confluence/confluencelaw05.TallyPlays", spec := "tallyPlays", unfollowed := true, recurses := true, apart := false, narrowed := true }
def TallyPlaysUptoSaid : Prop := tallyPlaysUptoRow.holds Try.pinned (OpenSpec.upto tallyPlaysSpec)

/-- 'confluencelaw05.TallyNone', WHERE WHAT IT READS IS OF BULK AT MOST 1048576: true; the input reads as it did. -/
def tallyNoneUptoRow : OpenClaim := { program := "ytpggdofleehmdaa", sum := "ff957a9e38dda883599a14db36fdb10d2f3666139da4b11dceda47ce2f8e1987", func := "confluence/confluencelaw05.TallyNone", spec := "tallyNone", unfollowed := true, recurses := true, apart := false, narrowed := true }
def TallyNoneUptoSaid : Prop := tallyNoneUptoRow.holds Try.pinned (OpenSpec.upto tallyNoneSpec)

end Rows
end Go.Proofs.Ytpggdofleehmdaa
