/-
  No cell of these rows narrows 'for every input' (looked for: loops, veiled, ifaces, maps, wideKeys, modest, calm, conditions, laid).
  DERIVED. THE GIVEN ROWS OF THIS SEAT. 6 by the template 'for every input the law returns true; each argument reads behind the call as it read before'; 0 by the template 'total and deterministic' (their statements: YtafepficapdepaaTotals.lean).
  GIVEN WITH THE SEED: the statements are not yours to turn. If you find one false, say at which input.
  Laid BY PROGRAM, IN A SANDBOX (cutbox-rows.mjs): the forced cells as the released guide's own fill.sh prints them over the translation 73af4e5562716ab6… (all of the seat's roots in one cut). By AI agents, Wed Nov 11 2026. No macro, syntax, notation, axiom, sorry.
-/
import Derived.Test.YtafepficapdepaaChecked
import GoSem.Claim
import GoSem.ClaimJoined
import GoSem.ClaimMapViews
import Derived.JoinedTies
import Derived.KernelRfl
namespace Go.Proofs.Ytafepficapdepaa
/- THE CELL 'sum', in the pinned program and in every row, IS THE sha256 OF THE DUMP (.gsa) THAT YtafepficapdepaaProg.lean LOADS. Nothing in Lean hashes anything: it is a label: what it is worth is what the hold of that sum in a sandbox is worth. -/
noncomputable def Try.pinned : Pinned := { name := "ytafepficapdepaa", sum := "73af4e5562716ab6e191d90201478b7cc9c827bf3121a983a788fbf6e0bca48e", checked := Try.checked }
namespace Rows
def none {H : Type} : Left H := { results := [], args := [] }

/-- 'confluencelaw26.CollideRivals': WHATEVER THE INPUT: true; the input reads as it did. -/
def collideRivalsSpec : ChangeSpec := { name := "collideRivals", fn := fun _ => fun
  | [d1, d2, d3] => { results := [.lit (.bool true)], args := [d1, d2, d3] }
  | _ => none }
def collideRivalsRow : OpenClaim := { program := "ytafepficapdepaa", sum := "73af4e5562716ab6e191d90201478b7cc9c827bf3121a983a788fbf6e0bca48e", func := "confluence/confluencelaw26.CollideRivals", spec := "collideRivals", apart := false }
def CollideRivalsSaid : Prop := collideRivalsRow.holds Try.pinned (OpenSpec.ofChange collideRivalsSpec)

/-- ITS FALSE NEIGHBOUR: 'it returns false'. Refute it at one input. -/
def collideRivalsWrong : ChangeSpec := { name := "collideRivals", fn := fun _ => fun
  | [d1, d2, d3] => { results := [.lit (.bool false)], args := [d1, d2, d3] }
  | _ => none }
def CollideRivalsWrongFalsely : Prop := collideRivalsRow.holds Try.pinned (OpenSpec.ofChange collideRivalsWrong)

/-- 'confluencelaw05.TallyPlays': WHATEVER THE INPUT: true; the input reads as it did. -/
def tallyPlaysSpec : ChangeSpec := { name := "tallyPlays", fn := fun _ => fun
  | [d1, d2] => { results := [.lit (.bool true)], args := [d1, d2] }
  | _ => none }
def tallyPlaysRow : OpenClaim := { program := "ytafepficapdepaa", sum := "73af4e5562716ab6e191d90201478b7cc9c827bf3121a983a788fbf6e0bca48e", func := "confluence/confluencelaw05.TallyPlays", spec := "tallyPlays", unfollowed := true, recurses := true, apart := false }
def TallyPlaysSaid : Prop := tallyPlaysRow.holds Try.pinned (OpenSpec.ofChange tallyPlaysSpec)

/-- ITS FALSE NEIGHBOUR: 'it returns false'. Refute it at one input. -/
def tallyPlaysWrong : ChangeSpec := { name := "tallyPlays", fn := fun _ => fun
  | [d1, d2] => { results := [.lit (.bool false)], args := [d1, d2] }
  | _ => none }
def TallyPlaysWrongFalsely : Prop := tallyPlaysRow.holds Try.pinned (OpenSpec.ofChange tallyPlaysWrong)

/-- 'confluencelaw31.MergeOne': WHATEVER THE INPUT: true; the input reads as it did. -/
def mergeOneSpec : ChangeSpec := { name := "mergeOne", fn := fun _ => fun
  | [d] => { results := [.lit (.bool true)], args := [d] }
  | _ => none }
def mergeOneRow : OpenClaim := { program := "ytafepficapdepaa", sum := "73af4e5562716ab6e191d90201478b7cc9c827bf3121a983a788fbf6e0bca48e", func := "confluence/confluencelaw31.MergeOne", spec := "mergeOne", unfollowed := true, recurses := true, apart := false }
def MergeOneSaid : Prop := mergeOneRow.holds Try.pinned (OpenSpec.ofChange mergeOneSpec)

/-- ITS FALSE NEIGHBOUR: 'it returns false'. Refute it at one input. -/
def mergeOneWrong : ChangeSpec := { name := "mergeOne", fn := fun _ => fun
  | [d] => { results := [.lit (.bool false)], args := [d] }
  | _ => none }
def MergeOneWrongFalsely : Prop := mergeOneRow.holds Try.pinned (OpenSpec.ofChange mergeOneWrong)

/-- 'confluencelaw08.AttrReads': WHATEVER THE INPUT: true; the input reads as it did. -/
def attrReadsSpec : ChangeSpec := { name := "attrReads", fn := fun _ => fun
  | [d] => { results := [.lit (.bool true)], args := [d] }
  | _ => none }
def attrReadsRow : OpenClaim := { program := "ytafepficapdepaa", sum := "73af4e5562716ab6e191d90201478b7cc9c827bf3121a983a788fbf6e0bca48e", func := "confluence/confluencelaw08.AttrReads", spec := "attrReads", unfollowed := true, recurses := true, apart := false }
def AttrReadsSaid : Prop := attrReadsRow.holds Try.pinned (OpenSpec.ofChange attrReadsSpec)

/-- ITS FALSE NEIGHBOUR: 'it returns false'. Refute it at one input. -/
def attrReadsWrong : ChangeSpec := { name := "attrReads", fn := fun _ => fun
  | [d] => { results := [.lit (.bool false)], args := [d] }
  | _ => none }
def AttrReadsWrongFalsely : Prop := attrReadsRow.holds Try.pinned (OpenSpec.ofChange attrReadsWrong)

/-- 'confluencelaw08.AttrPaths': WHATEVER THE INPUT: true; the input reads as it did. -/
def attrPathsSpec : ChangeSpec := { name := "attrPaths", fn := fun _ => fun
  | [d] => { results := [.lit (.bool true)], args := [d] }
  | _ => none }
def attrPathsRow : OpenClaim := { program := "ytafepficapdepaa", sum := "73af4e5562716ab6e191d90201478b7cc9c827bf3121a983a788fbf6e0bca48e", func := "confluence/confluencelaw08.AttrPaths", spec := "attrPaths", unfollowed := true, recurses := true, apart := false }
def AttrPathsSaid : Prop := attrPathsRow.holds Try.pinned (OpenSpec.ofChange attrPathsSpec)

/-- ITS FALSE NEIGHBOUR: 'it returns false'. Refute it at one input. -/
def attrPathsWrong : ChangeSpec := { name := "attrPaths", fn := fun _ => fun
  | [d] => { results := [.lit (.bool false)], args := [d] }
  | _ => none }
def AttrPathsWrongFalsely : Prop := attrPathsRow.holds Try.pinned (OpenSpec.ofChange attrPathsWrong)

/-- 'confluencelaw08.AttrWrites': WHATEVER THE INPUT: true; the input reads as it did. -/
def attrWritesSpec : ChangeSpec := { name := "attrWrites", fn := fun _ => fun
  | [d] => { results := [.lit (.bool true)], args := [d] }
  | _ => none }
def attrWritesRow : OpenClaim := { program := "ytafepficapdepaa", sum := "73af4e5562716ab6e191d90201478b7cc9c827bf3121a983a788fbf6e0bca48e", func := "confluence/confluencelaw08.AttrWrites", spec := "attrWrites", unfollowed := true, recurses := true, apart := false }
def AttrWritesSaid : Prop := attrWritesRow.holds Try.pinned (OpenSpec.ofChange attrWritesSpec)

/-- ITS FALSE NEIGHBOUR: 'it returns false'. Refute it at one input. -/
def attrWritesWrong : ChangeSpec := { name := "attrWrites", fn := fun _ => fun
  | [d] => { results := [.lit (.bool false)], args := [d] }
  | _ => none }
def AttrWritesWrongFalsely : Prop := attrWritesRow.holds Try.pinned (OpenSpec.ofChange attrWritesWrong)

/- THE SECOND FORM. 'bulk': how many values and letters a reading holds, each counted each time it is reached (what is shared counts as often as it is met; a slice's spare places count too). A statement '..UptoSaid' is the law's where the arguments, and the package variables that the reading takes, are together of bulk at most 1048576: NARROWER than '..Said'. Prove '..Said' where nothing that the law and all that it calls make is longer than what came in: it says more and counts as full. Else prove '..UptoSaid'. A law counts once. -/
mutual
def uptoBulk {H : Type} : DataW H → Nat
  | .lit (.string bytes) => bytes.length + 1
  | .lit _ => 1
  | .nil => 1
  | .ptr d => uptoBulk d + 1
  | .slice elems spare => uptoBulkAll elems + uptoBulkAll spare + 1
  | .agg parts => uptoBulkAll parts + 1
  | .iface _ d => uptoBulk d + 1
  | .map entries => uptoBulkEntries entries + 1
  | .held _ => 1
def uptoBulkAll {H : Type} : List (DataW H) → Nat
  | [] => 0
  | d :: r => uptoBulk d + uptoBulkAll r
def uptoBulkEntries {H : Type} : List (Lit × DataW H) → Nat
  | [] => 0
  | x :: r => uptoBulkEntry x + uptoBulkEntries r
def uptoBulkEntry {H : Type} : Lit × DataW H → Nat
  | (.string bytes, d) => bytes.length + uptoBulk d + 1
  | (_, d) => uptoBulk d + 1
 end
def uptoSmall : (H : Type) → List (DataW H) → Bool := fun _ ds => decide (uptoBulkAll ds ≤ 1048576)
def OpenSpec.upto (s : _root_.Go.ChangeSpec) : _root_.Go.OpenSpec := { _root_.Go.OpenSpec.ofChange s with cond := some uptoSmall }

/-- 'confluencelaw26.CollideRivals', WHERE WHAT IT READS IS OF BULK AT MOST 1048576: true; the input reads as it did. -/
def collideRivalsUptoRow : OpenClaim := { program := "ytafepficapdepaa", sum := "73af4e5562716ab6e191d90201478b7cc9c827bf3121a983a788fbf6e0bca48e", func := "confluence/confluencelaw26.CollideRivals", spec := "collideRivals", apart := false, narrowed := true }
def CollideRivalsUptoSaid : Prop := collideRivalsUptoRow.holds Try.pinned (OpenSpec.upto collideRivalsSpec)

/-- 'confluencelaw05.TallyPlays', WHERE WHAT IT READS IS OF BULK AT MOST 1048576: true; the input reads as it did. -/
def tallyPlaysUptoRow : OpenClaim := { program := "ytafepficapdepaa", sum := "73af4e5562716ab6e191d90201478b7cc9c827bf3121a983a788fbf6e0bca48e", func := "confluence/confluencelaw05.TallyPlays", spec := "tallyPlays", unfollowed := true, recurses := true, apart := false, narrowed := true }
def TallyPlaysUptoSaid : Prop := tallyPlaysUptoRow.holds Try.pinned (OpenSpec.upto tallyPlaysSpec)

/-- 'confluencelaw31.MergeOne', WHERE WHAT IT READS IS OF BULK AT MOST 1048576: true; the input reads as it did. -/
def mergeOneUptoRow : OpenClaim := { program := "ytafepficapdepaa", sum := "73af4e5562716ab6e191d90201478b7cc9c827bf3121a983a788fbf6e0bca48e", func := "confluence/confluencelaw31.MergeOne", spec := "mergeOne", unfollowed := true, recurses := true, apart := false, narrowed := true }
def MergeOneUptoSaid : Prop := mergeOneUptoRow.holds Try.pinned (OpenSpec.upto mergeOneSpec)

/-- 'confluencelaw08.AttrReads', WHERE WHAT IT READS IS OF BULK AT MOST 1048576: true; the input reads as it did. -/
def attrReadsUptoRow : OpenClaim := { program := "ytafepficapdepaa", sum := "73af4e5562716ab6e191d90201478b7cc9c827bf3121a983a788fbf6e0bca48e", func := "confluence/confluencelaw08.AttrReads", spec := "attrReads", unfollowed := true, recurses := true, apart := false, narrowed := true }
def AttrReadsUptoSaid : Prop := attrReadsUptoRow.holds Try.pinned (OpenSpec.upto attrReadsSpec)

/-- 'confluencelaw08.AttrPaths', WHERE WHAT IT READS IS OF BULK AT MOST 1048576: true; the input reads as it did. -/
def attrPathsUptoRow : OpenClaim := { program := "ytafepficapdepaa", sum := "73af4e5562716ab6e191d90201478b7cc9c827bf3121a983a788fbf6e0bca48e", func := "confluence/confluencelaw08.AttrPaths", spec := "attrPaths", unfollowed := true, recurses := true, apart := false, narrowed := true }
def AttrPathsUptoSaid : Prop := attrPathsUptoRow.holds Try.pinned (OpenSpec.upto attrPathsSpec)

/-- 'confluencelaw08.AttrWrites', WHERE WHAT IT READS IS OF BULK AT MOST 1048576: true; the input reads as it did. -/
def attrWritesUptoRow : OpenClaim := { program := "ytafepficapdepaa", sum := "73af4e5562716ab6e191d90201478b7cc9c827bf3121a983a788fbf6e0bca48e", func := "confluence/confluencelaw08.AttrWrites", spec := "attrWrites", unfollowed := true, recurses := true, apart := false, narrowed := true }
def AttrWritesUptoSaid : Prop := attrWritesUptoRow.holds Try.pinned (OpenSpec.upto attrWritesSpec)

end Rows
end Go.Proofs.Ytafepficapdepaa
