/-
  No cell of these rows narrows 'for every input' (looked for: loops, veiled, ifaces, maps, wideKeys, modest, calm, conditions, laid).
  DERIVED. THE GIVEN ROWS OF THIS SEAT. 11 by the template 'for every input the law returns true; each argument reads behind the call as it read before'; 0 by the template 'total and deterministic' (their statements: YtajilbapjpfloaaTotals.lean).
  GIVEN WITH THE SEED: the statements are not yours to turn. If you find one false, say at which input.
  Laid BY PROGRAM, IN A SANDBOX (cutbox-rows.mjs): the forced cells as the released guide's own fill.sh prints them over the translation 793168756b462ff9… (all of the seat's roots in one cut). By AI agents, Wed Nov 11 2026. No macro, syntax, notation, axiom, sorry.
-/
import Derived.Test.YtajilbapjpfloaaChecked
import GoSem.Claim
import GoSem.ClaimJoined
import GoSem.ClaimMapViews
import Derived.JoinedTies
import Derived.KernelRfl
namespace Go.Proofs.Ytajilbapjpfloaa
/- THE CELL 'sum', in the pinned program and in every row, IS THE sha256 OF THE DUMP (.gsa) THAT YtajilbapjpfloaaProg.lean LOADS. Nothing in Lean hashes anything: it is a label: what it is worth is what the hold of that sum in a sandbox is worth. -/
noncomputable def Try.pinned : Pinned := { name := "ytajilbapjpfloaa", sum := "793168756b462ff93d6dad91ffb7b2522aac1e781b2b44eafa22780f4c8c2c83", checked := Try.checked }
namespace Rows
def none {H : Type} : Left H := { results := [], args := [] }

/-- 'confluencelaw09.OpenTimes': WHATEVER THE INPUT: true; the input reads as it did. -/
def openTimesSpec : ChangeSpec := { name := "openTimes", fn := fun _ => fun
  | [d1, d2] => { results := [.lit (.bool true)], args := [d1, d2] }
  | _ => none }
def openTimesRow : OpenClaim := { program := "ytajilbapjpfloaa", sum := "793168756b462ff93d6dad91ffb7b2522aac1e781b2b44eafa22780f4c8c2c83", func := "confluence/confluencelaw09.OpenTimes", spec := "openTimes", apart := false }
def OpenTimesSaid : Prop := openTimesRow.holds Try.pinned (OpenSpec.ofChange openTimesSpec)

/-- ITS FALSE NEIGHBOUR: 'it returns false'. Refute it at one input. -/
def openTimesWrong : ChangeSpec := { name := "openTimes", fn := fun _ => fun
  | [d1, d2] => { results := [.lit (.bool false)], args := [d1, d2] }
  | _ => none }
def OpenTimesWrongFalsely : Prop := openTimesRow.holds Try.pinned (OpenSpec.ofChange openTimesWrong)

/-- 'confluencelaw06.OctetReads': WHATEVER THE INPUT: true; the input reads as it did. -/
def octetReadsSpec : ChangeSpec := { name := "octetReads", fn := fun _ => fun
  | [d1, d2, d3] => { results := [.lit (.bool true)], args := [d1, d2, d3] }
  | _ => none }
def octetReadsRow : OpenClaim := { program := "ytajilbapjpfloaa", sum := "793168756b462ff93d6dad91ffb7b2522aac1e781b2b44eafa22780f4c8c2c83", func := "confluence/confluencelaw06.OctetReads", spec := "octetReads", apart := false }
def OctetReadsSaid : Prop := octetReadsRow.holds Try.pinned (OpenSpec.ofChange octetReadsSpec)

/-- ITS FALSE NEIGHBOUR: 'it returns false'. Refute it at one input. -/
def octetReadsWrong : ChangeSpec := { name := "octetReads", fn := fun _ => fun
  | [d1, d2, d3] => { results := [.lit (.bool false)], args := [d1, d2, d3] }
  | _ => none }
def OctetReadsWrongFalsely : Prop := octetReadsRow.holds Try.pinned (OpenSpec.ofChange octetReadsWrong)

/-- 'confluencelaw06.OctetBack': WHATEVER THE INPUT: true; the input reads as it did. -/
def octetBackSpec : ChangeSpec := { name := "octetBack", fn := fun _ => fun
  | [d1, d2, d3] => { results := [.lit (.bool true)], args := [d1, d2, d3] }
  | _ => none }
def octetBackRow : OpenClaim := { program := "ytajilbapjpfloaa", sum := "793168756b462ff93d6dad91ffb7b2522aac1e781b2b44eafa22780f4c8c2c83", func := "confluence/confluencelaw06.OctetBack", spec := "octetBack", apart := false }
def OctetBackSaid : Prop := octetBackRow.holds Try.pinned (OpenSpec.ofChange octetBackSpec)

/-- ITS FALSE NEIGHBOUR: 'it returns false'. Refute it at one input. -/
def octetBackWrong : ChangeSpec := { name := "octetBack", fn := fun _ => fun
  | [d1, d2, d3] => { results := [.lit (.bool false)], args := [d1, d2, d3] }
  | _ => none }
def OctetBackWrongFalsely : Prop := octetBackRow.holds Try.pinned (OpenSpec.ofChange octetBackWrong)

/-- 'confluencelaw09.OpenJudges': WHATEVER THE INPUT: true; the input reads as it did. -/
def openJudgesSpec : ChangeSpec := { name := "openJudges", fn := fun _ => fun
  | [d1, d2, d3] => { results := [.lit (.bool true)], args := [d1, d2, d3] }
  | _ => none }
def openJudgesRow : OpenClaim := { program := "ytajilbapjpfloaa", sum := "793168756b462ff93d6dad91ffb7b2522aac1e781b2b44eafa22780f4c8c2c83", func := "confluence/confluencelaw09.OpenJudges", spec := "openJudges", apart := false }
def OpenJudgesSaid : Prop := openJudgesRow.holds Try.pinned (OpenSpec.ofChange openJudgesSpec)

/-- ITS FALSE NEIGHBOUR: 'it returns false'. Refute it at one input. -/
def openJudgesWrong : ChangeSpec := { name := "openJudges", fn := fun _ => fun
  | [d1, d2, d3] => { results := [.lit (.bool false)], args := [d1, d2, d3] }
  | _ => none }
def OpenJudgesWrongFalsely : Prop := openJudgesRow.holds Try.pinned (OpenSpec.ofChange openJudgesWrong)

/-- 'confluencelaw06.OctetWrites': WHATEVER THE INPUT: true; the input reads as it did. -/
def octetWritesSpec : ChangeSpec := { name := "octetWrites", fn := fun _ => fun
  | [d1, d2, d3] => { results := [.lit (.bool true)], args := [d1, d2, d3] }
  | _ => none }
def octetWritesRow : OpenClaim := { program := "ytajilbapjpfloaa", sum := "793168756b462ff93d6dad91ffb7b2522aac1e781b2b44eafa22780f4c8c2c83", func := "confluence/confluencelaw06.OctetWrites", spec := "octetWrites", apart := false }
def OctetWritesSaid : Prop := octetWritesRow.holds Try.pinned (OpenSpec.ofChange octetWritesSpec)

/-- ITS FALSE NEIGHBOUR: 'it returns false'. Refute it at one input. -/
def octetWritesWrong : ChangeSpec := { name := "octetWrites", fn := fun _ => fun
  | [d1, d2, d3] => { results := [.lit (.bool false)], args := [d1, d2, d3] }
  | _ => none }
def OctetWritesWrongFalsely : Prop := octetWritesRow.holds Try.pinned (OpenSpec.ofChange octetWritesWrong)

/-- 'confluencelaw06.OctetNone': WHATEVER THE INPUT: true; the input reads as it did. -/
def octetNoneSpec : ChangeSpec := { name := "octetNone", fn := fun _ => fun
  | [d] => { results := [.lit (.bool true)], args := [d] }
  | _ => none }
def octetNoneRow : OpenClaim := { program := "ytajilbapjpfloaa", sum := "793168756b462ff93d6dad91ffb7b2522aac1e781b2b44eafa22780f4c8c2c83", func := "confluence/confluencelaw06.OctetNone", spec := "octetNone", apart := false }
def OctetNoneSaid : Prop := octetNoneRow.holds Try.pinned (OpenSpec.ofChange octetNoneSpec)

/-- ITS FALSE NEIGHBOUR: 'it returns false'. Refute it at one input. -/
def octetNoneWrong : ChangeSpec := { name := "octetNone", fn := fun _ => fun
  | [d] => { results := [.lit (.bool false)], args := [d] }
  | _ => none }
def OctetNoneWrongFalsely : Prop := octetNoneRow.holds Try.pinned (OpenSpec.ofChange octetNoneWrong)

/-- 'confluencelaw07.NlriWrites': WHATEVER THE INPUT: true; the input reads as it did. -/
def nlriWritesSpec : ChangeSpec := { name := "nlriWrites", fn := fun _ => fun
  | [d] => { results := [.lit (.bool true)], args := [d] }
  | _ => none }
def nlriWritesRow : OpenClaim := { program := "ytajilbapjpfloaa", sum := "793168756b462ff93d6dad91ffb7b2522aac1e781b2b44eafa22780f4c8c2c83", func := "confluence/confluencelaw07.NlriWrites", spec := "nlriWrites", apart := false }
def NlriWritesSaid : Prop := nlriWritesRow.holds Try.pinned (OpenSpec.ofChange nlriWritesSpec)

/-- ITS FALSE NEIGHBOUR: 'it returns false'. Refute it at one input. -/
def nlriWritesWrong : ChangeSpec := { name := "nlriWrites", fn := fun _ => fun
  | [d] => { results := [.lit (.bool false)], args := [d] }
  | _ => none }
def NlriWritesWrongFalsely : Prop := nlriWritesRow.holds Try.pinned (OpenSpec.ofChange nlriWritesWrong)

/-- 'confluencelaw07.NlriReads': WHATEVER THE INPUT: true; the input reads as it did. -/
def nlriReadsSpec : ChangeSpec := { name := "nlriReads", fn := fun _ => fun
  | [d] => { results := [.lit (.bool true)], args := [d] }
  | _ => none }
def nlriReadsRow : OpenClaim := { program := "ytajilbapjpfloaa", sum := "793168756b462ff93d6dad91ffb7b2522aac1e781b2b44eafa22780f4c8c2c83", func := "confluence/confluencelaw07.NlriReads", spec := "nlriReads", apart := false }
def NlriReadsSaid : Prop := nlriReadsRow.holds Try.pinned (OpenSpec.ofChange nlriReadsSpec)

/-- ITS FALSE NEIGHBOUR: 'it returns false'. Refute it at one input. -/
def nlriReadsWrong : ChangeSpec := { name := "nlriReads", fn := fun _ => fun
  | [d] => { results := [.lit (.bool false)], args := [d] }
  | _ => none }
def NlriReadsWrongFalsely : Prop := nlriReadsRow.holds Try.pinned (OpenSpec.ofChange nlriReadsWrong)

/-- 'confluencelaw09.OpenReads': WHATEVER THE INPUT: true; the input reads as it did. -/
def openReadsSpec : ChangeSpec := { name := "openReads", fn := fun _ => fun
  | [d] => { results := [.lit (.bool true)], args := [d] }
  | _ => none }
def openReadsRow : OpenClaim := { program := "ytajilbapjpfloaa", sum := "793168756b462ff93d6dad91ffb7b2522aac1e781b2b44eafa22780f4c8c2c83", func := "confluence/confluencelaw09.OpenReads", spec := "openReads", apart := false }
def OpenReadsSaid : Prop := openReadsRow.holds Try.pinned (OpenSpec.ofChange openReadsSpec)

/-- ITS FALSE NEIGHBOUR: 'it returns false'. Refute it at one input. -/
def openReadsWrong : ChangeSpec := { name := "openReads", fn := fun _ => fun
  | [d] => { results := [.lit (.bool false)], args := [d] }
  | _ => none }
def OpenReadsWrongFalsely : Prop := openReadsRow.holds Try.pinned (OpenSpec.ofChange openReadsWrong)

/-- 'confluencelaw09.OpenWrites': WHATEVER THE INPUT: true; the input reads as it did. -/
def openWritesSpec : ChangeSpec := { name := "openWrites", fn := fun _ => fun
  | [d] => { results := [.lit (.bool true)], args := [d] }
  | _ => none }
def openWritesRow : OpenClaim := { program := "ytajilbapjpfloaa", sum := "793168756b462ff93d6dad91ffb7b2522aac1e781b2b44eafa22780f4c8c2c83", func := "confluence/confluencelaw09.OpenWrites", spec := "openWrites", apart := false }
def OpenWritesSaid : Prop := openWritesRow.holds Try.pinned (OpenSpec.ofChange openWritesSpec)

/-- ITS FALSE NEIGHBOUR: 'it returns false'. Refute it at one input. -/
def openWritesWrong : ChangeSpec := { name := "openWrites", fn := fun _ => fun
  | [d] => { results := [.lit (.bool false)], args := [d] }
  | _ => none }
def OpenWritesWrongFalsely : Prop := openWritesRow.holds Try.pinned (OpenSpec.ofChange openWritesWrong)

/-- 'confluencelaw07.NlriPacks': WHATEVER THE INPUT: true; the input reads as it did. -/
def nlriPacksSpec : ChangeSpec := { name := "nlriPacks", fn := fun _ => fun
  | [d1, d2] => { results := [.lit (.bool true)], args := [d1, d2] }
  | _ => none }
def nlriPacksRow : OpenClaim := { program := "ytajilbapjpfloaa", sum := "793168756b462ff93d6dad91ffb7b2522aac1e781b2b44eafa22780f4c8c2c83", func := "confluence/confluencelaw07.NlriPacks", spec := "nlriPacks", unfollowed := true, recurses := true, apart := false }
def NlriPacksSaid : Prop := nlriPacksRow.holds Try.pinned (OpenSpec.ofChange nlriPacksSpec)

/-- ITS FALSE NEIGHBOUR: 'it returns false'. Refute it at one input. -/
def nlriPacksWrong : ChangeSpec := { name := "nlriPacks", fn := fun _ => fun
  | [d1, d2] => { results := [.lit (.bool false)], args := [d1, d2] }
  | _ => none }
def NlriPacksWrongFalsely : Prop := nlriPacksRow.holds Try.pinned (OpenSpec.ofChange nlriPacksWrong)

/- THE SECOND FORM. 'bulk': how many values and letters a reading holds, each counted each time it is reached (what is shared counts as often as it is met; a slice's spare places count too). A statement '..UptoSaid' is the law's where the arguments, and the package variables that the reading takes, are together of bulk at most 1048576: NARROWER than '..Said'. Prove '..Said' where nothing that the law and all that it calls make is longer than what came in: it says more and counts as full. Else prove '..UptoSaid'. A law counts once. -/
mutual
def uptoBulk {H : Type} : DataW H → Nat
  | .lit (.string bytes) => bytes.length + 1
  | .lit _ => 1
  | .nil => 1
  | .ptr d => uptoBulk d + 1
  | .slice elems spare => uptoBulkAll elems + uptoBulkAll spare + 1
  | .agg parts => uptoBulkAll parts + 1
  | .iface _ d => uptoBulk d + 1
  | .map entries => uptoBulkEntries entries + 1
  | .held _ => 1
def uptoBulkAll {H : Type} : List (DataW H) → Nat
  | [] => 0
  | d :: r => uptoBulk d + uptoBulkAll r
def uptoBulkEntries {H : Type} : List (Lit × DataW H) → Nat
  | [] => 0
  | x :: r => uptoBulkEntry x + uptoBulkEntries r
def uptoBulkEntry {H : Type} : Lit × DataW H → Nat
  | (.string bytes, d) => bytes.length + uptoBulk d + 1
  | (_, d) => uptoBulk d + 1
 end
def uptoSmall : (H : Type) → List (DataW H) → Bool := fun _ ds => decide (uptoBulkAll ds ≤ 1048576)
def OpenSpec.upto (s : _root_.Go.ChangeSpec) : _root_.Go.OpenSpec := { _root_.Go.OpenSpec.ofChange s with cond := some uptoSmall }

/-- 'confluencelaw09.OpenTimes', WHERE WHAT IT READS IS OF BULK AT MOST 1048576: true; the input reads as it did. -/
def openTimesUptoRow : OpenClaim := { program := "ytajilbapjpfloaa", sum := "793168756b462ff93d6dad91ffb7b2522aac1e781b2b44eafa22780f4c8c2c83", func := "confluence/confluencelaw09.OpenTimes", spec := "openTimes", apart := false, narrowed := true }
def OpenTimesUptoSaid : Prop := openTimesUptoRow.holds Try.pinned (OpenSpec.upto openTimesSpec)

/-- 'confluencelaw06.OctetReads', WHERE WHAT IT READS IS OF BULK AT MOST 1048576: true; the input reads as it did. -/
def octetReadsUptoRow : OpenClaim := { program := "ytajilbapjpfloaa", sum := "793168756b462ff93d6dad91ffb7b2522aac1e781b2b44eafa22780f4c8c2c83", func := "confluence/confluencelaw06.OctetReads", spec := "octetReads", apart := false, narrowed := true }
def OctetReadsUptoSaid : Prop := octetReadsUptoRow.holds Try.pinned (OpenSpec.upto octetReadsSpec)

/-- 'confluencelaw06.OctetBack', WHERE WHAT IT READS IS OF BULK AT MOST 1048576: true; the input reads as it did. -/
def octetBackUptoRow : OpenClaim := { program := "ytajilbapjpfloaa", sum := "793168756b462ff93d6dad91ffb7b2522aac1e781b2b44eafa22780f4c8c2c83", func := "confluence/confluencelaw06.OctetBack", spec := "octetBack", apart := false, narrowed := true }
def OctetBackUptoSaid : Prop := octetBackUptoRow.holds Try.pinned (OpenSpec.upto octetBackSpec)

/-- 'confluencelaw09.OpenJudges', WHERE WHAT IT READS IS OF BULK AT MOST 1048576: true; the input reads as it did. -/
def openJudgesUptoRow : OpenClaim := { program := "ytajilbapjpfloaa", sum := "793168756b462ff93d6dad91ffb7b2522aac1e781b2b44eafa22780f4c8c2c83", func := "confluence/confluencelaw09.OpenJudges", spec := "openJudges", apart := false, narrowed := true }
def OpenJudgesUptoSaid : Prop := openJudgesUptoRow.holds Try.pinned (OpenSpec.upto openJudgesSpec)

/-- 'confluencelaw06.OctetWrites', WHERE WHAT IT READS IS OF BULK AT MOST 1048576: true; the input reads as it did. -/
def octetWritesUptoRow : OpenClaim := { program := "ytajilbapjpfloaa", sum := "793168756b462ff93d6dad91ffb7b2522aac1e781b2b44eafa22780f4c8c2c83", func := "confluence/confluencelaw06.OctetWrites", spec := "octetWrites", apart := false, narrowed := true }
def OctetWritesUptoSaid : Prop := octetWritesUptoRow.holds Try.pinned (OpenSpec.upto octetWritesSpec)

/-- 'confluencelaw06.OctetNone', WHERE WHAT IT READS IS OF BULK AT MOST 1048576: true; the input reads as it did. -/
def octetNoneUptoRow : OpenClaim := { program := "ytajilbapjpfloaa", sum := "793168756b462ff93d6dad91ffb7b2522aac1e781b2b44eafa22780f4c8c2c83", func := "confluence/confluencelaw06.OctetNone", spec := "octetNone", apart := false, narrowed := true }
def OctetNoneUptoSaid : Prop := octetNoneUptoRow.holds Try.pinned (OpenSpec.upto octetNoneSpec)

/-- 'confluencelaw07.NlriWrites', WHERE WHAT IT READS IS OF BULK AT MOST 1048576: true; the input reads as it did. -/
def nlriWritesUptoRow : OpenClaim := { program := "ytajilbapjpfloaa", sum := "793168756b462ff93d6dad91ffb7b2522aac1e781b2b44eafa22780f4c8c2c83", func := "confluence/confluencelaw07.NlriWrites", spec := "nlriWrites", apart := false, narrowed := true }
def NlriWritesUptoSaid : Prop := nlriWritesUptoRow.holds Try.pinned (OpenSpec.upto nlriWritesSpec)

/-- 'confluencelaw07.NlriReads', WHERE WHAT IT READS IS OF BULK AT MOST 1048576: true; the input reads as it did. -/
def nlriReadsUptoRow : OpenClaim := { program := "ytajilbapjpfloaa", sum := "793168756b462ff93d6dad91ffb7b2522aac1e781b2b44eafa22780f4c8c2c83", func := "confluence/confluencelaw07.NlriReads", spec := "nlriReads", apart := false, narrowed := true }
def NlriReadsUptoSaid : Prop := nlriReadsUptoRow.holds Try.pinned (OpenSpec.upto nlriReadsSpec)

/-- 'confluencelaw09.OpenReads', WHERE WHAT IT READS IS OF BULK AT MOST 1048576: true; the input reads as it did. -/
def openReadsUptoRow : OpenClaim := { program := "ytajilbapjpfloaa", sum := "793168756b462ff93d6dad91ffb7b2522aac1e781b2b44eafa22780f4c8c2c83", func := "confluence/confluencelaw09.OpenReads", spec := "openReads", apart := false, narrowed := true }
def OpenReadsUptoSaid : Prop := openReadsUptoRow.holds Try.pinned (OpenSpec.upto openReadsSpec)

/-- 'confluencelaw09.OpenWrites', WHERE WHAT IT READS IS OF BULK AT MOST 1048576: true; the input reads as it did. -/
def openWritesUptoRow : OpenClaim := { program := "ytajilbapjpfloaa", sum := "793168756b462ff93d6dad91ffb7b2522aac1e781b2b44eafa22780f4c8c2c83", func := "confluence/confluencelaw09.OpenWrites", spec := "openWrites", apart := false, narrowed := true }
def OpenWritesUptoSaid : Prop := openWritesUptoRow.holds Try.pinned (OpenSpec.upto openWritesSpec)

/-- 'confluencelaw07.NlriPacks', WHERE WHAT IT READS IS OF BULK AT MOST 1048576: true; the input reads as it did. -/
def nlriPacksUptoRow : OpenClaim := { program := "ytajilbapjpfloaa", sum := "793168756b462ff93d6dad91ffb7b2522aac1e781b2b44eafa22780f4c8c2c83", func := "confluence/confluencelaw07.NlriPacks", spec := "nlriPacks", unfollowed := true, recurses := true, apart := false, narrowed := true }
def NlriPacksUptoSaid : Prop := nlriPacksUptoRow.holds Try.pinned (OpenSpec.upto nlriPacksSpec)

end Rows
end Go.Proofs.Ytajilbapjpfloaa
