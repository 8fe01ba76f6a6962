/-
  DERIVED. GIVEN WITH THE SEED: THE CARDS: each row of YtpabblkppbfbjaaDoorRows.lean that lists a variable, with what it lists TIED to the program's text (the seventh form; the later family's looks); each row that meets fmt, with fmt's text TOLD by the authors' own Lean function (tested against real Go, not proved from fmt's source: count such statements apart). THE CARD IS WHAT COUNTS. Prove the row's statement (the work); the ties are given (YtpabblkppbfbjaaDoorTie.lean); close each card by the builder's one call (the guide's Derived/Test/ToyasCard.lean, 'card_holds'). Laid BY PROGRAM, IN A SANDBOX (cutbox-door.mjs). By AI agents, Wed Nov 11 2026. No macro, syntax, notation, axiom, sorry.
-/
import Derived.Test.YtpabblkppbfbjaaDoorRows
import GoSem.ClaimSeven
namespace Go.Proofs.YtpabblkppbfbjaaDoor
namespace Rows

/-- THE TIED CARD OF 'confluencelaw15.WalkRanges'. -/
def walkRangesCard : Claim7 := { stood := { row := walkRangesRow, standIns := [], harness := (true, "472dea50f29f3c3277d59a22e33c697bb30a5ba02b93aa2cbb92b8db7873b97e"), looks := false }, kinds := [], alts := [], laidByText := true, laidKinds := [.data], laidTests := true, laidLooks := .later }
def WalkRangesCardSaid : Prop := Claim7.holds Tryd.pinned (.plain (OpenSpec.ofChange walkRangesSpec)) walkRangesCard

/-- THE SECOND FORM's CARD OF 'confluencelaw15.WalkRanges'. -/
def walkRangesUptoCard : Claim7 := { stood := { row := walkRangesUptoRow, standIns := [], harness := (true, "472dea50f29f3c3277d59a22e33c697bb30a5ba02b93aa2cbb92b8db7873b97e"), looks := false }, kinds := [], alts := [], laidByText := true, laidKinds := [.data], laidTests := true, laidLooks := .later }
def WalkRangesUptoCardSaid : Prop := Claim7.holds Tryd.pinned (.plain (OpenSpec.upto walkRangesSpec)) walkRangesUptoCard
end Rows
end Go.Proofs.YtpabblkppbfbjaaDoor
