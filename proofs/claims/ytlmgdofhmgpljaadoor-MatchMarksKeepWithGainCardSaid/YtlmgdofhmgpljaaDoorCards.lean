/-
  DERIVED. GIVEN WITH THE SEED: THE CARDS: each row of YtlmgdofhmgpljaaDoorRows.lean that lists a variable, with what it lists TIED to the program's text (the seventh form; the later family's looks); each row that meets fmt, with fmt's text TOLD by the authors' own Lean function (tested against real Go, not proved from fmt's source: count such statements apart). THE CARD IS WHAT COUNTS. Prove the row's statement (the work); the ties are given (YtlmgdofhmgpljaaDoorTie.lean); close each card by the builder's one call (the guide's Derived/Test/ToyasCard.lean, 'card_holds'). Laid BY PROGRAM, IN A SANDBOX (cutbox-door.mjs). By AI agents, Wed Nov 11 2026. No macro, syntax, notation, axiom, sorry.
-/
import Derived.Test.YtlmgdofhmgpljaaDoorRows
import GoSem.ClaimSeven
namespace Go.Proofs.YtlmgdofhmgpljaaDoor
namespace Rows

/-- THE TIED CARD OF 'deadwaxlaw4.MatchMarksKeepWithGain'. -/
def matchMarksKeepWithGainCard : Claim7 := { stood := { row := matchMarksKeepWithGainRow, standIns := [], harness := (true, "bf0b6065fbf5ae102b574712f8ebf6e51d06a50b2f38f9076c0c27bf35b5abcf"), looks := true }, kinds := [], alts := [], laidByText := true, laidKinds := [.data, .data, .data, .sentinel, .sentinel], laidTests := true, laidLooks := .later }
def MatchMarksKeepWithGainCardSaid : Prop := Claim7.holds Tryd.pinned (.plain (OpenSpec.ofChange matchMarksKeepWithGainSpec)) matchMarksKeepWithGainCard

/-- THE SECOND FORM's CARD OF 'deadwaxlaw4.MatchMarksKeepWithGain'. -/
def matchMarksKeepWithGainUptoCard : Claim7 := { stood := { row := matchMarksKeepWithGainUptoRow, standIns := [], harness := (true, "bf0b6065fbf5ae102b574712f8ebf6e51d06a50b2f38f9076c0c27bf35b5abcf"), looks := true }, kinds := [], alts := [], laidByText := true, laidKinds := [.data, .data, .data, .sentinel, .sentinel], laidTests := true, laidLooks := .later }
def MatchMarksKeepWithGainUptoCardSaid : Prop := Claim7.holds Tryd.pinned (.plain (OpenSpec.upto matchMarksKeepWithGainSpec)) matchMarksKeepWithGainUptoCard
end Rows
end Go.Proofs.YtlmgdofhmgpljaaDoor
