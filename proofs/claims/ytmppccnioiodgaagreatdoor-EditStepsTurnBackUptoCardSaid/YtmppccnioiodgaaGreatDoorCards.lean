/-
  DERIVED. GIVEN WITH THE SEED: THE CARDS: each row of YtmppccnioiodgaaGreatDoorRows.lean that lists a variable, with what it lists TIED to the program's text (the seventh form; the later family's looks); each row that meets fmt, with fmt's text TOLD by the authors' own Lean function (tested against real Go, not proved from fmt's source: count such statements apart). THE CARD IS WHAT COUNTS. Prove the row's statement (the work); the ties are given (YtmppccnioiodgaaGreatDoorTie.lean); close each card by the builder's one call (the guide's Derived/Test/ToyasCard.lean, 'card_holds'). Laid BY PROGRAM, IN A SANDBOX (cutbox-door.mjs). By AI agents, Wed Nov 11 2026. No macro, syntax, notation, axiom, sorry.
-/
import Derived.Test.YtmppccnioiodgaaGreatDoorRows
import GoSem.ClaimSeven
namespace Go.Proofs.YtmppccnioiodgaaGreatDoor
namespace Rows

/-- THE TIED CARD OF 'deadwaxlaw3.EditStepsTurnBack'. -/
def editStepsTurnBackCard : Claim7 := { stood := { row := editStepsTurnBackRow, standIns := [], harness := (true, "90b2dc5aab10e489cea26eaecd07ad99eacf57745ed4c9f28d7838f49a665330"), looks := false }, kinds := [], alts := [], laidByText := true, laidKinds := [.data, .data, .data, .data, .pinned], laidTests := true, laidLooks := .later }
def EditStepsTurnBackCardSaid : Prop := Claim7.holds Tryz.pinned (.plain (OpenSpec.ofChange editStepsTurnBackSpec)) editStepsTurnBackCard

/-- THE SECOND FORM's CARD OF 'deadwaxlaw3.EditStepsTurnBack'. -/
def editStepsTurnBackUptoCard : Claim7 := { stood := { row := editStepsTurnBackUptoRow, standIns := [], harness := (true, "90b2dc5aab10e489cea26eaecd07ad99eacf57745ed4c9f28d7838f49a665330"), looks := false }, kinds := [], alts := [], laidByText := true, laidKinds := [.data, .data, .data, .data, .pinned], laidTests := true, laidLooks := .later }
def EditStepsTurnBackUptoCardSaid : Prop := Claim7.holds Tryz.pinned (.plain (OpenSpec.upto editStepsTurnBackSpec)) editStepsTurnBackUptoCard
end Rows
end Go.Proofs.YtmppccnioiodgaaGreatDoor
