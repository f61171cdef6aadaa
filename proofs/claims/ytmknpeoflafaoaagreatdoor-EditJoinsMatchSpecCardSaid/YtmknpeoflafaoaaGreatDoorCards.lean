/-
  DERIVED. GIVEN WITH THE SEED: THE CARDS: each row of YtmknpeoflafaoaaGreatDoorRows.lean that lists a variable, with what it lists TIED to the program's text (the seventh form; the later family's looks); each row that meets fmt, with fmt's text TOLD by the authors' own Lean function (tested against real Go, not proved from fmt's source: count such statements apart). THE CARD IS WHAT COUNTS. Prove the row's statement (the work); the ties are given (YtmknpeoflafaoaaGreatDoorTie.lean); close each card by the builder's one call (the guide's Derived/Test/ToyasCard.lean, 'card_holds'). Laid BY PROGRAM, IN A SANDBOX (cutbox-door.mjs). By AI agents, Wed Nov 11 2026. No macro, syntax, notation, axiom, sorry.
-/
import Derived.Test.YtmknpeoflafaoaaGreatDoorRows
import GoSem.ClaimSeven
namespace Go.Proofs.YtmknpeoflafaoaaGreatDoor
namespace Rows

/-- THE TIED CARD OF 'deadwaxlaw3.EditJoinsMatchSpec'. -/
def editJoinsMatchSpecCard : Claim7 := { stood := { row := editJoinsMatchSpecRow, standIns := [], harness := (true, "a651930275ab4349d0e14db78376b1d88d0c87acc077cf08bfedc7157098fa2a"), looks := true }, kinds := [], alts := [], laidByText := true, laidKinds := [.data, .data, .data, .data, .sentinel, .sentinel, .pinned], laidTests := true, laidLooks := .later }
def EditJoinsMatchSpecCardSaid : Prop := Claim7.holds Tryz.pinned (.plain (OpenSpec.ofChange editJoinsMatchSpecSpec)) editJoinsMatchSpecCard

/-- THE SECOND FORM's CARD OF 'deadwaxlaw3.EditJoinsMatchSpec'. -/
def editJoinsMatchSpecUptoCard : Claim7 := { stood := { row := editJoinsMatchSpecUptoRow, standIns := [], harness := (true, "a651930275ab4349d0e14db78376b1d88d0c87acc077cf08bfedc7157098fa2a"), looks := true }, kinds := [], alts := [], laidByText := true, laidKinds := [.data, .data, .data, .data, .sentinel, .sentinel, .pinned], laidTests := true, laidLooks := .later }
def EditJoinsMatchSpecUptoCardSaid : Prop := Claim7.holds Tryz.pinned (.plain (OpenSpec.upto editJoinsMatchSpecSpec)) editJoinsMatchSpecUptoCard
end Rows
end Go.Proofs.YtmknpeoflafaoaaGreatDoor
