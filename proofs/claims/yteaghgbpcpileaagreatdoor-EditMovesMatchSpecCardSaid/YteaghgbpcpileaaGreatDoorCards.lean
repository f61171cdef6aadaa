/-
  DERIVED. GIVEN WITH THE SEED: THE CARDS: each row of YteaghgbpcpileaaGreatDoorRows.lean that lists a variable, with what it lists TIED to the program's text (the seventh form; the later family's looks); each row that meets fmt, with fmt's text TOLD by the authors' own Lean function (tested against real Go, not proved from fmt's source: count such statements apart). THE CARD IS WHAT COUNTS. Prove the row's statement (the work); the ties are given (YteaghgbpcpileaaGreatDoorTie.lean); close each card by the builder's one call (the guide's Derived/Test/ToyasCard.lean, 'card_holds'). Laid BY PROGRAM, IN A SANDBOX (cutbox-door.mjs). By AI agents, Wed Nov 11 2026. No macro, syntax, notation, axiom, sorry.
-/
import Derived.Test.YteaghgbpcpileaaGreatDoorRows
import GoSem.ClaimSeven
namespace Go.Proofs.YteaghgbpcpileaaGreatDoor
namespace Rows

/-- THE TIED CARD OF 'deadwaxlaw3.EditMovesMatchSpec'. -/
def editMovesMatchSpecCard : Claim7 := { stood := { row := editMovesMatchSpecRow, standIns := [], harness := (true, "55208c07ec37f42ef4cb464b25f200b42301c496d825d6ab0a22cd1ad3337390"), looks := true }, kinds := [], alts := [], laidByText := true, laidKinds := [.data, .data, .data, .data, .sentinel, .sentinel, .pinned], laidTests := true, laidLooks := .later }
def EditMovesMatchSpecCardSaid : Prop := Claim7.holds Tryz.pinned (.plain (OpenSpec.ofChange editMovesMatchSpecSpec)) editMovesMatchSpecCard

/-- THE SECOND FORM's CARD OF 'deadwaxlaw3.EditMovesMatchSpec'. -/
def editMovesMatchSpecUptoCard : Claim7 := { stood := { row := editMovesMatchSpecUptoRow, standIns := [], harness := (true, "55208c07ec37f42ef4cb464b25f200b42301c496d825d6ab0a22cd1ad3337390"), looks := true }, kinds := [], alts := [], laidByText := true, laidKinds := [.data, .data, .data, .data, .sentinel, .sentinel, .pinned], laidTests := true, laidLooks := .later }
def EditMovesMatchSpecUptoCardSaid : Prop := Claim7.holds Tryz.pinned (.plain (OpenSpec.upto editMovesMatchSpecSpec)) editMovesMatchSpecUptoCard
end Rows
end Go.Proofs.YteaghgbpcpileaaGreatDoor
