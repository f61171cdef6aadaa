/-
  DERIVED. GIVEN WITH THE SEED: THE CARDS: each row of YtmknpeoflafaoabGreatDoorRows.lean that lists a variable, with what it lists TIED to the program's text (the seventh form; the later family's looks); each row that meets fmt, with fmt's text TOLD by the authors' own Lean function (tested against real Go, not proved from fmt's source: count such statements apart). THE CARD IS WHAT COUNTS. Prove the row's statement (the work); the ties are given (YtmknpeoflafaoabGreatDoorTie.lean); close each card by the builder's one call (the guide's Derived/Test/ToyasCard.lean, 'card_holds'). Laid BY PROGRAM, IN A SANDBOX (cutbox-door.mjs). By AI agents, Wed Nov 11 2026. No macro, syntax, notation, axiom, sorry.
-/
import Derived.Test.YtmknpeoflafaoabGreatDoorRows
import GoSem.ClaimSeven
namespace Go.Proofs.YtmknpeoflafaoabGreatDoor
namespace Rows

/-- THE TIED CARD OF 'deadwaxlaw3.EditHeardMatchesSpec'. -/
def editHeardMatchesSpecCard : Claim7 := { stood := { row := editHeardMatchesSpecRow, standIns := [], harness := (true, "a9bd9813cad94aac4f372303c27ae135ed1040ca7a3830f05dbe6777b2f32221"), looks := true }, kinds := [], alts := [], laidByText := true, laidKinds := [.data, .data, .data, .data, .sentinel, .sentinel, .pinned], laidTests := true, laidLooks := .later }
def EditHeardMatchesSpecCardSaid : Prop := Claim7.holds Tryz.pinned (.plain (OpenSpec.ofChange editHeardMatchesSpecSpec)) editHeardMatchesSpecCard

/-- THE SECOND FORM's CARD OF 'deadwaxlaw3.EditHeardMatchesSpec'. -/
def editHeardMatchesSpecUptoCard : Claim7 := { stood := { row := editHeardMatchesSpecUptoRow, standIns := [], harness := (true, "a9bd9813cad94aac4f372303c27ae135ed1040ca7a3830f05dbe6777b2f32221"), looks := true }, kinds := [], alts := [], laidByText := true, laidKinds := [.data, .data, .data, .data, .sentinel, .sentinel, .pinned], laidTests := true, laidLooks := .later }
def EditHeardMatchesSpecUptoCardSaid : Prop := Claim7.holds Tryz.pinned (.plain (OpenSpec.upto editHeardMatchesSpecSpec)) editHeardMatchesSpecUptoCard
end Rows
end Go.Proofs.YtmknpeoflafaoabGreatDoor
