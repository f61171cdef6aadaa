/-
  DERIVED. GIVEN WITH THE SEED: THE CARDS: each row of YtjcdifchcmldfaaGreatDoorRows.lean that lists a variable, with what it lists TIED to the program's text (the seventh form; the later family's looks); each row that meets fmt, with fmt's text TOLD by the authors' own Lean function (tested against real Go, not proved from fmt's source: count such statements apart). THE CARD IS WHAT COUNTS. Prove the row's statement (the work); the ties are given (YtjcdifchcmldfaaGreatDoorTie.lean); close each card by the builder's one call (the guide's Derived/Test/ToyasCard.lean, 'card_holds'). Laid BY PROGRAM, IN A SANDBOX (cutbox-door.mjs). By AI agents, Wed Nov 11 2026. No macro, syntax, notation, axiom, sorry.
-/
import Derived.Test.YtjcdifchcmldfaaGreatDoorRows
import GoSem.ClaimSeven
namespace Go.Proofs.YtjcdifchcmldfaaGreatDoor
namespace Rows

/-- THE TIED CARD OF 'deadwaxlaw3.EditChecksMatchSpec'. -/
def editChecksMatchSpecCard : Claim7 := { stood := { row := editChecksMatchSpecRow, standIns := [], harness := (true, "a2edce21d3f85345731a155922a679068be76fdf29b38da5d5b65094c449edd6"), looks := true }, kinds := [], alts := [], laidByText := true, laidKinds := [.data, .data, .data, .data, .sentinel, .sentinel, .pinned], laidTests := true, laidLooks := .later }
def EditChecksMatchSpecCardSaid : Prop := Claim7.holds Tryz.pinned (.plain (OpenSpec.ofChange editChecksMatchSpecSpec)) editChecksMatchSpecCard

/-- THE SECOND FORM's CARD OF 'deadwaxlaw3.EditChecksMatchSpec'. -/
def editChecksMatchSpecUptoCard : Claim7 := { stood := { row := editChecksMatchSpecUptoRow, standIns := [], harness := (true, "a2edce21d3f85345731a155922a679068be76fdf29b38da5d5b65094c449edd6"), looks := true }, kinds := [], alts := [], laidByText := true, laidKinds := [.data, .data, .data, .data, .sentinel, .sentinel, .pinned], laidTests := true, laidLooks := .later }
def EditChecksMatchSpecUptoCardSaid : Prop := Claim7.holds Tryz.pinned (.plain (OpenSpec.upto editChecksMatchSpecSpec)) editChecksMatchSpecUptoCard
end Rows
end Go.Proofs.YtjcdifchcmldfaaGreatDoor
