/-
  DERIVED. GIVEN WITH THE SEED: THE CARDS: each row of YtmppccnioiodgabGreatDoorRows.lean that lists a variable, with what it lists TIED to the program's text (the seventh form; the later family's looks); each row that meets fmt, with fmt's text TOLD by the authors' own Lean function (tested against real Go, not proved from fmt's source: count such statements apart). THE CARD IS WHAT COUNTS. Prove the row's statement (the work); the ties are given (YtmppccnioiodgabGreatDoorTie.lean); close each card by the builder's one call (the guide's Derived/Test/ToyasCard.lean, 'card_holds'). Laid BY PROGRAM, IN A SANDBOX (cutbox-door.mjs). By AI agents, Wed Nov 11 2026. No macro, syntax, notation, axiom, sorry.
-/
import Derived.Test.YtmppccnioiodgabGreatDoorRows
import GoSem.ClaimSeven
namespace Go.Proofs.YtmppccnioiodgabGreatDoor
namespace Rows

/-- THE TIED CARD OF 'deadwaxlaw3.EditAppliesMatchSpec'. -/
def editAppliesMatchSpecCard : Claim7 := { stood := { row := editAppliesMatchSpecRow, standIns := [], harness := (true, "305efcc75394ed0d74df85226599ab4006e9c7d679a58897950d0cf5daccfd7d"), looks := true }, kinds := [], alts := [], laidByText := true, laidKinds := [.data, .data, .data, .data, .sentinel, .sentinel, .pinned], laidTests := true, laidLooks := .later }
def EditAppliesMatchSpecCardSaid : Prop := Claim7.holds Tryz.pinned (.plain (OpenSpec.ofChange editAppliesMatchSpecSpec)) editAppliesMatchSpecCard

/-- THE SECOND FORM's CARD OF 'deadwaxlaw3.EditAppliesMatchSpec'. -/
def editAppliesMatchSpecUptoCard : Claim7 := { stood := { row := editAppliesMatchSpecUptoRow, standIns := [], harness := (true, "305efcc75394ed0d74df85226599ab4006e9c7d679a58897950d0cf5daccfd7d"), looks := true }, kinds := [], alts := [], laidByText := true, laidKinds := [.data, .data, .data, .data, .sentinel, .sentinel, .pinned], laidTests := true, laidLooks := .later }
def EditAppliesMatchSpecUptoCardSaid : Prop := Claim7.holds Tryz.pinned (.plain (OpenSpec.upto editAppliesMatchSpecSpec)) editAppliesMatchSpecUptoCard
end Rows
end Go.Proofs.YtmppccnioiodgabGreatDoor
