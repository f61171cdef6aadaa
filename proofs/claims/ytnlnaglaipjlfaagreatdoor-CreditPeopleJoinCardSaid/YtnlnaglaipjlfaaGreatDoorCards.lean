/-
  DERIVED. GIVEN WITH THE SEED: THE CARDS: each row of YtnlnaglaipjlfaaGreatDoorRows.lean that lists a variable, with what it lists TIED to the program's text (the seventh form; the later family's looks); each row that meets fmt, with fmt's text TOLD by the authors' own Lean function (tested against real Go, not proved from fmt's source: count such statements apart). THE CARD IS WHAT COUNTS. Prove the row's statement (the work); the ties are given (YtnlnaglaipjlfaaGreatDoorTie.lean); close each card by the builder's one call (the guide's Derived/Test/ToyasCard.lean, 'card_holds'). Laid BY PROGRAM, IN A SANDBOX (cutbox-door.mjs). By AI agents, Wed Nov 11 2026. No macro, syntax, notation, axiom, sorry.
-/
import Derived.Test.YtnlnaglaipjlfaaGreatDoorRows
import GoSem.ClaimSeven
namespace Go.Proofs.YtnlnaglaipjlfaaGreatDoor
namespace Rows

/-- THE TIED CARD OF 'deadwaxlaw5.CreditPeopleJoin'. -/
def creditPeopleJoinCard : Claim7 := { stood := { row := creditPeopleJoinRow, standIns := [], harness := (true, "9bd5c7b3b1b09b9a48c88053a713baf81ee80ad4d61fb236bc02e7f1624abb42"), looks := false }, kinds := [], alts := [], laidByText := true, laidKinds := [.data, .pinned], laidTests := true, laidLooks := .later }
def CreditPeopleJoinCardSaid : Prop := Claim7.holds Tryz.pinned (.plain (OpenSpec.ofChange creditPeopleJoinSpec)) creditPeopleJoinCard

/-- THE SECOND FORM's CARD OF 'deadwaxlaw5.CreditPeopleJoin'. -/
def creditPeopleJoinUptoCard : Claim7 := { stood := { row := creditPeopleJoinUptoRow, standIns := [], harness := (true, "9bd5c7b3b1b09b9a48c88053a713baf81ee80ad4d61fb236bc02e7f1624abb42"), looks := false }, kinds := [], alts := [], laidByText := true, laidKinds := [.data, .pinned], laidTests := true, laidLooks := .later }
def CreditPeopleJoinUptoCardSaid : Prop := Claim7.holds Tryz.pinned (.plain (OpenSpec.upto creditPeopleJoinSpec)) creditPeopleJoinUptoCard
end Rows
end Go.Proofs.YtnlnaglaipjlfaaGreatDoor
