/-
  DERIVED. GIVEN WITH THE SEED: THE CARDS: each row of YteklfjkiaknfjaaDoorRows.lean that lists a variable, with what it lists TIED to the program's text (the seventh form; the later family's looks); each row that meets fmt, with fmt's text TOLD by the authors' own Lean function (tested against real Go, not proved from fmt's source: count such statements apart). THE CARD IS WHAT COUNTS. Prove the row's statement (the work); the ties are given (YteklfjkiaknfjaaDoorTie.lean); close each card by the builder's one call (the guide's Derived/Test/ToyasCard.lean, 'card_holds'). Laid BY PROGRAM, IN A SANDBOX (cutbox-door.mjs). By AI agents, Wed Nov 11 2026. No macro, syntax, notation, axiom, sorry.
-/
import Derived.Test.YteklfjkiaknfjaaDoorRows
import GoSem.ClaimSeven
namespace Go.Proofs.YteklfjkiaknfjaaDoor
namespace Rows

/-- THE TIED CARD OF 'deadwaxlaw5.CreditReadsMatchSpec'. -/
def creditReadsMatchSpecCard : Claim7 := { stood := { row := creditReadsMatchSpecRow, standIns := [], harness := (true, "55b9d8bebe4d8a0accd82c82768a531eca9b642b9c240234b2a9745fbdc9f828"), looks := true }, kinds := [], alts := [], laidByText := true, laidKinds := [.data, .data, .data, .data, .sentinel, .sentinel, .pinned], laidTests := true, laidLooks := .later }
def CreditReadsMatchSpecCardSaid : Prop := Claim7.holds Tryd.pinned (.plain (OpenSpec.ofChange creditReadsMatchSpecSpec)) creditReadsMatchSpecCard

/-- THE SECOND FORM's CARD OF 'deadwaxlaw5.CreditReadsMatchSpec'. -/
def creditReadsMatchSpecUptoCard : Claim7 := { stood := { row := creditReadsMatchSpecUptoRow, standIns := [], harness := (true, "55b9d8bebe4d8a0accd82c82768a531eca9b642b9c240234b2a9745fbdc9f828"), looks := true }, kinds := [], alts := [], laidByText := true, laidKinds := [.data, .data, .data, .data, .sentinel, .sentinel, .pinned], laidTests := true, laidLooks := .later }
def CreditReadsMatchSpecUptoCardSaid : Prop := Claim7.holds Tryd.pinned (.plain (OpenSpec.upto creditReadsMatchSpecSpec)) creditReadsMatchSpecUptoCard
end Rows
end Go.Proofs.YteklfjkiaknfjaaDoor
