/-
  DERIVED. GIVEN WITH THE SEED: THE CARDS: each row of YtnpdekgmiphagaaGreatDoorRows.lean that lists a variable, with what it lists TIED to the program's text (the seventh form; the later family's looks); each row that meets fmt, with fmt's text TOLD by the authors' own Lean function (tested against real Go, not proved from fmt's source: count such statements apart). THE CARD IS WHAT COUNTS. Prove the row's statement (the work); the ties are given (YtnpdekgmiphagaaGreatDoorTie.lean); close each card by the builder's one call (the guide's Derived/Test/ToyasCard.lean, 'card_holds'). Laid BY PROGRAM, IN A SANDBOX (cutbox-door.mjs). By AI agents, Wed Nov 11 2026. No macro, syntax, notation, axiom, sorry.
-/
import Derived.Test.YtnpdekgmiphagaaGreatDoorRows
import GoSem.ClaimSeven
namespace Go.Proofs.YtnpdekgmiphagaaGreatDoor
namespace Rows

/-- THE TIED CARD OF 'deadwaxlaw5.CreditGroupsMatchSpec'. -/
def creditGroupsMatchSpecCard : Claim7 := { stood := { row := creditGroupsMatchSpecRow, standIns := [], harness := (true, "26bea562a4b466a62d8a28301ad2245ddfc5ab70bff1c58670fa235a10e9b0a4"), looks := false }, kinds := [], alts := [], laidByText := true, laidKinds := [.data, .pinned], laidTests := true, laidLooks := .later }
def CreditGroupsMatchSpecCardSaid : Prop := Claim7.holds Tryz.pinned (.plain (OpenSpec.ofChange creditGroupsMatchSpecSpec)) creditGroupsMatchSpecCard

/-- THE SECOND FORM's CARD OF 'deadwaxlaw5.CreditGroupsMatchSpec'. -/
def creditGroupsMatchSpecUptoCard : Claim7 := { stood := { row := creditGroupsMatchSpecUptoRow, standIns := [], harness := (true, "26bea562a4b466a62d8a28301ad2245ddfc5ab70bff1c58670fa235a10e9b0a4"), looks := false }, kinds := [], alts := [], laidByText := true, laidKinds := [.data, .pinned], laidTests := true, laidLooks := .later }
def CreditGroupsMatchSpecUptoCardSaid : Prop := Claim7.holds Tryz.pinned (.plain (OpenSpec.upto creditGroupsMatchSpecSpec)) creditGroupsMatchSpecUptoCard
end Rows
end Go.Proofs.YtnpdekgmiphagaaGreatDoor
