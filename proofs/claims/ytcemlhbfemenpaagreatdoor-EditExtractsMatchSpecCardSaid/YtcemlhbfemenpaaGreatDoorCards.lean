/-
  DERIVED. GIVEN WITH THE SEED: THE CARDS: each row of YtcemlhbfemenpaaGreatDoorRows.lean that lists a variable, with what it lists TIED to the program's text (the seventh form; the later family's looks); each row that meets fmt, with fmt's text TOLD by the authors' own Lean function (tested against real Go, not proved from fmt's source: count such statements apart). THE CARD IS WHAT COUNTS. Prove the row's statement (the work); the ties are given (YtcemlhbfemenpaaGreatDoorTie.lean); close each card by the builder's one call (the guide's Derived/Test/ToyasCard.lean, 'card_holds'). Laid BY PROGRAM, IN A SANDBOX (cutbox-door.mjs). By AI agents, Wed Nov 11 2026. No macro, syntax, notation, axiom, sorry.
-/
import Derived.Test.YtcemlhbfemenpaaGreatDoorRows
import GoSem.ClaimSeven
namespace Go.Proofs.YtcemlhbfemenpaaGreatDoor
namespace Rows

/-- THE TIED CARD OF 'deadwaxlaw3.EditExtractsMatchSpec'. -/
def editExtractsMatchSpecCard : Claim7 := { stood := { row := editExtractsMatchSpecRow, standIns := [], harness := (true, "9b5ebb616791448d4af75f97f16def342f4a4ec1d4f6e61cfb075203e99c6960"), looks := true }, kinds := [], alts := [], laidByText := true, laidKinds := [.data, .data, .data, .data, .sentinel, .sentinel, .pinned], laidTests := true, laidLooks := .later }
def EditExtractsMatchSpecCardSaid : Prop := Claim7.holds Tryz.pinned (.plain (OpenSpec.ofChange editExtractsMatchSpecSpec)) editExtractsMatchSpecCard

/-- THE TIED CARD OF 'deadwaxlaw3.EditComposesMatchSpec'. -/
def editComposesMatchSpecCard : Claim7 := { stood := { row := editComposesMatchSpecRow, standIns := [], harness := (true, "9b5ebb616791448d4af75f97f16def342f4a4ec1d4f6e61cfb075203e99c6960"), looks := true }, kinds := [], alts := [], laidByText := true, laidKinds := [.data, .data, .data, .data, .sentinel, .sentinel, .pinned], laidTests := true, laidLooks := .later }
def EditComposesMatchSpecCardSaid : Prop := Claim7.holds Tryz.pinned (.plain (OpenSpec.ofChange editComposesMatchSpecSpec)) editComposesMatchSpecCard

/-- THE SECOND FORM's CARD OF 'deadwaxlaw3.EditExtractsMatchSpec'. -/
def editExtractsMatchSpecUptoCard : Claim7 := { stood := { row := editExtractsMatchSpecUptoRow, standIns := [], harness := (true, "9b5ebb616791448d4af75f97f16def342f4a4ec1d4f6e61cfb075203e99c6960"), looks := true }, kinds := [], alts := [], laidByText := true, laidKinds := [.data, .data, .data, .data, .sentinel, .sentinel, .pinned], laidTests := true, laidLooks := .later }
def EditExtractsMatchSpecUptoCardSaid : Prop := Claim7.holds Tryz.pinned (.plain (OpenSpec.upto editExtractsMatchSpecSpec)) editExtractsMatchSpecUptoCard

/-- THE SECOND FORM's CARD OF 'deadwaxlaw3.EditComposesMatchSpec'. -/
def editComposesMatchSpecUptoCard : Claim7 := { stood := { row := editComposesMatchSpecUptoRow, standIns := [], harness := (true, "9b5ebb616791448d4af75f97f16def342f4a4ec1d4f6e61cfb075203e99c6960"), looks := true }, kinds := [], alts := [], laidByText := true, laidKinds := [.data, .data, .data, .data, .sentinel, .sentinel, .pinned], laidTests := true, laidLooks := .later }
def EditComposesMatchSpecUptoCardSaid : Prop := Claim7.holds Tryz.pinned (.plain (OpenSpec.upto editComposesMatchSpecSpec)) editComposesMatchSpecUptoCard
end Rows
end Go.Proofs.YtcemlhbfemenpaaGreatDoor
