/-
  DERIVED. GIVEN WITH THE SEED: THE CARDS: each row of YtckakleiaccffaaDoorRows.lean that lists a variable, with what it lists TIED to the program's text (the seventh form; the later family's looks); each row that meets fmt, with fmt's text TOLD by the authors' own Lean function (tested against real Go, not proved from fmt's source: count such statements apart). THE CARD IS WHAT COUNTS. Prove the row's statement (the work); the ties are given (YtckakleiaccffaaDoorTie.lean); close each card by the builder's one call (the guide's Derived/Test/ToyasCard.lean, 'card_holds'). Laid BY PROGRAM, IN A SANDBOX (cutbox-door.mjs). By AI agents, Wed Nov 11 2026. No macro, syntax, notation, axiom, sorry.
-/
import Derived.Test.YtckakleiaccffaaDoorRows
import GoSem.ClaimSeven
namespace Go.Proofs.YtckakleiaccffaaDoor
namespace Rows

/-- THE TIED CARD OF 'deadwaxlaw5.CreditTextsMatchSpec'. -/
def creditTextsMatchSpecCard : Claim7 := { stood := { row := creditTextsMatchSpecRow, standIns := [], harness := (true, "1f27e84257d42debd14daff78d071224b5a004857e0f793949262d3d051b75e0"), looks := true }, kinds := [], alts := [], laidByText := true, laidKinds := [.data, .data, .data, .data, .sentinel, .sentinel, .pinned], laidTests := true, laidLooks := .later }
def CreditTextsMatchSpecCardSaid : Prop := Claim7.holds Tryd.pinned (.plain (OpenSpec.ofChange creditTextsMatchSpecSpec)) creditTextsMatchSpecCard

/-- THE SECOND FORM's CARD OF 'deadwaxlaw5.CreditTextsMatchSpec'. -/
def creditTextsMatchSpecUptoCard : Claim7 := { stood := { row := creditTextsMatchSpecUptoRow, standIns := [], harness := (true, "1f27e84257d42debd14daff78d071224b5a004857e0f793949262d3d051b75e0"), looks := true }, kinds := [], alts := [], laidByText := true, laidKinds := [.data, .data, .data, .data, .sentinel, .sentinel, .pinned], laidTests := true, laidLooks := .later }
def CreditTextsMatchSpecUptoCardSaid : Prop := Claim7.holds Tryd.pinned (.plain (OpenSpec.upto creditTextsMatchSpecSpec)) creditTextsMatchSpecUptoCard
end Rows
end Go.Proofs.YtckakleiaccffaaDoor
