/-
  DERIVED. GIVEN WITH THE SEED: THE CARDS: each row of YtaafgbeojnolaaaDoorRows.lean that lists a variable, with what it lists TIED to the program's text (the seventh form; the later family's looks); each row that meets fmt, with fmt's text TOLD by the authors' own Lean function (tested against real Go, not proved from fmt's source: count such statements apart). THE CARD IS WHAT COUNTS. Prove the row's statement (the work); the ties are given (YtaafgbeojnolaaaDoorTie.lean); close each card by the builder's one call (the guide's Derived/Test/ToyasCard.lean, 'card_holds'). Laid BY PROGRAM, IN A SANDBOX (cutbox-door.mjs). By AI agents, Wed Nov 11 2026. No macro, syntax, notation, axiom, sorry.
-/
import Derived.Test.YtaafgbeojnolaaaDoorRows
import GoSem.ClaimSeven
namespace Go.Proofs.YtaafgbeojnolaaaDoor
namespace Rows

/-- THE TIED CARD OF 'deadwaxlaw5.CreditNamesAgreeAlike'. -/
def creditNamesAgreeAlikeCard : Claim7 := { stood := { row := creditNamesAgreeAlikeRow, standIns := [], harness := (true, "02375d655a5b66dfa4dd6629c4f8b7e63aae008a9f1adbdf55eaa7d1acd5e1d3"), looks := false }, kinds := [], alts := [], laidByText := true, laidKinds := [.data, .pinned], laidTests := true, laidLooks := .later }
def CreditNamesAgreeAlikeCardSaid : Prop := Claim7.holds Tryd.pinned (.plain (OpenSpec.ofChange creditNamesAgreeAlikeSpec)) creditNamesAgreeAlikeCard

/-- THE SECOND FORM's CARD OF 'deadwaxlaw5.CreditNamesAgreeAlike'. -/
def creditNamesAgreeAlikeUptoCard : Claim7 := { stood := { row := creditNamesAgreeAlikeUptoRow, standIns := [], harness := (true, "02375d655a5b66dfa4dd6629c4f8b7e63aae008a9f1adbdf55eaa7d1acd5e1d3"), looks := false }, kinds := [], alts := [], laidByText := true, laidKinds := [.data, .pinned], laidTests := true, laidLooks := .later }
def CreditNamesAgreeAlikeUptoCardSaid : Prop := Claim7.holds Tryd.pinned (.plain (OpenSpec.upto creditNamesAgreeAlikeSpec)) creditNamesAgreeAlikeUptoCard
end Rows
end Go.Proofs.YtaafgbeojnolaaaDoor
