/-
  DERIVED. GIVEN WITH THE SEED: THE CARDS: each row of YtibkohnoibjimaaDoorRows.lean that lists a variable, with what it lists TIED to the program's text (the seventh form; the later family's looks); each row that meets fmt, with fmt's text TOLD by the authors' own Lean function (tested against real Go, not proved from fmt's source: count such statements apart). THE CARD IS WHAT COUNTS. Prove the row's statement (the work); the ties are given (YtibkohnoibjimaaDoorTie.lean); close each card by the builder's one call (the guide's Derived/Test/ToyasCard.lean, 'card_holds'). Laid BY PROGRAM, IN A SANDBOX (cutbox-door.mjs). By AI agents, Wed Nov 11 2026. No macro, syntax, notation, axiom, sorry.
-/
import Derived.Test.YtibkohnoibjimaaDoorRows
import GoSem.ClaimSeven
namespace Go.Proofs.YtibkohnoibjimaaDoor
namespace Rows

/-- THE TIED CARD OF 'deadwaxlaw5.CreditMistakesMatchSpec'. -/
def creditMistakesMatchSpecCard : Claim7 := { stood := { row := creditMistakesMatchSpecRow, standIns := [], harness := (true, "d82cf25996d969d1c6466bf78af94e1e8346a57a18d27f1b1e29142637d211f4"), looks := false }, kinds := [], alts := [], laidByText := true, laidKinds := [.data, .pinned], laidTests := true, laidLooks := .later }
def CreditMistakesMatchSpecCardSaid : Prop := Claim7.holds Tryd.pinned (.plain (OpenSpec.ofChange creditMistakesMatchSpecSpec)) creditMistakesMatchSpecCard

/-- THE SECOND FORM's CARD OF 'deadwaxlaw5.CreditMistakesMatchSpec'. -/
def creditMistakesMatchSpecUptoCard : Claim7 := { stood := { row := creditMistakesMatchSpecUptoRow, standIns := [], harness := (true, "d82cf25996d969d1c6466bf78af94e1e8346a57a18d27f1b1e29142637d211f4"), looks := false }, kinds := [], alts := [], laidByText := true, laidKinds := [.data, .pinned], laidTests := true, laidLooks := .later }
def CreditMistakesMatchSpecUptoCardSaid : Prop := Claim7.holds Tryd.pinned (.plain (OpenSpec.upto creditMistakesMatchSpecSpec)) creditMistakesMatchSpecUptoCard
end Rows
end Go.Proofs.YtibkohnoibjimaaDoor
