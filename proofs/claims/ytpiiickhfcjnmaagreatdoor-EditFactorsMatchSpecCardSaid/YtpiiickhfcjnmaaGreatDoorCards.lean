/-
  DERIVED. GIVEN WITH THE SEED: THE CARDS: each row of YtpiiickhfcjnmaaGreatDoorRows.lean that lists a variable, with what it lists TIED to the program's text (the seventh form; the later family's looks); each row that meets fmt, with fmt's text TOLD by the authors' own Lean function (tested against real Go, not proved from fmt's source: count such statements apart). THE CARD IS WHAT COUNTS. Prove the row's statement (the work); the ties are given (YtpiiickhfcjnmaaGreatDoorTie.lean); close each card by the builder's one call (the guide's Derived/Test/ToyasCard.lean, 'card_holds'). Laid BY PROGRAM, IN A SANDBOX (cutbox-door.mjs). By AI agents, Wed Nov 11 2026. No macro, syntax, notation, axiom, sorry.
-/
import Derived.Test.YtpiiickhfcjnmaaGreatDoorRows
import GoSem.ClaimSeven
namespace Go.Proofs.YtpiiickhfcjnmaaGreatDoor
namespace Rows

/-- THE TIED CARD OF 'deadwaxlaw3.EditTextsComeBack'. -/
def editTextsComeBackCard : Claim7 := { stood := { row := editTextsComeBackRow, standIns := [], harness := (true, "f1ed75cfd99b0d949b0afe708e1a483b1aa702036b7fc8d8904e31ebaa492693"), looks := true }, kinds := [], alts := [], laidByText := true, laidKinds := [.data, .data, .data, .data, .sentinel, .sentinel, .pinned], laidTests := true, laidLooks := .later }
def EditTextsComeBackCardSaid : Prop := Claim7.holds Tryz.pinned (.plain (OpenSpec.ofChange editTextsComeBackSpec)) editTextsComeBackCard

/-- THE TIED CARD OF 'deadwaxlaw3.EditReadsMatchSpec'. -/
def editReadsMatchSpecCard : Claim7 := { stood := { row := editReadsMatchSpecRow, standIns := [], harness := (true, "f1ed75cfd99b0d949b0afe708e1a483b1aa702036b7fc8d8904e31ebaa492693"), looks := true }, kinds := [], alts := [], laidByText := true, laidKinds := [.data, .data, .data, .data, .sentinel, .sentinel, .pinned], laidTests := true, laidLooks := .later }
def EditReadsMatchSpecCardSaid : Prop := Claim7.holds Tryz.pinned (.plain (OpenSpec.ofChange editReadsMatchSpecSpec)) editReadsMatchSpecCard

/-- THE TIED CARD OF 'deadwaxlaw3.EditFactorsMatchSpec'. -/
def editFactorsMatchSpecCard : Claim7 := { stood := { row := editFactorsMatchSpecRow, standIns := [], harness := (true, "f1ed75cfd99b0d949b0afe708e1a483b1aa702036b7fc8d8904e31ebaa492693"), looks := true }, kinds := [], alts := [], laidByText := true, laidKinds := [.data, .data, .data, .data, .sentinel, .sentinel, .pinned], laidTests := true, laidLooks := .later }
def EditFactorsMatchSpecCardSaid : Prop := Claim7.holds Tryz.pinned (.plain (OpenSpec.ofChange editFactorsMatchSpecSpec)) editFactorsMatchSpecCard

/-- THE TIED CARD OF 'deadwaxlaw3.EditHeardMatchesSpec'. -/
def editHeardMatchesSpecCard : Claim7 := { stood := { row := editHeardMatchesSpecRow, standIns := [], harness := (true, "f1ed75cfd99b0d949b0afe708e1a483b1aa702036b7fc8d8904e31ebaa492693"), looks := true }, kinds := [], alts := [], laidByText := true, laidKinds := [.data, .data, .data, .data, .sentinel, .sentinel, .pinned], laidTests := true, laidLooks := .later }
def EditHeardMatchesSpecCardSaid : Prop := Claim7.holds Tryz.pinned (.plain (OpenSpec.ofChange editHeardMatchesSpecSpec)) editHeardMatchesSpecCard

/-- THE TIED CARD OF 'deadwaxlaw3.EditRendersMatchSpec'. -/
def editRendersMatchSpecCard : Claim7 := { stood := { row := editRendersMatchSpecRow, standIns := [], harness := (true, "f1ed75cfd99b0d949b0afe708e1a483b1aa702036b7fc8d8904e31ebaa492693"), looks := true }, kinds := [], alts := [], laidByText := true, laidKinds := [.data, .data, .data, .data, .sentinel, .sentinel, .pinned], laidTests := true, laidLooks := .later }
def EditRendersMatchSpecCardSaid : Prop := Claim7.holds Tryz.pinned (.plain (OpenSpec.ofChange editRendersMatchSpecSpec)) editRendersMatchSpecCard

/-- THE SECOND FORM's CARD OF 'deadwaxlaw3.EditTextsComeBack'. -/
def editTextsComeBackUptoCard : Claim7 := { stood := { row := editTextsComeBackUptoRow, standIns := [], harness := (true, "f1ed75cfd99b0d949b0afe708e1a483b1aa702036b7fc8d8904e31ebaa492693"), looks := true }, kinds := [], alts := [], laidByText := true, laidKinds := [.data, .data, .data, .data, .sentinel, .sentinel, .pinned], laidTests := true, laidLooks := .later }
def EditTextsComeBackUptoCardSaid : Prop := Claim7.holds Tryz.pinned (.plain (OpenSpec.upto editTextsComeBackSpec)) editTextsComeBackUptoCard

/-- THE SECOND FORM's CARD OF 'deadwaxlaw3.EditReadsMatchSpec'. -/
def editReadsMatchSpecUptoCard : Claim7 := { stood := { row := editReadsMatchSpecUptoRow, standIns := [], harness := (true, "f1ed75cfd99b0d949b0afe708e1a483b1aa702036b7fc8d8904e31ebaa492693"), looks := true }, kinds := [], alts := [], laidByText := true, laidKinds := [.data, .data, .data, .data, .sentinel, .sentinel, .pinned], laidTests := true, laidLooks := .later }
def EditReadsMatchSpecUptoCardSaid : Prop := Claim7.holds Tryz.pinned (.plain (OpenSpec.upto editReadsMatchSpecSpec)) editReadsMatchSpecUptoCard

/-- THE SECOND FORM's CARD OF 'deadwaxlaw3.EditFactorsMatchSpec'. -/
def editFactorsMatchSpecUptoCard : Claim7 := { stood := { row := editFactorsMatchSpecUptoRow, standIns := [], harness := (true, "f1ed75cfd99b0d949b0afe708e1a483b1aa702036b7fc8d8904e31ebaa492693"), looks := true }, kinds := [], alts := [], laidByText := true, laidKinds := [.data, .data, .data, .data, .sentinel, .sentinel, .pinned], laidTests := true, laidLooks := .later }
def EditFactorsMatchSpecUptoCardSaid : Prop := Claim7.holds Tryz.pinned (.plain (OpenSpec.upto editFactorsMatchSpecSpec)) editFactorsMatchSpecUptoCard

/-- THE SECOND FORM's CARD OF 'deadwaxlaw3.EditHeardMatchesSpec'. -/
def editHeardMatchesSpecUptoCard : Claim7 := { stood := { row := editHeardMatchesSpecUptoRow, standIns := [], harness := (true, "f1ed75cfd99b0d949b0afe708e1a483b1aa702036b7fc8d8904e31ebaa492693"), looks := true }, kinds := [], alts := [], laidByText := true, laidKinds := [.data, .data, .data, .data, .sentinel, .sentinel, .pinned], laidTests := true, laidLooks := .later }
def EditHeardMatchesSpecUptoCardSaid : Prop := Claim7.holds Tryz.pinned (.plain (OpenSpec.upto editHeardMatchesSpecSpec)) editHeardMatchesSpecUptoCard

/-- THE SECOND FORM's CARD OF 'deadwaxlaw3.EditRendersMatchSpec'. -/
def editRendersMatchSpecUptoCard : Claim7 := { stood := { row := editRendersMatchSpecUptoRow, standIns := [], harness := (true, "f1ed75cfd99b0d949b0afe708e1a483b1aa702036b7fc8d8904e31ebaa492693"), looks := true }, kinds := [], alts := [], laidByText := true, laidKinds := [.data, .data, .data, .data, .sentinel, .sentinel, .pinned], laidTests := true, laidLooks := .later }
def EditRendersMatchSpecUptoCardSaid : Prop := Claim7.holds Tryz.pinned (.plain (OpenSpec.upto editRendersMatchSpecSpec)) editRendersMatchSpecUptoCard
end Rows
end Go.Proofs.YtpiiickhfcjnmaaGreatDoor
