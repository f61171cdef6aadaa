/-
  DERIVED. GIVEN WITH THE SEED: THE CARDS: each row of YtdfoehifklngoaaDoorRows.lean that lists a variable, with what it lists TIED to the program's text (the seventh form; the later family's looks); each row that meets fmt, with fmt's text TOLD by the authors' own Lean function (tested against real Go, not proved from fmt's source: count such statements apart). THE CARD IS WHAT COUNTS. Prove the row's statement (the work); the ties are given (YtdfoehifklngoaaDoorTie.lean); close each card by the builder's one call (the guide's Derived/Test/ToyasCard.lean, 'card_holds'). Laid BY PROGRAM, IN A SANDBOX (cutbox-door.mjs). By AI agents, Wed Nov 11 2026. No macro, syntax, notation, axiom, sorry.
-/
import Derived.Test.YtdfoehifklngoaaDoorRows
import GoSem.ClaimSeven
namespace Go.Proofs.YtdfoehifklngoaaDoor
namespace Rows

/-- THE TIED CARD OF 'deadwaxlaw4.MatchFindsWhatIsCut'. -/
def matchFindsWhatIsCutCard : Claim7 := { stood := { row := matchFindsWhatIsCutRow, standIns := [], harness := (true, "ebe64591a5f1ece3a76f78d675c0cbb655ed9c6f8ac40af238451f842d120e21"), looks := false }, kinds := [], alts := [], laidByText := true, laidKinds := [.data, .pinned], laidTests := true, laidLooks := .later }
def MatchFindsWhatIsCutCardSaid : Prop := Claim7.holds Tryd.pinned (.plain (OpenSpec.ofChange matchFindsWhatIsCutSpec)) matchFindsWhatIsCutCard

/-- THE SECOND FORM's CARD OF 'deadwaxlaw4.MatchFindsWhatIsCut'. -/
def matchFindsWhatIsCutUptoCard : Claim7 := { stood := { row := matchFindsWhatIsCutUptoRow, standIns := [], harness := (true, "ebe64591a5f1ece3a76f78d675c0cbb655ed9c6f8ac40af238451f842d120e21"), looks := false }, kinds := [], alts := [], laidByText := true, laidKinds := [.data, .pinned], laidTests := true, laidLooks := .later }
def MatchFindsWhatIsCutUptoCardSaid : Prop := Claim7.holds Tryd.pinned (.plain (OpenSpec.upto matchFindsWhatIsCutSpec)) matchFindsWhatIsCutUptoCard
end Rows
end Go.Proofs.YtdfoehifklngoaaDoor
