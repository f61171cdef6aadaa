/-
  DERIVED. GIVEN WITH THE SEED: THE CARDS: each row of YtgjmjdpddionmaaDoorRows.lean that lists a variable, with what it lists TIED to the program's text (the seventh form; the later family's looks); each row that meets fmt, with fmt's text TOLD by the authors' own Lean function (tested against real Go, not proved from fmt's source: count such statements apart). THE CARD IS WHAT COUNTS. Prove the row's statement (the work); the ties are given (YtgjmjdpddionmaaDoorTie.lean); close each card by the builder's one call (the guide's Derived/Test/ToyasCard.lean, 'card_holds'). Laid BY PROGRAM, IN A SANDBOX (cutbox-door.mjs). By AI agents, Wed Nov 11 2026. No macro, syntax, notation, axiom, sorry.
-/
import Derived.Test.YtgjmjdpddionmaaDoorRows
import GoSem.ClaimSeven
namespace Go.Proofs.YtgjmjdpddionmaaDoor
namespace Rows

/-- THE TIED CARD OF 'deadwaxlaw4.MatchLocatesMatchSpec'. -/
def matchLocatesMatchSpecCard : Claim7 := { stood := { row := matchLocatesMatchSpecRow, standIns := [], harness := (true, "04f4debb32a19411d3fc6c121265d72814943ae82db749b7e44c40c7179edaca"), looks := false }, kinds := [], alts := [], laidByText := true, laidKinds := [.data, .pinned], laidTests := true, laidLooks := .later }
def MatchLocatesMatchSpecCardSaid : Prop := Claim7.holds Tryd.pinned (.plain (OpenSpec.ofChange matchLocatesMatchSpecSpec)) matchLocatesMatchSpecCard

/-- THE SECOND FORM's CARD OF 'deadwaxlaw4.MatchLocatesMatchSpec'. -/
def matchLocatesMatchSpecUptoCard : Claim7 := { stood := { row := matchLocatesMatchSpecUptoRow, standIns := [], harness := (true, "04f4debb32a19411d3fc6c121265d72814943ae82db749b7e44c40c7179edaca"), looks := false }, kinds := [], alts := [], laidByText := true, laidKinds := [.data, .pinned], laidTests := true, laidLooks := .later }
def MatchLocatesMatchSpecUptoCardSaid : Prop := Claim7.holds Tryd.pinned (.plain (OpenSpec.upto matchLocatesMatchSpecSpec)) matchLocatesMatchSpecUptoCard
end Rows
end Go.Proofs.YtgjmjdpddionmaaDoor
