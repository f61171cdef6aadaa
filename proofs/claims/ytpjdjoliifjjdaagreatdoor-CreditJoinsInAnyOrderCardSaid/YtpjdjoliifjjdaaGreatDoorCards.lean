/-
  DERIVED. GIVEN WITH THE SEED: THE CARDS: each row of YtpjdjoliifjjdaaGreatDoorRows.lean that lists a variable, with what it lists TIED to the program's text (the seventh form; the later family's looks); each row that meets fmt, with fmt's text TOLD by the authors' own Lean function (tested against real Go, not proved from fmt's source: count such statements apart). THE CARD IS WHAT COUNTS. Prove the row's statement (the work); the ties are given (YtpjdjoliifjjdaaGreatDoorTie.lean); close each card by the builder's one call (the guide's Derived/Test/ToyasCard.lean, 'card_holds'). Laid BY PROGRAM, IN A SANDBOX (cutbox-door.mjs). By AI agents, Wed Nov 11 2026. No macro, syntax, notation, axiom, sorry.
-/
import Derived.Test.YtpjdjoliifjjdaaGreatDoorRows
import GoSem.ClaimSeven
namespace Go.Proofs.YtpjdjoliifjjdaaGreatDoor
namespace Rows

/-- THE TIED CARD OF 'deadwaxlaw5.CreditJoinsInAnyOrder'. -/
def creditJoinsInAnyOrderCard : Claim7 := { stood := { row := creditJoinsInAnyOrderRow, standIns := [], harness := (true, "3c9db16361977cdecabcb26714c6091b5d5397331f57dfbab08d493a579cd6f9"), looks := false }, kinds := [], alts := [], laidByText := true, laidKinds := [.data, .pinned], laidTests := true, laidLooks := .later }
def CreditJoinsInAnyOrderCardSaid : Prop := Claim7.holds Tryz.pinned (.plain (OpenSpec.ofChange creditJoinsInAnyOrderSpec)) creditJoinsInAnyOrderCard

/-- THE SECOND FORM's CARD OF 'deadwaxlaw5.CreditJoinsInAnyOrder'. -/
def creditJoinsInAnyOrderUptoCard : Claim7 := { stood := { row := creditJoinsInAnyOrderUptoRow, standIns := [], harness := (true, "3c9db16361977cdecabcb26714c6091b5d5397331f57dfbab08d493a579cd6f9"), looks := false }, kinds := [], alts := [], laidByText := true, laidKinds := [.data, .pinned], laidTests := true, laidLooks := .later }
def CreditJoinsInAnyOrderUptoCardSaid : Prop := Claim7.holds Tryz.pinned (.plain (OpenSpec.upto creditJoinsInAnyOrderSpec)) creditJoinsInAnyOrderUptoCard
end Rows
end Go.Proofs.YtpjdjoliifjjdaaGreatDoor
