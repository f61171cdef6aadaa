/- The contract of strconv.Itoa, and the table that it reads. -/
import Derived.Test.YtmppccnioiodgaaGreatDoorBase
import Derived.Test.YtmppccnioiodgaaGreatDoorShItoa
import Derived.Lib.AppendIntMem
import Derived.Lib.ItoaNum
namespace Go.Proofs.YtmppccnioiodgaaGreatDoor
open Go.RowKit Go.Dw

/-- the table that Itoa reads -/
def HasPow (w : World) : Prop := Lib.TabIs Tryz.prog w "internal/strconv.uint64pow10" .u64 Lib.pow10Tab
theorem HasPow.below {w w' : World} (h : HasPow w) (hb : Below w.heap.size w w') : HasPow w' := Lib.tabBelow_of_tabIs h w' hb
theorem itoaA_any (m : Int) (w : World) (hm : inI64 m) (hp : HasPow w) :
    Calls Tryz.prog 43 #[.int .i64 m] w fun e w' => e = .returned (.string ⟨(Lib.itoa m).toArray⟩) ∧ Below w.heap.size w w' :=
  (Any.strconv_Itoa Tryz.laysM171 m hm.1 hm.2 w hp).mono fun _ w' ⟨h1, k, os, h2⟩ => ⟨h1, by rw [h2]; exact Lib.below_grow _ w (Nat.le_refl _) k os⟩
theorem itoaN_any (m : Nat) (w : World) (hm : m < 9223372036854775807) (hp : HasPow w) :
    Calls Tryz.prog 43 #[.int .i64 (m : Int)] w fun e w' => e = .returned (.string ⟨(Lib.decDigits m).toArray⟩) ∧ Below w.heap.size w w' := by
  have := itoaA_any (m : Int) w ⟨by omega, by omega⟩ hp
  rw [show Lib.itoa (m : Int) = Lib.decDigits m by simp [Lib.itoa]] at this
  exact this
end Go.Proofs.YtmppccnioiodgaaGreatDoor
