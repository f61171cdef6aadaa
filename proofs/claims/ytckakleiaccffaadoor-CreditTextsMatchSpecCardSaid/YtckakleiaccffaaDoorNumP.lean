/- Plain: numbers of digits. -/
import Derived.Test.YtckakleiaccffaaDoorRdP
import Derived.Test.YtckakleiaccffaaDoorSRes
import Derived.Deep.DeepCutAuto
import Derived.Deep.CutBlock
namespace Go.Proofs.YtckakleiaccffaaDoor
open Go.RowKit Go.Dw

theorem numF_none {l : List UInt8} (h : l.length = 0 ∨ 6 < l.length ∨ (1 < l.length ∧ l.head? = some 48) ∨ l.all isD = false) : numF l = none := by unfold numF; rw [if_pos h]
theorem head_at (s : ByteArray) (h : 0 < s.size) : s.data.toList.head? = some (s[0]'h) := by
  rw [List.head?_eq_getElem?, List.getElem?_eq_getElem (by rw [size_list]; exact h)]; rfl
theorem at_list (s : ByteArray) (k : Nat) (h : k < s.size) : s.data.toList[k]'(by rw [size_list]; exact h) = s[k] := rfl
theorem take_at (s : ByteArray) (k : Nat) (h : k < s.size) : s.data.toList.take (k + 1) = s.data.toList.take k ++ [s[k]] := by
  rw [List.take_succ_eq_append_getElem (by rw [size_list]; exact h), at_list]
def nVal (r : Option Nat) : Value := .tuple #[.int .i64 ((r.getD 0 : Nat) : Int), .bool r.isSome]
end Go.Proofs.YtckakleiaccffaaDoor
