/- Plain: where something stands first. -/
import Derived.Test.YtnlnaglaipjlfaaGreatDoorBase
namespace Go.Proofs.YtnlnaglaipjlfaaGreatDoor
open Go.RowKit Go.Dw

def idxI (i n : Nat) : Int := if i < n then (i : Int) else -1
theorem find_at {α : Type} {p : α → Bool} {L : List α} {k : Nat} (hk : k < L.length) (hb : ∀ j (hj : j < k), p (L[j]'(by omega)) = false) (h : p L[k] = true) : L.findIdx p = k := by
  rcases Nat.lt_trichotomy (L.findIdx p) k with h1 | h1 | h1
  · have h2 := List.findIdx_getElem (p := p) (xs := L) (w := by omega)
    rw [hb _ h1] at h2; cases h2
  · exact h1
  · have h2 := List.not_of_lt_findIdx h1
    rw [h] at h2; simp at h2
theorem find_no {α : Type} {p : α → Bool} {L : List α} (hb : ∀ j (hj : j < L.length), p L[j] = false) : L.findIdx p = L.length := by
  rcases Nat.lt_or_ge (L.findIdx p) L.length with h1 | h1
  · have h2 := List.findIdx_getElem (p := p) (xs := L) (w := h1)
    rw [hb _ h1] at h2; cases h2
  · exact Nat.le_antisymm List.findIdx_le_length h1
theorem hasV (i n : Nat) : (idxI i n = (i : Int) ∧ i < n) ∨ (idxI i n = -1 ∧ ¬ i < n) := by
  unfold idxI
  by_cases h : i < n
  · left; rw [if_pos h]; exact ⟨rfl, h⟩
  · right; rw [if_neg h]; exact ⟨rfl, h⟩
end Go.Proofs.YtnlnaglaipjlfaaGreatDoor
