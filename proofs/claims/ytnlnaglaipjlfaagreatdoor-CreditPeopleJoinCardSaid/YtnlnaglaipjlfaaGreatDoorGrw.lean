/- Worlds with new blocks alone. -/
import Derived.Test.YtnlnaglaipjlfaaGreatDoorSortK
namespace Go.Proofs.YtnlnaglaipjlfaaGreatDoor
open Go.RowKit Go.Dw Go.Sort

theorem Grw.trans {a b c : World} (h : Grw a b) (k : Grw b c) : Grw a c := by
  obtain ⟨q, os, rfl⟩ := h
  obtain ⟨q2, os2, rfl⟩ := k
  exact ⟨q + q2, os ++ os2, by simp [World.drewN, grow, Nat.add_assoc]⟩
theorem Grw.below {a b : World} (h : Grw a b) : Below a.heap.size a b := by
  obtain ⟨q, os, rfl⟩ := h
  refine ⟨rfl, rfl, rfl, by simp [grow, World.drewN], fun j hj => ?_⟩
  rw [heap_grow_old _ _ (by simpa [World.drewN] using hj)]; rfl
def Gr (a b : World) : Prop := Grw a b
end Go.Proofs.YtnlnaglaipjlfaaGreatDoor
