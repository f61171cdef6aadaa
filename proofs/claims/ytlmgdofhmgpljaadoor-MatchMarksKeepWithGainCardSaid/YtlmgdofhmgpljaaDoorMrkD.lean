/- Plain: marks as they should be. -/
import Derived.Test.YtlmgdofhmgpljaaDoorBase
import Derived.Test.YtlmgdofhmgpljaaDoorProg
namespace Go.Proofs.YtlmgdofhmgpljaaDoor
open Go.RowKit Go.Dw

def okM (m : Int) : Bool := decide (0 ≤ m) && decide (m ≤ 255)
theorem okM_t {m : Int} (h : okM m = true) : 0 ≤ m ∧ m ≤ 255 := by simpa [okM] using h
theorem okM_f {m : Int} (h : okM m = false) : ¬ (0 ≤ m ∧ m ≤ 255) := by simp [okM] at h; omega
def chk (xs : List Int) : Int := if 500 < xs.length then 2 else if xs.all okM then 0 else 1

theorem all_take_succ {α : Type} (p : α → Bool) (xs : List α) (k : Nat) (h : k < xs.length) : (xs.take (k + 1)).all p = ((xs.take k).all p && p xs[k]) := by
  rw [List.take_succ_eq_append_getElem h, List.all_append]; simp
theorem chk_big {xs : List Int} (h : 500 < xs.length) : chk xs = 2 := by simp [chk, h]
theorem chk_ok {xs : List Int} (h : ¬ 500 < xs.length) (ha : xs.all okM = true) : chk xs = 0 := by simp [chk, h]; simpa using ha
theorem chk_bad {xs : List Int} (h : ¬ 500 < xs.length) {k : Nat} (hk : k < xs.length) (hv : okM xs[k] = false) : chk xs = 1 := by
  have : xs.all okM = false := by
    rw [List.all_eq_false]; exact ⟨xs[k], List.getElem_mem hk, by simp [hv]⟩
  unfold chk; rw [if_neg h, this]; rfl

end Go.Proofs.YtlmgdofhmgpljaaDoor
