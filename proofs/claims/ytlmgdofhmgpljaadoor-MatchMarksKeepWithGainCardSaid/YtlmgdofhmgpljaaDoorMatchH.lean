/- The contract of awake (law 4). -/
import Derived.Test.YtlmgdofhmgpljaaDoorMatchT
namespace Go.Proofs.YtlmgdofhmgpljaaDoor
open Go.RowKit Go.Dw

set_option maxHeartbeats 400000 in
theorem awake4 (w : World) :
    Calls Tryd.prog 5 #[] w fun e w' => e = .returned (.bool true) ∧ Below w.heap.size w w' := by
  have hb0 : Below w.heap.size w (w.alloc (.cells #[.int .i64 165] 3)) := (Below.refl _ _).alloc (Nat.le_refl _) _
  have ht : txr [165] = ([97, 53], 0) := by decide
  have HT := Lib.hid ht
  have Hb0 := Lib.hid hb0
  clear ht hb0
  go_enter Tryd.func5, Tryd.ntmps5
  go_wp2_with fail
  refine (text_any (some ⟨w.heap.size, 0, none⟩) 1 [165] _ ?_ (by simp)).mono ?_
  · refine .inr ⟨_, _, rfl, by simp, ?_⟩
    intro j u hu
    cases j with
    | zero => simp [ic] at hu; subst hu; simp
    | succ j => simp [ic] at hu
  rintro e w' ⟨rfl, hb⟩
  rw [HT.out]
  have HB := Lib.hid (Hb0.out.trans (hb.mono (by simp)))
  clear hb
  go_wp2_with fail
  go_ret
  exact ⟨rfl, HB.out⟩
end Go.Proofs.YtlmgdofhmgpljaaDoor
