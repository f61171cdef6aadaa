/- The contracts of clock.IsRate and of the reference's. -/
import Derived.Test.YtjcdifchcmldfaaGreatDoorBase
import Derived.Test.YtjcdifchcmldfaaGreatDoorProg
namespace Go.Proofs.YtjcdifchcmldfaaGreatDoor
open Go.RowKit Go.Dw

def isRt (n : Int) : Bool := decide (1 ≤ n) && decide (n ≤ 1000000)
theorem isRt_iff (n : Int) : isRt n = true ↔ 1 ≤ n ∧ n ≤ 1000000 := by simp [isRt]
set_option maxHeartbeats 1000000 in
theorem isRate_any (n : Int) (w : World) : Calls Tryz.prog 15 #[.int .i64 n] w fun e w' => e = .returned (.bool (isRt n)) ∧ w = w' := by
  have HR : Hid (isRt n = (decide (1 ≤ n) && decide (n ≤ 1000000))) := rfl
  by_cases h1 : 1 ≤ n
  · have e1 : decide (1 ≤ n) = true := decide_eq_true h1
    go_enter Tryz.func15, Tryz.ntmps15
    go_wp2_with fail
    go_ret
    exact ⟨by rw [HR.out, e1]; rfl, rfl⟩
  · have e1 : decide (1 ≤ n) = false := decide_eq_false h1
    go_enter Tryz.func15, Tryz.ntmps15
    go_wp2_with fail
    go_ret
    exact ⟨by rw [HR.out, e1]; rfl, rfl⟩
set_option maxHeartbeats 1000000 in
theorem isRateR_any (n : Int) (w : World) : Calls Tryz.prog 18 #[.int .i64 n] w fun e w' => e = .returned (.bool (isRt n)) ∧ w = w' := by
  have HR : Hid (isRt n = (decide (1 ≤ n) && decide (n ≤ 1000000))) := rfl
  by_cases h1 : 1 ≤ n
  · have e1 : decide (1 ≤ n) = true := decide_eq_true h1
    go_enter Tryz.func18, Tryz.ntmps18
    go_wp2_with fail
    go_ret
    exact ⟨by rw [HR.out, e1]; rfl, rfl⟩
  · have e1 : decide (1 ≤ n) = false := decide_eq_false h1
    go_enter Tryz.func18, Tryz.ntmps18
    go_wp2_with fail
    go_ret
    exact ⟨by rw [HR.out, e1]; rfl, rfl⟩
end Go.Proofs.YtjcdifchcmldfaaGreatDoor
