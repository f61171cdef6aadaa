/- The contracts of the reference's CheckMarks and Below. -/
import Derived.Test.YtdfoehifklngoaaDoorMatchA
namespace Go.Proofs.YtdfoehifklngoaaDoor
open Go.RowKit Go.Dw

set_option maxHeartbeats 400000 in
theorem checkM_any (A : Option Addr) (c : Nat) (xs : List Int) (w : World) (h : Rd w A (ic xs)) (hn : xs.length ≤ 9223372036854775807) :
    Calls Tryd.prog 4 #[.slice A xs.length c] w fun e w' => e = .returned (.int .i64 (chk xs)) ∧ w = w' := by
  have HC := Lib.hid (check_any A c xs w h hn)
  go_enter Tryd.func4, Tryd.ntmps4
  go_wp2_with fail
  refine HC.out.mono ?_
  rintro e w' ⟨rfl, rfl⟩
  go_wp2_with fail
  go_ret
  exact ⟨rfl, rfl⟩
set_option maxHeartbeats 400000 in
theorem belowN_any (a : Int) (n : Nat) (w : World) (h1 : 1 ≤ n) (h2 : n ≤ 1000) :
    Calls Tryd.prog 6 #[.int .i64 a, .int .i64 (n : Int)] w fun e w' => ∃ r : Nat, r < n ∧ e = .returned (.int .i64 (r : Int)) ∧ w = w' := by
  have hlt := Int.tmod_lt_of_pos a (b := (n : Int)) (by omega)
  have hgt : -(n : Int) < a.tmod n := by
    have := Int.lt_tmod_of_pos a (b := (n : Int)) (by omega)
    omega
  have hn0 : ¬ (n : Int) = 0 := by omega
  have hn0' : ((n : Int) == 0) = false := by simpa using hn0
  have hw0 : wrap64 (a.tmod (n : Int)) = a.tmod n := IntWalk.wrap64_in _ (by omega)
  have hw1 : wrap64 (a.tmod (n : Int) + n) = a.tmod n + n := IntWalk.wrap64_in _ (by omega)
  by_cases h : a.tmod (n : Int) < 0
  · go_enter Tryd.func6, Tryd.ntmps6
    go_wp2_with fail
    go_ret
    exact ⟨(a.tmod (n : Int) + n).toNat, by omega, ret_int (by omega), rfl⟩
  · go_enter Tryd.func6, Tryd.ntmps6
    go_wp2_with fail
    go_ret
    exact ⟨(a.tmod (n : Int)).toNat, by omega, ret_int (by omega), rfl⟩
end Go.Proofs.YtdfoehifklngoaaDoor
