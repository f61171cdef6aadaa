/- The contract of cmp.Or at two ints. -/
import Derived.Test.YtnlnaglaipjlfaaGreatDoorBase
import Derived.Test.YtnlnaglaipjlfaaGreatDoorProg
namespace Go.Proofs.YtnlnaglaipjlfaaGreatDoor
open Go.RowKit Go.Dw

def cmpI (x y : Int) : Int := if x < y then -1 else if y < x then 1 else 0
def orI (x y : Int) : Int := if x = 0 then y else x
set_option maxHeartbeats 1000000 in
theorem or2_any (b c : Nat) (x y : Int) (w : World) (h0 : w.cell? ⟨b, 0, none⟩ = some (.int .i64 x)) (h1 : w.cell? ⟨b, 1, none⟩ = some (.int .i64 y)) :
    Calls Tryz.prog 40 #[.slice (some ⟨b, 0, none⟩) 2 c] w fun e w' => e = .returned (.int .i64 (orI x y)) ∧ w = w' := by
  go_enter Tryz.func40, Tryz.ntmps40
  go_wp2
  go_loop [5, 8] (fun _ i => ∃ k : Nat, k ≤ 2 ∧ i = .int .i64 k ∧ (1 ≤ k → x = 0) ∧ (2 ≤ k → y = 0)) (fun _ i => 2 - (intOf i).toNat)
  case atStart => exact ⟨0, by omega, rfl, by omega, by omega⟩
  case round =>
    obtain ⟨k, hk, rfl, hx, hy⟩ := hrel
    rcases (by omega : k = 0 ∨ k = 1 ∨ k = 2) with rfl | rfl | rfl
    · clear hx hy
      by_cases e : x = 0
      · have e' : (x == 0) = true := by simpa using e
        have E := Lib.hid e
        clear e
        go_wp2
        go_round
        case rel => exact ⟨1, by omega, by go_num, fun _ => E.out, by omega⟩
        case measure => simp [intOf]
      · have e' : (x == 0) = false := by simpa using e
        go_wp2
        go_ret
        exact ⟨ret_int (by simp [orI, e]), rfl⟩
    · have hx0 := Lib.hid (hx (by omega))
      clear hx hy
      by_cases e : y = 0
      · have e' : (y == 0) = true := by simpa using e
        have E := Lib.hid e
        clear e
        go_wp2
        go_round
        case rel => exact ⟨2, by omega, by go_num, fun _ => hx0.out, fun _ => E.out⟩
        case measure => simp [intOf]
      · have e' : (y == 0) = false := by simpa using e
        go_wp2
        go_ret
        exact ⟨ret_int (by simp [orI, hx0.out]), rfl⟩
    · have hx0 := Lib.hid (hx (by omega))
      have hy0 := Lib.hid (hy (by omega))
      clear hx hy
      go_wp2
      go_ret
      exact ⟨ret_int (by simp [orI, hx0.out, hy0.out]), rfl⟩
end Go.Proofs.YtnlnaglaipjlfaaGreatDoor
