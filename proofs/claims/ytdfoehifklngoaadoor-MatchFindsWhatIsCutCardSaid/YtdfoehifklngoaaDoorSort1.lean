/- The contract of slices.SortFunc at hits, at most one of them: nothing turns. -/
import Derived.Test.YtdfoehifklngoaaDoorBase
import Derived.Test.YtdfoehifklngoaaDoorShelf
namespace Go.Proofs.YtdfoehifklngoaaDoor
open Go.RowKit Go.Dw

theorem len_any (n : Nat) (w : World) (h : n ≤ 1) :
    Calls Tryd.prog 24 #[.int .u64 (n : Int)] w fun e w' => e = .returned (.int .i64 (Lib.bitLen n)) ∧ w = w' :=
  (Any.bits_Len Tryd.lays125 (n : Int) w (by omega) (by omega)).mono fun _ _ ⟨he, hw⟩ => ⟨by rw [he]; rfl, hw.symm⟩
set_option maxHeartbeats 400000 in
theorem insert1_any (A : Option Addr) (n c : Nat) (f : Value) (w : World) (h : n ≤ 1) :
    Calls Tryd.prog 29 #[.slice A n c, .int .i64 0, .int .i64 (n : Int), f] w fun e w' => e = .returned (.tuple #[]) ∧ w = w' := by
  have h1 : decide ((1 : Int) < (n : Int)) = false := by simp; omega
  go_enter Tryd.func29, Tryd.ntmps29
  go_wp2
  go_loop [8, 9] (fun i _ => i = .int .i64 1) (fun _ _ => 0)
  case atStart => rfl
  case round =>
    subst hrel
    go_wp2
    go_end0
    exact ⟨rfl, rfl⟩
set_option maxHeartbeats 400000 in
theorem pdq1_any (A : Option Addr) (n c : Nat) (l : Int) (f : Value) (w : World) (h : n ≤ 1) :
    Calls Tryd.prog 23 #[.slice A n c, .int .i64 0, .int .i64 (n : Int), .int .i64 l, f] w fun e w' => e = .returned (.tuple #[]) ∧ w = w' := by
  have h1 : decide ((n : Int) ≤ 12) = true := by simp; omega
  have HI := Lib.hid (insert1_any A n c f w h)
  go_enter Tryd.func23, Tryd.ntmps23
  go_wp2_with fail
  go_loop [1, 2] (fun a b => a = .int .i64 0 ∧ b = .int .i64 (n : Int)) (fun _ _ => 0)
  case atStart => exact ⟨rfl, rfl⟩
  case round =>
    obtain ⟨rfl, rfl⟩ := hrel
    go_wp2_with fail
    refine HI.out.mono ?_
    rintro e w' ⟨rfl, rfl⟩
    go_wp2_with fail
    (try simp only [Exit.inBlock, Exit.then])
    refine bodyPost_ret (results_none rfl _ _ _) rfl ?_
    exact ⟨rfl, rfl⟩
set_option maxHeartbeats 400000 in
theorem sort1_any (A : Option Addr) (n c : Nat) (f : Value) (w : World) (h : n ≤ 1) :
    Calls Tryd.prog 15 #[.slice A n c, f] w fun e w' => e = .returned (.tuple #[]) ∧ w = w' := by
  have HL := Lib.hid (fun W => len_any n W h)
  have HP := Lib.hid (fun W => pdq1_any A n c (Lib.bitLen n) f W h)
  go_enter Tryd.func15, Tryd.ntmps15
  go_wp2_with fail
  refine (HL.out _).mono ?_
  rintro e w' ⟨rfl, rfl⟩
  go_wp2_with fail
  refine (HP.out _).mono ?_
  rintro e w' ⟨rfl, rfl⟩
  go_wp2_with fail
  go_end0
  exact ⟨rfl, rfl⟩
end Go.Proofs.YtdfoehifklngoaaDoor
