/- The contract of the reference's bits, for numbers from 0 to 255. -/
import Derived.Test.YtgjmjdpddionmaaDoorOnes
namespace Go.Proofs.YtgjmjdpddionmaaDoor
open Go.RowKit Go.Dw

set_option maxHeartbeats 1000000 in
theorem rbits_any (a b : Nat) (w : World) (ha : a < 256) (hb : b < 256) :
    Calls Tryd.prog 55 #[.int .i64 (a : Int), .int .i64 (b : Int)] w fun e w' => e = .returned (.int .i64 (bd (a : Int) (b : Int))) ∧ w = w' := by
  have HX := Lib.hid (xor_nat a b ha hb)
  have hlt := xor_lt a b ha hb
  have HBD : Hid (bd (a : Int) (b : Int) = (popN 8 (a ^^^ b) : Int)) := by show _ = _; unfold bd; rw [Int.toNat_natCast, Int.toNat_natCast]
  generalize a ^^^ b = x0 at *
  go_enter Tryd.func55, Tryd.ntmps55
  go_wp2
  go_loop [5, 6] (fun n x => ∃ k c : Nat, k < 256 ∧ c + popN 8 k = popN 8 x0 ∧ x = .int .i64 (k : Int) ∧ n = .int .i64 (c : Int)) (fun _ x => (intOf x).toNat)
  case atStart => exact ⟨x0, 0, hlt, by omega, by rw [HX.out], rfl⟩
  case round =>
    obtain ⟨k, c, hk, hc, rfl, rfl⟩ := hrel
    have hh := popN_half k hk
    have hp8 := popN_le 8 x0
    by_cases h0 : 0 < k
    · have HC : Hid (c + k % 2 + popN 8 (k / 2) = popN 8 x0) := by show _ = _; omega
      have hc2 : c ≤ 8 := by omega
      clear hc hh
      go_wp2
      go_round
      case rel => exact ⟨k / 2, c + k % 2, by omega, HC.out, by go_num, by go_num⟩
      case measure => simp [intOf]; omega
    · have hk0 : k = 0 := by omega
      rw [hk0, popN_0] at hc
      have HC := Lib.hid hc
      clear hc hh hk0
      go_wp2
      go_ret
      refine ⟨ret_int ?_, rfl⟩
      rw [HBD.out, ← HC.out]; simp
end Go.Proofs.YtgjmjdpddionmaaDoor
