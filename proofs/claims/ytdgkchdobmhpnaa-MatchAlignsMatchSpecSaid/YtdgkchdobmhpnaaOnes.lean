/- The contracts of math/bits.OnesCount and of the reference's bits, for numbers from 0 to 255. -/
import Derived.Test.YtdgkchdobmhpnaaMatchA
import Derived.Test.YtdgkchdobmhpnaaAlnP
namespace Go.Proofs.Ytdgkchdobmhpnaa
open Go.RowKit Go.Dw

def oc1 (x : Int) : Int := IntKind.u64.wrap (bits .and .u64 (x / 2) 6148914691236517205 + bits .and .u64 x 6148914691236517205)
def oc2 (x : Int) : Int := IntKind.u64.wrap (bits .and .u64 (oc1 x / 4) 3689348814741910323 + bits .and .u64 (oc1 x) 3689348814741910323)
def oc3 (x : Int) : Int := bits .and .u64 (IntKind.u64.wrap (oc2 x / 16 + oc2 x)) 1085102592571150095
def oc4 (x : Int) : Int := IntKind.u64.wrap (oc3 x + oc3 x / 256)
def oc5 (x : Int) : Int := IntKind.u64.wrap (oc4 x + oc4 x / 65536)
def oc6 (x : Int) : Int := IntKind.u64.wrap (oc5 x + oc5 x / 4294967296)
def oc7 (x : Int) : Int := bits .and .i64 (wrap64 (oc6 x)) 127
theorem oc_all : ∀ k : Fin 256, oc7 (k.val : Int) = (popN 8 k.val : Int) := by decide +kernel
set_option maxHeartbeats 1000000 in
theorem ones64_any (n : Nat) (w : World) (h1 : n < 256) :
    Calls Try.prog 53 #[.int .u64 (n : Int)] w fun e w' => e = .returned (.int .i64 (popN 8 n)) ∧ w = w' := by
  have HK := Lib.hid (oc_all ⟨n, h1⟩)
  go_enter Try.func53, Try.ntmps53
  go_wp2
  go_ret
  refine ⟨?_, rfl⟩
  exact ret_int HK.out
theorem ones_any (n : Nat) (w : World) (h1 : n < 256) :
    Calls Try.prog 41 #[.int .u64 (n : Int)] w fun e w' => e = .returned (.int .i64 (popN 8 n)) ∧ w = w' := by
  go_enter Try.func41, Try.ntmps41
  go_wp2_with fail
  refine (ones64_any n _ h1).mono ?_
  rintro e w' ⟨rfl, rfl⟩
  go_wp2
  go_ret
  exact ⟨rfl, rfl⟩


/-- a ^ b of two marks -/
theorem xor_nat (a b : Nat) (ha : a < 256) (hb : b < 256) : bits .xor .i64 (a : Int) (b : Int) = ((a ^^^ b : Nat) : Int) := by
  have hx : a ^^^ b < 256 := Nat.xor_lt_two_pow (n := 8) ha hb
  unfold bits
  show IntKind.i64.wrap (((BitVec.ofInt 64 (a : Int) ^^^ BitVec.ofInt 64 (b : Int)).toNat : Nat) : Int) = _
  rw [BitVec.ofInt_natCast, BitVec.ofInt_natCast, BitVec.toNat_xor, BitVec.toNat_ofNat, BitVec.toNat_ofNat, Nat.mod_eq_of_lt (by omega), Nat.mod_eq_of_lt (by omega)]
  exact IntWalk.i64_in _ (by omega)
theorem xor_lt (a b : Nat) (ha : a < 256) (hb : b < 256) : a ^^^ b < 256 := Nat.xor_lt_two_pow (n := 8) ha hb
theorem popN_0 : ∀ f, popN f 0 = 0
  | 0 => rfl
  | f + 1 => by unfold popN; rw [Nat.zero_div, popN_0 f]
theorem popN_more : ∀ f n, n < 2 ^ f → popN (f + 1) n = popN f n
  | 0, n, h => by
    have : n = 0 := by simpa using h
    subst this; rfl
  | f + 1, n, h => by
    rw [popN, popN_more f (n / 2) (by rw [Nat.pow_succ] at h; omega)]; rfl
theorem popN_half (n : Nat) (h : n < 256) : popN 8 n = n % 2 + popN 8 (n / 2) := by
  rw [← popN_more 8 n (by omega), popN]
set_option maxHeartbeats 1000000 in
theorem rbits_any (a b : Nat) (w : World) (ha : a < 256) (hb : b < 256) :
    Calls Try.prog 46 #[.int .i64 (a : Int), .int .i64 (b : Int)] w fun e w' => e = .returned (.int .i64 (bd (a : Int) (b : Int))) ∧ w = w' := by
  have HX := Lib.hid (xor_nat a b ha hb)
  have hlt := xor_lt a b ha hb
  have HBD : Hid (bd (a : Int) (b : Int) = (popN 8 (a ^^^ b) : Int)) := by show _ = _; unfold bd; rw [Int.toNat_natCast, Int.toNat_natCast]
  generalize a ^^^ b = x0 at *
  go_enter Try.func46, Try.ntmps46
  go_wp2
  go_loop [5, 6] (fun n x => ∃ k c : Nat, k < 256 ∧ c + popN 8 k = popN 8 x0 ∧ x = .int .i64 (k : Int) ∧ n = .int .i64 (c : Int)) (fun _ x => (intOf x).toNat)
  case atStart => exact ⟨x0, 0, hlt, by omega, by rw [HX.out], rfl⟩
  case round =>
    obtain ⟨k, c, hk, hc, rfl, rfl⟩ := hrel
    have hh := popN_half k hk
    have hp8 := popN_le 8 x0
    by_cases h0 : 0 < k
    · have HC : Hid (c + k % 2 + popN 8 (k / 2) = popN 8 x0) := by show _ = _; omega
      have hc2 : c ≤ 8 := by omega
      clear hc hh
      go_wp2
      go_round
      case rel => exact ⟨k / 2, c + k % 2, by omega, HC.out, by go_num, by go_num⟩
      case measure => simp [intOf]; omega
    · have hk0 : k = 0 := by omega
      rw [hk0, popN_0] at hc
      have HC := Lib.hid hc
      clear hc hh hk0
      go_wp2
      go_ret
      refine ⟨ret_int ?_, rfl⟩
      rw [HBD.out, ← HC.out]; simp
end Go.Proofs.Ytdgkchdobmhpnaa
