/- The contracts of math/bits.OnesCount for numbers from 0 to 255. -/
import Derived.Test.YtgjmjdpddionmaaDoorMatchA
import Derived.Test.YtgjmjdpddionmaaDoorAlnP
namespace Go.Proofs.YtgjmjdpddionmaaDoor
open Go.RowKit Go.Dw

def oc1 (x : Int) : Int := IntKind.u64.wrap (bits .and .u64 (x / 2) 6148914691236517205 + bits .and .u64 x 6148914691236517205)
def oc2 (x : Int) : Int := IntKind.u64.wrap (bits .and .u64 (oc1 x / 4) 3689348814741910323 + bits .and .u64 (oc1 x) 3689348814741910323)
def oc3 (x : Int) : Int := bits .and .u64 (IntKind.u64.wrap (oc2 x / 16 + oc2 x)) 1085102592571150095
def oc4 (x : Int) : Int := IntKind.u64.wrap (oc3 x + oc3 x / 256)
def oc5 (x : Int) : Int := IntKind.u64.wrap (oc4 x + oc4 x / 65536)
def oc6 (x : Int) : Int := IntKind.u64.wrap (oc5 x + oc5 x / 4294967296)
def oc7 (x : Int) : Int := bits .and .i64 (wrap64 (oc6 x)) 127
theorem oc_all : ∀ k : Fin 256, oc7 (k.val : Int) = (popN 8 k.val : Int) := by decide +kernel
set_option maxHeartbeats 1000000 in
theorem ones64_any (n : Nat) (w : World) (h1 : n < 256) :
    Calls Tryd.prog 65 #[.int .u64 (n : Int)] w fun e w' => e = .returned (.int .i64 (popN 8 n)) ∧ w = w' := by
  have HK := Lib.hid (oc_all ⟨n, h1⟩)
  go_enter Tryd.func65, Tryd.ntmps65
  go_wp2
  go_ret
  refine ⟨?_, rfl⟩
  exact ret_int HK.out
theorem ones_any (n : Nat) (w : World) (h1 : n < 256) :
    Calls Tryd.prog 42 #[.int .u64 (n : Int)] w fun e w' => e = .returned (.int .i64 (popN 8 n)) ∧ w = w' := by
  go_enter Tryd.func42, Tryd.ntmps42
  go_wp2_with fail
  refine (ones64_any n _ h1).mono ?_
  rintro e w' ⟨rfl, rfl⟩
  go_wp2
  go_ret
  exact ⟨rfl, rfl⟩


/-- a ^ b of two marks -/
theorem xor_nat (a b : Nat) (ha : a < 256) (hb : b < 256) : bits .xor .i64 (a : Int) (b : Int) = ((a ^^^ b : Nat) : Int) := by
  have hx : a ^^^ b < 256 := Nat.xor_lt_two_pow (n := 8) ha hb
  unfold bits
  show IntKind.i64.wrap (((BitVec.ofInt 64 (a : Int) ^^^ BitVec.ofInt 64 (b : Int)).toNat : Nat) : Int) = _
  rw [BitVec.ofInt_natCast, BitVec.ofInt_natCast, BitVec.toNat_xor, BitVec.toNat_ofNat, BitVec.toNat_ofNat, Nat.mod_eq_of_lt (by omega), Nat.mod_eq_of_lt (by omega)]
  exact IntWalk.i64_in _ (by omega)
theorem xor_lt (a b : Nat) (ha : a < 256) (hb : b < 256) : a ^^^ b < 256 := Nat.xor_lt_two_pow (n := 8) ha hb
theorem popN_0 : ∀ f, popN f 0 = 0
  | 0 => rfl
  | f + 1 => by unfold popN; rw [Nat.zero_div, popN_0 f]
theorem popN_more : ∀ f n, n < 2 ^ f → popN (f + 1) n = popN f n
  | 0, n, h => by
    have : n = 0 := by simpa using h
    subst this; rfl
  | f + 1, n, h => by
    rw [popN, popN_more f (n / 2) (by rw [Nat.pow_succ] at h; omega)]; rfl
theorem popN_half (n : Nat) (h : n < 256) : popN 8 n = n % 2 + popN 8 (n / 2) := by
  rw [← popN_more 8 n (by omega), popN]
end Go.Proofs.YtgjmjdpddionmaaDoor
