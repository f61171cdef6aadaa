/- Contracts of strings.IndexByte, digit, match.Read. -/
import Derived.Test.YtdgkchdobmhpnaaMatchP
import Derived.Test.YtdgkchdobmhpnaaProg
import Derived.Lib.Walk
namespace Go.Proofs.Ytdgkchdobmhpnaa
open Go.RowKit Go.Dw

set_option maxHeartbeats 400000 in
theorem lite_IndexByte (s : ByteArray) (c : Int) (w : World) :
    Calls Try.prog 47 #[.string s, .int .u8 c] w fun e w' => e = .returned (.int .i64 (Lib.indexByte s.data.toList c.toNat.toUInt8)) ∧ w = w' := by
  go_enter Try.func47, Try.ntmps47
  go_wp2
  rw [run_callFunc_extern Try.func56 (by kernel_rfl) (by kernel_rfl) (by kernel_rfl) (e := Extern.BytealgIndexByte.indexByte) (by kernel_rfl), Lib.run_indexByteString]
  simp only [Result.andThen]
  rw [Oper.upon_value]
  go_wp2
  go_ret
  exact ⟨rfl, rfl⟩
set_option maxHeartbeats 400000 in
theorem strings_IndexByte (s : ByteArray) (c : Int) (w : World) :
    Calls Try.prog 31 #[.string s, .int .u8 c] w fun e w' => e = .returned (.int .i64 (Lib.indexByte s.data.toList c.toNat.toUInt8)) ∧ w = w' := by
  go_enter Try.func31, Try.ntmps31
  go_wp2_with (go_at_call 47; refine (lite_IndexByte _ _ _).mono ?_; rintro e w' ⟨rfl, rfl⟩)
  go_ret
  exact ⟨rfl, rfl⟩
theorem index_hex (c : UInt8) (w : World) :
    Calls Try.prog 31 #[.string ⟨#[48, 49, 50, 51, 52, 53, 54, 55, 56, 57, 97, 98, 99, 100, 101, 102]⟩, .int .u8 c.toNat] w fun e w' => e = .returned (.int .i64 (dg c)) ∧ w = w' :=
  (strings_IndexByte _ _ w).mono fun _ _ ⟨he, hw⟩ => ⟨by rw [he]; refine ret_int ?_; simp [dg, hexB], hw⟩

theorem hexB_at (k : Nat) (h : k < 16) : (⟨#[48, 49, 50, 51, 52, 53, 54, 55, 56, 57, 97, 98, 99, 100, 101, 102]⟩ : ByteArray)[k]'h = hexB[k]'h := rfl
theorem run_at (s : ByteArray) (i : Int) (k : Nat) (hi : i = k) (hk : k < s.size) (w : World) : Sem.run Try.prog (Instr.index 9 (.string s) (.int .i64 i)) w = .ok (.int .u8 s[k].toNat) w := by
  subst hi
  go_simp
theorem u8_ne {a b : UInt8} (h : ((a.toNat : Int) == (b.toNat : Int)) = false) : a ≠ b := by
  rintro rfl; simp at h

set_option maxHeartbeats 400000 in
theorem digit_any (c : UInt8) (w : World) :
    Calls Try.prog 32 #[.int .u8 c.toNat] w fun e w' => e = .returned (.int .i64 (dg c)) ∧ w = w' := by
  go_enter Try.func32, Try.ntmps32
  go_wp2
  go_loop [4] (fun i => ∃ k : Nat, k ≤ 16 ∧ i = .int .i64 k ∧ Hid (∀ j (h : j < k) (h16 : j < hexB.length), hexB[j] ≠ c)) (fun i => 16 - (intOf i).toNat)
  case atStart => exact ⟨0, by omega, rfl, by intro j h; omega⟩
  case round =>
    obtain ⟨k, hk, rfl, hall⟩ := hrel
    by_cases hlt : k < 16
    · by_cases hc : hexB[k]'hlt = c
      · have hb : (((⟨#[48, 49, 50, 51, 52, 53, 54, 55, 56, 57, 97, 98, 99, 100, 101, 102]⟩ : ByteArray)[k]'hlt).toNat == c.toNat) = true := by rw [hexB_at k hlt, hc]; simp
        have HC := Lib.hid hc
        clear hc
        go_wp2
        go_ret
        exact ⟨ret_int (ix_first hexB c k hlt HC.out (fun j h => hall.out j h (by show j < 16; omega))).symm, rfl⟩
      · have hb : (((⟨#[48, 49, 50, 51, 52, 53, 54, 55, 56, 57, 97, 98, 99, 100, 101, 102]⟩ : ByteArray)[k]'hlt).toNat == c.toNat) = false := by
          rw [hexB_at k hlt]; simp; intro h; exact hc (UInt8.toNat_inj.1 h)
        have HC := Lib.hid hc
        clear hc
        go_wp2
        go_round
        case rel =>
          refine ⟨k + 1, by omega, by go_num, fun j h h16 => ?_⟩
          by_cases hj : j = k
          · subst hj; exact HC.out
          · exact hall.out j (by omega) h16
        case measure => simp [intOf]; omega
    · go_wp2
      go_ret
      exact ⟨ret_int (ix_none hexB c (fun j h => hall.out j (by have : hexB.length = 16 := rfl; omega) h)).symm, rfl⟩
end Go.Proofs.Ytdgkchdobmhpnaa
