/- The contract of strconv.FormatUint at base 10. -/
import Derived.Test.YtlmgdofhmgpljaaDoorPow
import Derived.Test.YtlmgdofhmgpljaaDoorShFmt
import Derived.Lib.ItoaMem
import Derived.Lib.Walk
import Derived.BigCall
import Derived.BigGuard
import Derived.WalkKit
namespace Go.Proofs.YtlmgdofhmgpljaaDoor
open Go.RowKit Go.Dw Go.Sort

theorem below_put0 (w : World) (o : Obj) (dk : Array UInt8) (k : Nat) : Below w.heap.size w ((putRow (fun (b : UInt8) => Value.int .u8 (b.toNat : Int)) (w.alloc o) w.heap.size 0 dk).drewN k) := by
  obtain ⟨os, _, e⟩ := putRow_grow_new (fun (b : UInt8) => Value.int .u8 (b.toNat : Int)) w #[o] w.heap.size 0 dk (Nat.le_refl _)
  rw [alloc_eq_grow, e]
  exact Lib.below_grow w.heap.size w (Nat.le_refl _) k os
set_option maxRecDepth 100000 in
set_option maxHeartbeats 6400000 in
theorem fmtU0_any (u : Nat) (w : World) (hu64 : u < 18446744073709551616) (hp : HasPow w) :
    Calls Tryd.prog 43 #[.int .u64 (u : Int), .int .i64 10] w fun e w' => e = .returned (.string ⟨(Lib.decDigits u).toArray⟩) ∧ Below w.heap.size w w' := by
  have HP := Lib.hid hp
  clear hp
  by_cases hs : u < 100
  · have HSM := Lib.hid (Any.internal_strconv_small Tryd.lays283 u hs w)
    have hw1 : IntKind.i64.wrap (u : Int) = (u : Int) := IntWalk.i64_in _ (by omega)
    have hd1 : decide ((u : Int) < 100) = true := decide_eq_true (by omega)
    go_enter Tryd.func43, Tryd.ntmps43
    go_wp2_with fail
    refine HSM.out.mono ?_
    rintro e w' ⟨rfl, hww⟩
    subst hww
    go_wp2_with fail
    go_ret
    exact ⟨rfl, Below.refl _ _⟩
  · have hu1 : 1 ≤ u := by omega
    have hnd20 : Lib.nDigits u ≤ 20 := by have := Lib.numDigits_eq u hu1 hu64; split at this <;> omega
    have hd1 : decide ((u : Int) < 100) = false := decide_eq_false (by omega)
    obtain ⟨nd, hnd⟩ : ∃ nd, nd = Lib.nDigits u := ⟨_, rfl⟩
    rw [← hnd] at hnd20
    obtain ⟨w1, hw1⟩ : ∃ w1, w1 = w.alloc (.cells Lib.zeros24 81) := ⟨_, rfl⟩
    have HND : Hid (Calls Tryd.prog 52 #[.int .u64 (u : Int)] w1 fun e w' => e = .returned (.int .i64 (nd : Int)) ∧ w' = w1) := by
      rw [hnd, hw1]
      exact Any.internal_strconv_numDigits Tryd.laysM284 u hu1 hu64 _ (Lib.tabIs_alloc HP.out _)
    have hH0 : Holds (fun (b : UInt8) => Value.int .u8 (b.toNat : Int)) w1 w.heap.size 0 (Array.replicate nd (0 : UInt8)) := by rw [hw1]; exact Lib.holds_zero0 w 81 nd (by omega)
    have hfmt := Any.internal_strconv_formatBase10 Tryd.lays285 w.heap.size 0 24 u (Array.replicate nd 0) w1 hH0 (by rw [Array.size_replicate, hnd]; exact Lib.lt_pow_nDigits u) hu64 (by rw [Array.size_replicate]; omega)
    rw [Array.size_replicate] at hfmt
    have HFM : Hid (Calls Tryd.prog 53 #[.slice (some ⟨w.heap.size, 0, none⟩) nd 24, .int .u64 (u : Int)] w1 fun e w' => e = .returned (.tuple #[]) ∧ ∃ (n v' : Nat) (dk : Array UInt8), w' = (putRow (fun (b : UInt8) => Value.int .u8 (b.toNat : Int)) w1 w.heap.size 0 dk).drewN n ∧ Lib.FmtInv nd u 0 v' dk) := hfmt
    have HH0 := Lib.hid hH0
    have hal : Tryd.prog.arrayLen 81 = 24 := by kernel_rfl
    have hsl : ∀ W, (Instr.sliceAt 81 (.pointer (some ⟨w.heap.size, 0, none⟩)) none (some (.int .i64 (nd : Int))) none).run Tryd.prog W = .ok (.slice (some ⟨w.heap.size, 0, none⟩) nd 24) W := fun W => by
      rw [run_sliceAt_array_h W 81 ⟨w.heap.size, 0, none⟩ (by kernel_rfl) .i64 (nd : Int) (by omega) (by rw [hal]; omega)]
      rw [show Tryd.prog.elem 81 = 5 by kernel_rfl, hal]
      go_simp
    have HND2 := Lib.hid hnd
    have HW1 := Lib.hid hw1
    clear hal hH0 hfmt hnd hw1
    go_enter Tryd.func43, Tryd.ntmps43
    go_wp2_with fail
    rw [show w.alloc (.cells #[.int .u8 0, .int .u8 0, .int .u8 0, .int .u8 0, .int .u8 0, .int .u8 0, .int .u8 0, .int .u8 0, .int .u8 0, .int .u8 0, .int .u8 0, .int .u8 0, .int .u8 0, .int .u8 0, .int .u8 0, .int .u8 0, .int .u8 0, .int .u8 0, .int .u8 0, .int .u8 0, .int .u8 0, .int .u8 0, .int .u8 0, .int .u8 0] 81) = w1 from HW1.out.symm]
    refine HND.out.mono ?_
    rintro e w' ⟨rfl, hww⟩
    subst hww
    go_wp2_with fail
    refine HFM.out.mono ?_
    rintro e w' ⟨rfl, k, v', dk, rfl, hF⟩
    have hcv : (convert 55 9 (.slice (some ⟨w.heap.size, 0, none⟩) nd 24)).run Tryd.prog ((putRow (fun (b : UInt8) => Value.int .u8 (b.toNat : Int)) w' w.heap.size 0 dk).drewN k) = .ok (.string ⟨(Lib.decDigits u).toArray⟩) ((putRow (fun (b : UInt8) => Value.int .u8 (b.toNat : Int)) w' w.heap.size 0 dk).drewN k) := by
      rw [HND2.out] at hF
      have h := run_convert_bytes_back (P := Tryd.prog) ((putRow (fun (b : UInt8) => Value.int .u8 (b.toNat : Int)) w' w.heap.size 0 dk).drewN k) 55 9 5 ⟨w.heap.size, 0, none⟩ 24 (Lib.decDigits u) Tryd.underlying55 Tryd.underlying5 Tryd.underlying9 (fun j hj => by
        rw [Lib.row_is_numeral hF j hj, Lib.add_plain, World.cell?_drewN]
        exact cell?_putRow (fun (b : UInt8) => Value.int .u8 (b.toNat : Int)) _ w.heap.size 0 _ dk HH0.out (by rw [hF.size, Array.size_replicate, HND2.out]) j (by rw [hF.size]; rw [Lib.decDigits_length] at hj; exact hj))
      rw [Lib.decDigits_length, ← HND2.out] at h
      exact h
    have HB : Hid (Below w.heap.size w ((putRow (fun (b : UInt8) => Value.int .u8 (b.toNat : Int)) w' w.heap.size 0 dk).drewN k)) := by rw [HW1.out]; exact below_put0 w _ dk k
    clear hF
    go_wp2_with fail
    go_ret
    exact ⟨rfl, HB.out⟩
theorem fmtU_any (u : Nat) (w : World) (hu64 : u < 18446744073709551616) (hp : HasPow w) :
    Calls Tryd.prog 33 #[.int .u64 (u : Int), .int .i64 10] w fun e w' => e = .returned (.string ⟨(Lib.decDigits u).toArray⟩) ∧ Below w.heap.size w w' := by
  have H := Lib.hid (fmtU0_any u w hu64 hp)
  clear hp
  go_enter Tryd.func33, Tryd.ntmps33
  go_wp2_with fail
  refine H.out.mono ?_
  rintro e w' ⟨rfl, hb⟩
  have HB := Lib.hid hb
  clear hb
  go_wp2_with fail
  go_ret
  exact ⟨rfl, HB.out⟩
end Go.Proofs.YtlmgdofhmgpljaaDoor
