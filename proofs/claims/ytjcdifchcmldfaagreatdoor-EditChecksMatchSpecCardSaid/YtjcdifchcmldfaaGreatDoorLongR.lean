/- The contract of the reference's Long. -/
import Derived.Test.YtjcdifchcmldfaaGreatDoorOfR
namespace Go.Proofs.YtjcdifchcmldfaaGreatDoor
open Go.RowKit Go.Dw

set_option maxRecDepth 100000 in
set_option maxHeartbeats 4000000 in
theorem longR_any (v : Value) (sg : Bool) (a b m : Nat) (w : World) (h : NumR w v sg a b) (k : Nat) (hk : Lim k a) (gk : Lim k b) (hk2 : k ≤ 1000000) (hp : HasPow w) (_hm : m ≤ 1000000) :
    Calls Tryz.prog 32 #[v, .int .i64 (m : Int)] w fun e w' => e = .returned (.bool (decide (m < (Lib.decDigits a).length) || decide (m < (Lib.decDigits b).length))) ∧ Below w.heap.size w w' := by
  obtain ⟨x, y, rfl, hx, hy⟩ := h
  obtain ⟨w1, hw1⟩ : ∃ w1, w1 = w.alloc (.cells #[.bool sg, x, y] 66) := ⟨_, rfl⟩
  have HB : Hid (Gq w w1) := by rw [hw1]; exact (Gq.refl _).alloc _
  have HK : Hid (Blk w1 w.heap.size 66 [.bool sg, x, y]) := by rw [hw1]; exact Blk.new w _ _
  have HDA : Hid (∀ W, Gq w W → Calls Tryz.prog 46 #[x] W fun e W' => e = .returned (.string ⟨(Lib.decDigits a).toArray⟩) ∧ Gq W W') := fun W hW => digitsR_any x a W (hx.below hW) k hk hk2 (hp.below hW)
  have HDB : Hid (∀ W, Gq w W → Calls Tryz.prog 46 #[y] W fun e W' => e = .returned (.string ⟨(Lib.decDigits b).toArray⟩) ∧ Gq W W') := fun W hW => digitsR_any y b W (hy.below hW) k gk hk2 (hp.below hW)
  obtain ⟨A, L, c, rfl⟩ := lim_form hx
  obtain ⟨B, M, d, rfl⟩ := lim_form hy
  have ha : (⟨(Lib.decDigits a).toArray⟩ : ByteArray).size = (Lib.decDigits a).length := str_size _
  have hb : (⟨(Lib.decDigits b).toArray⟩ : ByteArray).size = (Lib.decDigits b).length := str_size _
  generalize (⟨(Lib.decDigits a).toArray⟩ : ByteArray) = sa at *
  generalize (⟨(Lib.decDigits b).toArray⟩ : ByteArray) = sb at *
  rw [← ha, ← hb]
  have c1 : w1.cell? ⟨w.heap.size, 1, none⟩ = some (.slice A L c) := HK.out.cell 1
  have HW := Lib.hid hw1
  clear hw1 hx hy hk gk hp ha hb
  go_enter Tryz.func32, Tryz.ntmps32
  go_upto_region 1 with (fail)
  rw [← HW.out]
  go_wp2_with fail
  refine (HDA.out _ HB.out).mono ?_
  rintro e w2 ⟨rfl, hb2⟩
  have HB2 : Hid (Gq w w2) := HB.out.trans hb2
  have HK2 := Lib.hid (HK.out.same (Same.of_below (S := fun _ => True) hb2) trivial)
  clear hb2 c1
  by_cases h1 : m < sa.size
  · have h1b : decide (m < sa.size) = true := by simpa using h1
    have h1c : decide ((m : Int) < (sa.size : Int)) = true := decide_eq_true (by omega)
    go_wp2_with fail
    go_ret
    exact ⟨by simp [h1], HB2.out⟩
  have h1b : decide (m < sa.size) = false := by simpa using h1
  have h1c : decide ((m : Int) < (sa.size : Int)) = false := decide_eq_false (by omega)
  have c2 : w2.cell? ⟨w.heap.size, 2, none⟩ = some (.slice B M d) := HK2.out.cell 2
  go_wp2_with fail
  refine (HDB.out _ HB2.out).mono ?_
  rintro e w3 ⟨rfl, hb3⟩
  have HB3 : Hid (Gq w w3) := HB2.out.trans hb3
  clear hb3
  go_wp2_with fail
  go_ret
  exact ⟨by simp [h1], HB3.out⟩
end Go.Proofs.YtjcdifchcmldfaaGreatDoor
