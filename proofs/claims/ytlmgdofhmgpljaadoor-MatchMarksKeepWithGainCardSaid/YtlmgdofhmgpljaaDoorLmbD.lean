/- The contract of the reference's small. -/
import Derived.Test.YtlmgdofhmgpljaaDoorLmbC
namespace Go.Proofs.YtlmgdofhmgpljaaDoor
open Go.RowKit Go.Dw

set_option maxRecDepth 100000 in
set_option maxHeartbeats 2000000 in
theorem smallR_any (va : Value) (a n : Nat) (w : World) (h : LimV w va a) (k : Nat) (hk : Lim k a) (hk2 : k ≤ 999999999) (hn : n < 10000) :
    Calls Tryd.prog 45 #[va, .int .i64 (n : Int)] w (TimR a n w) := by
  obtain ⟨w1, hw1⟩ : ∃ w1, w1 = w.alloc (.cells #[.int .i64 (n : Int)] 3) := ⟨_, rfl⟩
  have HB : Hid (Below w.heap.size w w1) := by rw [hw1]; exact (Below.refl _ _).alloc (Nat.le_refl _) _
  have HRD : Hid (Rd w1 (some ⟨w.heap.size, 0, none⟩) (nc [n])) := by rw [hw1]; exact Blk.rd (Blk.new w 3 (nc [n]))
  have HTR := Lib.hid (trimR_any (some ⟨w.heap.size, 0, none⟩) 1 [n] w1 HRD.out (by simp) (by simp) (by omega) (fun h => by cases h))
  have HLV : Hid (LimV w1 (.slice (some ⟨w.heap.size, 0, none⟩) (trimL [n]).length 1) n) := by
    have := lim_of_trim (c := 1) HRD.out (by intro d hd; simp at hd; subst hd; exact hn : Ds L4 [n])
    rw [show val L4 [n] = n by simp [val]] at this
    exact this
  have hn1 : Lim 1 n := by
    unfold Lim
    have : W32 ^ 1 = 4294967296 := by rw [Nat.pow_one]; rfl
    omega
  have HTM := Lib.hid (timesR_any va _ a n w1 (h.below HB.out) HLV.out k 1 hk hn1 (by omega))
  obtain ⟨A, c, l, rfl, _⟩ := h
  generalize (trimL [n]).length = tl at *
  have HW := Lib.hid hw1
  clear hw1 HRD HLV hn1 hk
  simp only [List.length_cons, List.length_nil, Nat.zero_add] at HTR
  go_enter Tryd.func45, Tryd.ntmps45
  go_wp2_with fail
  rw [← HW.out]
  refine HTR.out.mono ?_
  rintro e w' ⟨rfl, rfl⟩
  go_wp2_with fail
  refine HTM.out.mono ?_
  rintro e w' ⟨v, rfl, hv, hf, hb⟩
  have HV := Lib.hid hv
  have HF := Lib.hid (hf.mono HB.out.size)
  have HB2 := Lib.hid (HB.out.trans (hb.mono HB.out.size))
  clear hv hf hb
  go_wp2_with fail
  go_ret
  exact ⟨v, rfl, HV.out, HF.out, HB2.out⟩
end Go.Proofs.YtlmgdofhmgpljaaDoor
