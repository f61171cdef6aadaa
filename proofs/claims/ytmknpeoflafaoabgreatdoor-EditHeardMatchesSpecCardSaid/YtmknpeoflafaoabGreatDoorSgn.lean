/- The contracts of the signs of numbers (program), and of the reference's IsZero. -/
import Derived.Test.YtmknpeoflafaoabGreatDoorRatY
import Derived.Test.YtmknpeoflafaoabGreatDoorNumY
namespace Go.Proofs.YtmknpeoflafaoabGreatDoor
open Go.RowKit Go.Dw
attribute [local go_sem ↓] Go.wp_at_zero Go.wp_at_succ

/-- the sign of a whole number, as a whole number -/
def sgnZ (z : Int) : Int := if z < 0 then -1 else if z = 0 then 0 else 1
set_option maxRecDepth 100000 in
theorem signI_any (v : Value) (z : Int) (w : World) (h : IntV w v z) :
    Calls Tryz.prog 37 #[v] w fun e w' => e = .returned (.int .i64 (sgnZ z)) ∧ Below w.heap.size w w' := by
  obtain ⟨u, rfl, A, c, l, rfl, _, hl, hv⟩ := h
  have hb0 : Below w.heap.size w (w.alloc (.cells #[.bool (decide (z < 0)), .slice A l.length c] 45)) := (Below.refl _ _).alloc (Nat.le_refl _) _
  have HB0 := Lib.hid hb0
  have hz := hl.zero_iff (by decide : 0 < W32)
  rw [hv] at hz
  by_cases h0 : z < 0
  · have e : sgnZ z = -1 := by unfold sgnZ; rw [if_pos h0]
    rw [decide_eq_true h0] at *
    rw [e]
    clear e h0 hz hv hl hb0
    go_enter Tryz.func37, Tryz.ntmps37
    go_wp2_with fail
    go_ret
    exact ⟨rfl, HB0.out⟩
  · rw [decide_eq_false h0] at *
    by_cases h1 : z = 0
    · have e : sgnZ z = 0 := by unfold sgnZ; rw [if_neg h0, if_pos h1]
      have hl0 : l = [] := hz.1 (by omega)
      subst hl0
      rw [e]
      clear e h0 h1 hz hv hl hb0
      go_enter Tryz.func37, Tryz.ntmps37
      go_wp2_with fail
      go_ret
      exact ⟨rfl, HB0.out⟩
    · have e : sgnZ z = 1 := by unfold sgnZ; rw [if_neg h0, if_neg h1]
      have hl0 : ((l.length : Int) == 0) = false := by
        have : l ≠ [] := fun q => h1 (by have := hz.2 q; omega)
        have := List.length_pos_iff.2 this
        simp; omega
      rw [e]
      clear e h0 h1 hz hv hl hb0
      go_enter Tryz.func37, Tryz.ntmps37
      go_wp2_with fail
      go_ret
      exact ⟨rfl, HB0.out⟩
set_option maxRecDepth 100000 in
theorem signQ_any (v : Value) (q : Rat) (w : World) (h : RatV w v q) :
    Calls Tryz.prog 12 #[v] w fun e w' => e = .returned (.int .i64 (sgnZ q.num)) ∧ Below w.heap.size w w' := by
  obtain ⟨u, b, rfl, hu, hb, _⟩ := h
  obtain ⟨A, c, l, rfl, hu2⟩ := hu
  have hu : NatV w (.slice A l.length c) q.num.natAbs := ⟨A, c, l, rfl, hu2⟩
  generalize l.length = L at *
  obtain ⟨B, d, k, rfl, _⟩ := hb
  generalize k.length = M at *
  obtain ⟨w1, hw1⟩ : ∃ w1, w1 = w.alloc (.cells #[.bool (decide (q.num < 0)), .slice A L c, .slice B M d] 47) := ⟨_, rfl⟩
  have hb1 : Below w.heap.size w w1 := by rw [hw1]; exact (Below.refl _ _).alloc (Nat.le_refl _) _
  have HB1 := Lib.hid hb1
  have HKA : Hid (Blk w1 w.heap.size 47 [.bool (decide (q.num < 0)), .slice A L c, .slice B M d]) := by rw [hw1]; exact Blk.new w _ _
  have HSG := Lib.hid (signI_any _ q.num w1 ⟨_, rfl, hu.below hb1⟩)
  have c0 : w1.cell? ⟨w.heap.size, 0, none⟩ = _ := HKA.out.cell 0
  have c1 : w1.cell? ⟨w.heap.size, 1, none⟩ = _ := HKA.out.cell 1
  simp only [List.getElem?_cons_zero, List.getElem?_cons_succ] at c0 c1
  have HW1 := Lib.hid hw1
  generalize decide (q.num < 0) = sb at *
  clear hw1 hb1 hu hu2
  go_enter Tryz.func12, Tryz.ntmps12
  go_upto_region 1 with (fail)
  rw [← HW1.out]
  go_wp2_with fail
  refine HSG.out.mono ?_
  rintro e w2 ⟨rfl, hb2⟩
  have HB2 := Lib.hid (HB1.out.trans (Below.mono hb2 HB1.out.size))
  clear hb2
  go_wp2_with fail
  go_ret
  exact ⟨rfl, HB2.out⟩
set_option maxRecDepth 100000 in
theorem isZeroR_any (v : Value) (q : Rat) (w : World) (h : NumQ w v q) :
    Calls Tryz.prog 49 #[v] w fun e w' => e = .returned (.bool (decide (q.num = 0))) ∧ Below w.heap.size w w' := by
  obtain ⟨x, y, rfl, ⟨A, c, l, rfl, _, hl, hv⟩, hy⟩ := h
  obtain ⟨B, M, d, rfl⟩ := lim_form hy
  have hz := hl.zero_iff (by decide : 0 < L4)
  rw [hv] at hz
  have e : ((l.length : Int) == 0) = decide (q.num = 0) := by
    by_cases h0 : q.num = 0
    · have : l = [] := hz.1 (by omega)
      rw [decide_eq_true h0, this]; rfl
    · have h1 : l ≠ [] := fun k => h0 (by have := hz.2 k; omega)
      have := List.length_pos_iff.2 h1
      rw [decide_eq_false h0]; simp; omega
  have hb0 : Below w.heap.size w (w.alloc (.cells #[.bool (decide (q.num < 0)), .slice A l.length c, .slice B M d] 62)) := (Below.refl _ _).alloc (Nat.le_refl _) _
  have HB0 := Lib.hid hb0
  generalize decide (q.num < 0) = sb at *
  generalize decide (q.num = 0) = zb at *
  generalize l.length = n at *
  clear hz hv hl hy hb0
  go_enter Tryz.func49, Tryz.ntmps49
  go_wp2_with fail
  go_ret
  exact ⟨rfl, HB0.out⟩
end Go.Proofs.YtmknpeoflafaoabGreatDoor
