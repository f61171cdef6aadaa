/- The order of claims as Go has it. -/
import Derived.Test.YtnlnaglaipjlfaaGreatDoorPpl
import Derived.Test.YtnlnaglaipjlfaaGreatDoorOr2
import Derived.Test.YtnlnaglaipjlfaaGreatDoorGrw
import Derived.Test.YtnlnaglaipjlfaaGreatDoorShSmall
import Derived.Deep.RegionHeld3
namespace Go.Proofs.YtnlnaglaipjlfaaGreatDoor
open Go.RowKit Go.Dw

theorem compare_any (a b : ByteArray) (w : World) : Calls Tryz.prog 22 #[.string a, .string b] w fun e w' => e = .returned (.int .i64 (cmpS a b)) ∧ w = w' :=
  (Any.strings_Compare Tryz.lays106 a b w).mono fun _ _ h => ⟨h.1, h.2.symm⟩
def cmpC (x y : Clm) : Int := orI (cmpS x.a y.a) (cmpS x.b y.b)
theorem cmpC_lt {x y : Clm} : cmpC x y < 0 ↔ clLt x y = true := by
  unfold cmpC clLt orI
  simp only [Bool.or_eq_true, Bool.and_eq_true, decide_eq_true_eq]
  by_cases h : cmpS x.a y.a = 0
  · rw [if_pos h]
    have he := cmpS_eq.1 h
    rw [cmpS_lt]
    constructor
    · intro h2; exact .inr ⟨he, h2⟩
    · rintro (h2 | h2)
      · rw [he] at h2; exact absurd h2 (sLt_irr _)
      · exact h2.2
  · rw [if_neg h, cmpS_lt]
    constructor
    · intro h2; exact .inl h2
    · rintro (h2 | h2)
      · exact h2
      · exact absurd (cmpS_eq.2 h2.1) h
set_option maxRecDepth 100000 in
set_option maxHeartbeats 2000000 in
theorem cmpC_any (x y : Clm) (w : World) :
    Calls Tryz.prog 19 #[.agg #[.string x.a, .string x.b, .bool x.s], .agg #[.string y.a, .string y.b, .bool y.s]] w fun e w' => e = .returned (.int .i64 (cmpC x y)) ∧ Grw w w' := by
  obtain ⟨a1, b1, s1⟩ := x
  obtain ⟨a2, b2, s2⟩ := y
  simp only
  have HCP1 := Lib.hid (fun W => compare_any a1 a2 W)
  have HCP2 := Lib.hid (fun W => compare_any b1 b2 W)
  obtain ⟨c1, hc1⟩ : ∃ v, cmpS a1 a2 = v := ⟨_, rfl⟩
  obtain ⟨c2, hc2⟩ : ∃ v, cmpS b1 b2 = v := ⟨_, rfl⟩
  simp only [hc1] at HCP1
  simp only [hc2] at HCP2
  have HR : Hid (cmpC ⟨a1, b1, s1⟩ ⟨a2, b2, s2⟩ = orI c1 c2) := by show _ = _; unfold cmpC; rw [← hc1, ← hc2]
  rw [HR.out]
  clear hc1 hc2 HR
  have HO : Hid (∀ (W : World) (b : Nat), W.cell? ⟨b, 0, none⟩ = some (.int .i64 c1) → W.cell? ⟨b, 1, none⟩ = some (.int .i64 c2) →
      Calls Tryz.prog 40 #[.slice (some ⟨b, 0, none⟩) 2 2] W fun e w' => e = .returned (.int .i64 (orI c1 c2)) ∧ W = w') := fun W b h0 h1 => or2_any b 2 c1 c2 W h0 h1
  generalize orI c1 c2 = r at *
  obtain ⟨w0, hw0⟩ : ∃ w0, w0 = (w.alloc (.cells #[.string a1, .string b1, .bool s1] 49)).alloc (.cells #[.string a2, .string b2, .bool s2] 49) := ⟨_, rfl⟩
  have HG0 : Hid (Grw w w0) := by rw [hw0]; exact ((Grw.refl _).alloc _).alloc _
  have hz : w0.heap.size = w.heap.size + 2 := by rw [hw0]; simp
  have HS : Hid (∀ W, Gr w0 W → W.cell? ⟨w.heap.size, 0, none⟩ = some (.string a1) ∧ W.cell? ⟨w.heap.size, 1, none⟩ = some (.string b1) ∧ W.cell? ⟨w.heap.size + 1, 0, none⟩ = some (.string a2) ∧ W.cell? ⟨w.heap.size + 1, 1, none⟩ = some (.string b2) ∧ Gr w0 W) := fun W hW => by
    have hb := Grw.below hW
    have e1 : ∀ i : Nat, W.cell? ⟨w.heap.size, i, none⟩ = w0.cell? ⟨w.heap.size, i, none⟩ := fun i => hb.cell (by show w.heap.size < _; omega)
    have e2 : ∀ i : Nat, W.cell? ⟨w.heap.size + 1, i, none⟩ = w0.cell? ⟨w.heap.size + 1, i, none⟩ := fun i => hb.cell (by show w.heap.size + 1 < _; omega)
    rw [e1, e1, e2, e2, hw0]
    have f1 : ∀ i : Nat, ((w.alloc (.cells #[.string a1, .string b1, .bool s1] 49)).alloc (.cells #[.string a2, .string b2, .bool s2] 49)).cell? ⟨w.heap.size, i, none⟩ = (w.alloc (.cells #[.string a1, .string b1, .bool s1] 49)).cell? ⟨w.heap.size, i, none⟩ := fun i => World.cell?_alloc_past _ _ _ (by simp)
    rw [f1, f1]
    exact ⟨new_cell (cs := [_, _, _]) rfl rfl, new_cell (cs := [_, _, _]) rfl rfl, new_cell (cs := [_, _, _]) (by simp) rfl, new_cell (cs := [_, _, _]) (by simp) rfl, by rw [← hw0]; exact hW⟩
  have hBR : Gr w0 w0 := Grw.refl _
  have hBD : Gr w0 w0.drew := (Grw.refl _).drew
  have HW0 := Lib.hid hw0
  clear hw0 hz
  go_enter Tryz.func19, Tryz.ntmps19
  go_wp2_with fail
  rw [← HW0.out]
  go_region_held3 (fun W => W.cell? ⟨w.heap.size, 0, none⟩ = some (.string a1) ∧ W.cell? ⟨w.heap.size, 1, none⟩ = some (.string b1) ∧ W.cell? ⟨w.heap.size + 1, 0, none⟩ = some (.string a2) ∧ W.cell? ⟨w.heap.size + 1, 1, none⟩ = some (.string b2) ∧ Gr w0 W)
    (first | exact HS.out _ hBD | exact HS.out _ hBR | exact HS.out _ (Grw.alloc hBD _) | exact HS.out _ (Grw.alloc hBR _) | exact HS.out _ (Grw.drew (Grw.alloc hBR _)))
    (first | (go_at_call 22; with_reducible refine (HCP1.out _).mono ?_; rintro e w' ⟨rfl, rfl⟩) | (go_at_call 22; with_reducible refine (HCP2.out _).mono ?_; rintro e w' ⟨rfl, rfl⟩) | (go_at_call 40; refine (HO.out _ _ (by simp <;> exact new_cell (cs := [_, _]) (by simp) rfl) (by simp <;> exact new_cell (cs := [_, _]) (by simp) rfl)).mono ?_; rintro e w' ⟨rfl, rfl⟩))
  all_goals
    go_wp2_with fail
    go_ret
    exact ⟨rfl, Grw.trans HG0.out (by first | exact (Grw.alloc hBR _) | exact (Grw.alloc hBR _).drew | exact (Grw.alloc hBD _))⟩
end Go.Proofs.YtnlnaglaipjlfaaGreatDoor
