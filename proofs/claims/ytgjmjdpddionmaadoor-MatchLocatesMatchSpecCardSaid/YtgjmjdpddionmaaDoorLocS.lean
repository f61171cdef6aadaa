/- The order of hits as Go has it, and their sort. -/
import Derived.Test.YtgjmjdpddionmaaDoorLocP
import Derived.Test.YtgjmjdpddionmaaDoorSortK
import Derived.Test.YtgjmjdpddionmaaDoorShSort
import Derived.Test.YtgjmjdpddionmaaDoorShelf
import Derived.Shelf.SlSortCmp.NoneTotal
import Derived.Deep.RegionHeld3
import Derived.Deep.DrawnRows
namespace Go.Proofs.YtgjmjdpddionmaaDoor
open Go.RowKit Go.Dw Go.Sort
attribute [local go_sem ↓] Go.wp_at_zero Go.wp_at_succ

theorem Grw.trans {a b c : World} (h : Grw a b) (k : Grw b c) : Grw a c := by
  obtain ⟨q, os, rfl⟩ := h
  obtain ⟨q2, os2, rfl⟩ := k
  exact ⟨q + q2, os ++ os2, by simp [World.drewN, grow, Nat.add_assoc]⟩
theorem Grw.below {a b : World} (h : Grw a b) : Below a.heap.size a b := by
  obtain ⟨q, os, rfl⟩ := h
  refine ⟨rfl, rfl, rfl, by simp [grow, World.drewN], fun j hj => ?_⟩
  rw [heap_grow_old _ _ (by simpa [World.drewN] using hj)]; rfl
def Gr (a b : World) : Prop := Grw a b
set_option maxHeartbeats 1000000 in
theorem betterG_any (x y : Ht) (w : World) (hx : x.small) (hy : y.small) :
    Calls Tryd.prog 19 #[x.v, y.v] w fun e w' => e = .returned (.int .i64 (bet x y)) ∧ Grw w w' := by
  obtain ⟨n1, o1, b1, c1⟩ := x
  obtain ⟨n2, o2, b2, c2⟩ := y
  obtain ⟨hx1, hx2, hx3, hx4⟩ := hx
  obtain ⟨hy1, hy2, hy3, hy4⟩ := hy
  simp only [Ht.v] at *
  have hw1 : IntKind.i64.wrap (b1 * c2) = b1 * c2 := IntWalk.i64_in _ (by have := mul_small hx1 hx2 hy3 hy4; omega)
  have hw2 : IntKind.i64.wrap (b2 * c1) = b2 * c1 := IntWalk.i64_in _ (by have := mul_small hy1 hy2 hx3 hx4; omega)
  have HB : Hid (bet ⟨n1, o1, b1, c1⟩ ⟨n2, o2, b2, c2⟩ = orI (cmpI (b1 * c2) (b2 * c1)) (cmpI c2 c1)) := rfl
  clear hx1 hx2 hx3 hx4 hy1 hy2 hy3 hy4
  go_enter Tryd.func19, Tryd.ntmps19
  go_wp2
  go_region_held3 (fun W => W.cell? ⟨w.heap.size, 2, none⟩ = some (.int .i64 b1) ∧ W.cell? ⟨w.heap.size, 3, none⟩ = some (.int .i64 c1) ∧ W.cell? ⟨w.heap.size + 1, 2, none⟩ = some (.int .i64 b2) ∧ W.cell? ⟨w.heap.size + 1, 3, none⟩ = some (.int .i64 c2))
    (first | assumption | go_keep)
    (first | (go_at_call 35; refine (cmp_any _ _ _).mono ?_; rintro e w' ⟨rfl, rfl⟩) | (go_at_call 18; refine (or2_any _ _ (cmpI (b1 * c2) (b2 * c1)) (cmpI c2 c1) _ (by simp; exact new_cell (cs := [_, _]) (by simp) rfl) (by simp; exact new_cell (cs := [_, _]) (by simp) rfl)).mono ?_; rintro e w' ⟨rfl, rfl⟩))
  all_goals
    go_wp2
    go_ret
    refine ⟨?_, ?_⟩
    · rw [HB.out]; rfl
    · exact ((((Grw.refl _).alloc _).alloc _).alloc _).drew
theorem compare_any (a b : ByteArray) (w : World) : Calls Tryd.prog 20 #[.string a, .string b] w fun e w' => e = .returned (.int .i64 (cmpS a b)) ∧ w = w' :=
  (Any.strings_Compare Tryd.lays106 a b w).mono fun _ _ h => ⟨h.1, h.2.symm⟩
set_option maxHeartbeats 2000000 in
theorem cmpH_any (x y : Ht) (w : World) (hx : x.small) (hy : y.small) :
    Calls Tryd.prog 17 #[x.v, y.v] w fun e w' => e = .returned (.int .i64 (orI (bet x y) (cmpS x.n y.n))) ∧ Grw w w' := by
  have HBT := Lib.hid (fun W => betterG_any x y W hx hy)
  have HCP := Lib.hid (fun W => compare_any x.n y.n W)
  obtain ⟨bt, hbt⟩ : ∃ v, bet x y = v := ⟨_, rfl⟩
  obtain ⟨cp, hcp⟩ : ∃ v, cmpS x.n y.n = v := ⟨_, rfl⟩
  rw [hbt, hcp]
  simp only [hbt] at HBT
  simp only [hcp] at HCP
  clear hbt hcp hx hy
  obtain ⟨n1, o1, b1, c1⟩ := x
  obtain ⟨n2, o2, b2, c2⟩ := y
  simp only [Ht.v] at *
  obtain ⟨r, hr⟩ : ∃ r, orI bt cp = r := ⟨_, rfl⟩
  have HO : Hid (∀ (W : World) (b : Nat), W.cell? ⟨b, 0, none⟩ = some (.int .i64 bt) → W.cell? ⟨b, 1, none⟩ = some (.int .i64 cp) →
      Calls Tryd.prog 18 #[.slice (some ⟨b, 0, none⟩) 2 2] W fun e w' => e = .returned (.int .i64 r) ∧ W = w') := fun W b h0 h1 => by
    rw [← hr]; exact or2_any b 2 bt cp W h0 h1
  rw [hr]
  clear hr
  obtain ⟨w0, hw0⟩ : ∃ w0, w0 = (w.alloc (.cells #[.string n1, .int .i64 o1, .int .i64 b1, .int .i64 c1] 31)).alloc (.cells #[.string n2, .int .i64 o2, .int .i64 b2, .int .i64 c2] 31) := ⟨_, rfl⟩
  have HG0 : Hid (Grw w w0) := by rw [hw0]; exact ((Grw.refl _).alloc _).alloc _
  have hz : w0.heap.size = w.heap.size + 2 := by rw [hw0]; simp
  have HS : Hid (∀ W, Gr w0 W → W.cell? ⟨w.heap.size, 0, none⟩ = some (.string n1) ∧ W.cell? ⟨w.heap.size, 1, none⟩ = some (.int .i64 o1) ∧ W.cell? ⟨w.heap.size, 2, none⟩ = some (.int .i64 b1) ∧ W.cell? ⟨w.heap.size, 3, none⟩ = some (.int .i64 c1)
      ∧ W.cell? ⟨w.heap.size + 1, 0, none⟩ = some (.string n2) ∧ W.cell? ⟨w.heap.size + 1, 1, none⟩ = some (.int .i64 o2) ∧ W.cell? ⟨w.heap.size + 1, 2, none⟩ = some (.int .i64 b2) ∧ W.cell? ⟨w.heap.size + 1, 3, none⟩ = some (.int .i64 c2) ∧ Gr w0 W) := fun W hW => by
    have hb := Grw.below hW
    have e1 : ∀ i : Nat, W.cell? ⟨w.heap.size, i, none⟩ = w0.cell? ⟨w.heap.size, i, none⟩ := fun i => hb.cell (by show w.heap.size < _; omega)
    have e2 : ∀ i : Nat, W.cell? ⟨w.heap.size + 1, i, none⟩ = w0.cell? ⟨w.heap.size + 1, i, none⟩ := fun i => hb.cell (by show w.heap.size + 1 < _; omega)
    rw [e1, e1, e1, e1, e2, e2, e2, e2, hw0]
    have f1 : ∀ i : Nat, ((w.alloc (.cells #[.string n1, .int .i64 o1, .int .i64 b1, .int .i64 c1] 31)).alloc (.cells #[.string n2, .int .i64 o2, .int .i64 b2, .int .i64 c2] 31)).cell? ⟨w.heap.size, i, none⟩ = (w.alloc (.cells #[.string n1, .int .i64 o1, .int .i64 b1, .int .i64 c1] 31)).cell? ⟨w.heap.size, i, none⟩ := fun i => World.cell?_alloc_past _ _ _ (by simp)
    rw [f1, f1, f1, f1]
    exact ⟨new_cell (cs := [_, _, _, _]) rfl rfl, new_cell (cs := [_, _, _, _]) rfl rfl, new_cell (cs := [_, _, _, _]) rfl rfl, new_cell (cs := [_, _, _, _]) rfl rfl,
      new_cell (cs := [_, _, _, _]) (by simp) rfl, new_cell (cs := [_, _, _, _]) (by simp) rfl, new_cell (cs := [_, _, _, _]) (by simp) rfl, new_cell (cs := [_, _, _, _]) (by simp) rfl, by rw [← hw0]; exact hW⟩
  have HBT2 : Hid (∀ W, Gr w0 W → Calls Tryd.prog 19 #[.agg #[.string n1, .int .i64 o1, .int .i64 b1, .int .i64 c1], .agg #[.string n2, .int .i64 o2, .int .i64 b2, .int .i64 c2]] W fun e W' => e = .returned (.int .i64 bt) ∧ Gr w0 W') :=
    fun W hW => (HBT.out W).mono fun e W' ⟨he, hb⟩ => ⟨he, Grw.trans hW hb⟩
  have hBD : Gr w0 w0.drew := (Grw.refl _).drew
  have HW0 := Lib.hid hw0
  clear hw0 hz HBT
  go_enter Tryd.func17, Tryd.ntmps17
  go_wp2_with fail
  rw [← HW0.out]
  go_region_held3 (fun W => W.cell? ⟨w.heap.size, 0, none⟩ = some (.string n1) ∧ W.cell? ⟨w.heap.size, 1, none⟩ = some (.int .i64 o1) ∧ W.cell? ⟨w.heap.size, 2, none⟩ = some (.int .i64 b1) ∧ W.cell? ⟨w.heap.size, 3, none⟩ = some (.int .i64 c1)
      ∧ W.cell? ⟨w.heap.size + 1, 0, none⟩ = some (.string n2) ∧ W.cell? ⟨w.heap.size + 1, 1, none⟩ = some (.int .i64 o2) ∧ W.cell? ⟨w.heap.size + 1, 2, none⟩ = some (.int .i64 b2) ∧ W.cell? ⟨w.heap.size + 1, 3, none⟩ = some (.int .i64 c2) ∧ Gr w0 W)
    (first | exact HS.out _ hBD | exact HS.out _ hqB | exact HS.out _ (Grw.alloc hqB _))
    (first | (go_at_call 19; refine (HBT2.out _ (by first | assumption | (go_split_ands; assumption))).mono ?_; rintro e wA ⟨rfl, hqB⟩) | (go_at_call 20; refine (HCP.out _).mono ?_; rintro e w' ⟨rfl, rfl⟩) | (go_at_call 18; refine (HO.out _ _ (by simp <;> exact new_cell (cs := [_, _]) (by simp) rfl) (by simp <;> exact new_cell (cs := [_, _]) (by simp) rfl)).mono ?_; rintro e w' ⟨rfl, rfl⟩))
  all_goals
    go_wp2_with fail
    go_ret
    exact ⟨rfl, Grw.trans HG0.out (Grw.alloc hqB _)⟩
end Go.Proofs.YtgjmjdpddionmaaDoor
