/- The contract of match.better. -/
import Derived.Test.YtgjmjdpddionmaaDoorCmp
import Derived.Test.YtgjmjdpddionmaaDoorTab
import Derived.Deep.RegionHeld3
import Derived.Deep.DrawnRows
namespace Go.Proofs.YtgjmjdpddionmaaDoor
open Go.RowKit Go.Dw
attribute [local go_sem ↓] Go.wp_at_zero Go.wp_at_succ

/-- a hit: its offset, its bits, what was compared -/
structure Ht where
  n : ByteArray
  o : Int
  b : Int
  c : Int
def Ht.cs (h : Ht) : List Value := [.string h.n, .int .i64 h.o, .int .i64 h.b, .int .i64 h.c]
def Ht.v (h : Ht) : Value := .agg #[.string h.n, .int .i64 h.o, .int .i64 h.b, .int .i64 h.c]
def bet (x y : Ht) : Int := orI (cmpI (x.b * y.c) (y.b * x.c)) (cmpI y.c x.c)
def Ht.small (h : Ht) : Prop := 0 ≤ h.b ∧ h.b ≤ 100000 ∧ 0 ≤ h.c ∧ h.c ≤ 100000
theorem mul_small {a b : Int} (ha : 0 ≤ a) (ha2 : a ≤ 100000) (hb : 0 ≤ b) (hb2 : b ≤ 100000) : 0 ≤ a * b ∧ a * b ≤ 10000000000 :=
  ⟨Int.mul_nonneg ha hb, Int.le_trans (Int.mul_le_mul ha2 hb2 hb (by omega)) (by omega)⟩
set_option maxHeartbeats 1000000 in
theorem better_any (x y : Ht) (w : World) (hx : x.small) (hy : y.small) :
    Calls Tryd.prog 19 #[x.v, y.v] w fun e w' => e = .returned (.int .i64 (bet x y)) ∧ Below w.heap.size w w' := by
  obtain ⟨n1, o1, b1, c1⟩ := x
  obtain ⟨n2, o2, b2, c2⟩ := y
  obtain ⟨hx1, hx2, hx3, hx4⟩ := hx
  obtain ⟨hy1, hy2, hy3, hy4⟩ := hy
  simp only [Ht.v] at *
  have hw1 : IntKind.i64.wrap (b1 * c2) = b1 * c2 := IntWalk.i64_in _ (by have := mul_small hx1 hx2 hy3 hy4; omega)
  have hw2 : IntKind.i64.wrap (b2 * c1) = b2 * c1 := IntWalk.i64_in _ (by have := mul_small hy1 hy2 hx3 hx4; omega)
  have HB : Hid (bet ⟨n1, o1, b1, c1⟩ ⟨n2, o2, b2, c2⟩ = orI (cmpI (b1 * c2) (b2 * c1)) (cmpI c2 c1)) := rfl
  clear hx1 hx2 hx3 hx4 hy1 hy2 hy3 hy4
  go_enter Tryd.func19, Tryd.ntmps19
  go_wp2
  go_region_held3 (fun W => W.cell? ⟨w.heap.size, 2, none⟩ = some (.int .i64 b1) ∧ W.cell? ⟨w.heap.size, 3, none⟩ = some (.int .i64 c1) ∧ W.cell? ⟨w.heap.size + 1, 2, none⟩ = some (.int .i64 b2) ∧ W.cell? ⟨w.heap.size + 1, 3, none⟩ = some (.int .i64 c2))
    (first | assumption | go_keep)
    (first | (go_at_call 35; refine (cmp_any _ _ _).mono ?_; rintro e w' ⟨rfl, rfl⟩) | (go_at_call 18; refine (or2_any _ _ (cmpI (b1 * c2) (b2 * c1)) (cmpI c2 c1) _ (by simp; exact new_cell (cs := [_, _]) (by simp) rfl) (by simp; exact new_cell (cs := [_, _]) (by simp) rfl)).mono ?_; rintro e w' ⟨rfl, rfl⟩))
  all_goals
    go_wp2
    go_ret
    refine ⟨?_, ?_⟩
    · rw [HB.out]; rfl
    · exact ((((Below.refl _ _).alloc (Nat.le_refl _) _).alloc (by simp) _).alloc (by simp; omega) _).drew
end Go.Proofs.YtgjmjdpddionmaaDoor
