/- The order of grains as Go has it, and their sort. -/
import Derived.Test.YtmknpeoflafaoabGreatDoorCmpZ
import Derived.Test.YtmknpeoflafaoabGreatDoorSrtZ
import Derived.Test.YtmknpeoflafaoabGreatDoorHeaZ
import Derived.Test.YtmknpeoflafaoabGreatDoorHrdP
import Derived.Test.YtmknpeoflafaoabGreatDoorShSort
import Derived.Shelf.SlSortCmp.NoneTotal
import Derived.Deep.RegionHeld3
import Derived.Deep.DrawnRows
namespace Go.Proofs.YtmknpeoflafaoabGreatDoor
open Go.RowKit Go.Dw Go.Sort
attribute [local go_sem ↓] Go.wp_at_zero Go.wp_at_succ

def Grn.v (g : Grn) : Value := .agg #[.string g.n, .int .i64 g.o, .int .i64 g.b, .string g.p, .string g.q]
instance : Inhabited Grn := ⟨⟨⟨#[]⟩, 0, 0, ⟨#[]⟩, ⟨#[]⟩⟩⟩
def Grn.k (g : Grn) : Gk := ⟨g.n, g.o, g.b⟩
def cfG (x y : Grn) : Int := orZ [cmpS x.n y.n, cmpZ x.o y.o, cmpZ x.b y.b]
theorem cmpZ_sgn (x y : Int) : (cmpZ x y < 0 ↔ x < y) ∧ (cmpZ x y = 0 ↔ x = y) := by
  unfold cmpZ
  split
  · exact ⟨⟨fun _ => by assumption, fun _ => by omega⟩, ⟨fun h => by omega, fun h => by omega⟩⟩
  · split
    · exact ⟨⟨fun h => by omega, fun h => by omega⟩, ⟨fun h => by omega, fun h => by omega⟩⟩
    · exact ⟨⟨fun h => by omega, fun h => by omega⟩, ⟨fun _ => by omega, fun _ => rfl⟩⟩
theorem cfG_lt (x y : Grn) : cfG x y < 0 ↔ gLt x.k y.k := by
  unfold cfG gLt Grn.k
  simp only [orZ]
  by_cases h1 : cmpS x.n y.n = 0
  · rw [if_pos h1]
    have e1 := cmpS_eq.1 h1
    have n1 : ¬ sLt x.n y.n := fun h => by rw [e1] at h; exact sLt_irr _ h
    by_cases h2 : cmpZ x.o y.o = 0
    · rw [if_pos h2]
      have e2 := (cmpZ_sgn x.o y.o).2.1 h2
      by_cases h3 : cmpZ x.b y.b = 0
      · rw [if_pos h3]
        have e3 := (cmpZ_sgn x.b y.b).2.1 h3
        exact ⟨fun h => by omega, fun h => by rcases h with h | ⟨_, h | ⟨_, h⟩⟩; exact absurd h n1; omega; omega⟩
      · rw [if_neg h3, (cmpZ_sgn x.b y.b).1]
        exact ⟨fun h => .inr ⟨e1, .inr ⟨e2, h⟩⟩, fun h => by rcases h with h | ⟨_, h | ⟨_, h⟩⟩; exact absurd h n1; omega; exact h⟩
    · rw [if_neg h2, (cmpZ_sgn x.o y.o).1]
      have e2 : x.o ≠ y.o := fun h => h2 ((cmpZ_sgn x.o y.o).2.2 h)
      exact ⟨fun h => .inr ⟨e1, .inl h⟩, fun h => by rcases h with h | ⟨_, h | ⟨h, _⟩⟩; exact absurd h n1; exact h; exact absurd h e2⟩
  · rw [if_neg h1, cmpS_lt]
    have e1 : x.n ≠ y.n := fun h => h1 (cmpS_eq.2 h)
    exact ⟨fun h => .inl h, fun h => by rcases h with h | ⟨h, _⟩; exact h; exact absurd h e1⟩
theorem ltOf_cfG (x y : Grn) : ltOf cfG x y = true ↔ gLt x.k y.k := by
  unfold ltOf; rw [decide_eq_true_eq]; exact cfG_lt x y
theorem ltOf_cfG' (x y : Grn) : ltOf cfG x y = false ↔ ¬ gLt x.k y.k := by
  rw [← ltOf_cfG]; simp
theorem swoG : SWO (ltOf cfG) where
  irrefl x := (ltOf_cfG' x x).2 (gLt_irr _)
  trans x y z h1 h2 := by rw [ltOf_cfG] at *; exact gLt_trans h1 h2
  ntrans x y z h1 h2 := by
    rw [ltOf_cfG'] at *
    intro h3
    rcases gLt_tri x.k y.k with h | h | h
    · exact h1 h
    · rw [h] at h3; exact h2 h3
    · exact h2 (gLt_trans h h3)
set_option maxRecDepth 100000 in
set_option maxHeartbeats 8000000 in
theorem cmpG_gr (x y : Grn) (w : World) :
    Calls Tryz.prog 15 #[x.v, y.v] w fun e w' => e = .returned (.int .i64 (cfG x y)) ∧ Gr w w' := by
  obtain ⟨xm, xc, xf, xp, xq⟩ := x
  obtain ⟨ym, yc, yf, yp, yq⟩ := y
  unfold Grn.v
  obtain ⟨r, hr⟩ : ∃ r, orL [cmpS xm ym, cmpI xc yc, cmpI xf yf] = r := ⟨_, rfl⟩
  have HR : Hid (cfG ⟨xm, xc, xf, xp, xq⟩ ⟨ym, yc, yf, yp, yq⟩ = r) := by
    show _ = _
    rw [← hr, orL_eq]; rfl
  have H3 := Lib.hid (fun W => strCmp_any xm ym W)
  have H4 := Lib.hid (fun W => cmp_any xc yc W)
  have H5 := Lib.hid (fun W => cmp_any xf yf W)
  obtain ⟨r3, h3⟩ : ∃ v, cmpS xm ym = v := ⟨_, rfl⟩
  obtain ⟨r4, h4⟩ : ∃ v, cmpI xc yc = v := ⟨_, rfl⟩
  obtain ⟨r5, h5⟩ : ∃ v, cmpI xf yf = v := ⟨_, rfl⟩
  rw [h3, h4, h5] at hr
  simp only [h3] at H3
  simp only [h4] at H4
  simp only [h5] at H5
  have HO : Hid (∀ (W : World) (b : Nat), Blk W b 3 [.int .i64 r3, .int .i64 r4, .int .i64 r5] → Calls Tryz.prog 16 #[.slice (some ⟨b, 0, none⟩) 3 3] W fun e w' => e = .returned (.int .i64 r) ∧ W = w') := fun W b hb => by
    rw [← hr]
    refine or_any b 0 3 [r3, r4, r5] W (by simp) fun j hj => ?_
    simp only [List.length_cons, List.length_nil] at hj
    rw [Nat.zero_add, hb.cell j]
    rcases (by omega : j = 0 ∨ j = 1 ∨ j = 2) with rfl | rfl | rfl <;> rfl
  obtain ⟨w0, hw0⟩ : ∃ w0, w0 = (w.alloc (.cells #[.string xm, .int .i64 xc, .int .i64 xf, .string xp, .string xq] 33)).alloc (.cells #[.string ym, .int .i64 yc, .int .i64 yf, .string yp, .string yq] 33) := ⟨_, rfl⟩
  have HB0 : Hid (Gr w w0) := by rw [hw0]; exact ((Grw.refl _).alloc _).alloc _
  have HK : Hid (Blk w0 w.heap.size 33 [.string xm, .int .i64 xc, .int .i64 xf, .string xp, .string xq] ∧ Blk w0 (w.heap.size + 1) 33 [.string ym, .int .i64 yc, .int .i64 yf, .string yp, .string yq]) := by
    have k1 := Blk.new w 33 [.string xm, .int .i64 xc, .int .i64 xf, .string xp, .string xq]
    have k2 := Blk.new (w.alloc (.cells #[.string xm, .int .i64 xc, .int .i64 xf, .string xp, .string xq] 33)) 33 [.string ym, .int .i64 yc, .int .i64 yf, .string yp, .string yq]
    have e2 : (w.alloc (.cells #[.string xm, .int .i64 xc, .int .i64 xf, .string xp, .string xq] 33)).heap.size = w.heap.size + 1 := by simp
    rw [e2] at k2
    rw [hw0]
    exact ⟨k1.same (Same.of_below (S := fun _ => True) ((Gq.refl _).alloc _)) trivial, k2⟩
  have HS : Hid (∀ W, Gr w0 W → W.cell? ⟨w.heap.size, 0, none⟩ = some (.string xm) ∧ W.cell? ⟨w.heap.size, 1, none⟩ = some (.int .i64 xc) ∧ W.cell? ⟨w.heap.size, 2, none⟩ = some (.int .i64 xf) ∧
      W.cell? ⟨w.heap.size + 1, 0, none⟩ = some (.string ym) ∧ W.cell? ⟨w.heap.size + 1, 1, none⟩ = some (.int .i64 yc) ∧ W.cell? ⟨w.heap.size + 1, 2, none⟩ = some (.int .i64 yf) ∧ Gr w0 W) := fun W hW => by
    have k1 := HK.out.1.same (Same.of_below (S := fun _ => True) (Grw.below hW)) trivial
    have k2 := HK.out.2.same (Same.of_below (S := fun _ => True) (Grw.below hW)) trivial
    exact ⟨k1.cell 0, k1.cell 1, k1.cell 2, k2.cell 0, k2.cell 1, k2.cell 2, hW⟩
  have hBR : Gr w0 w0 := Grw.refl _
  have hBD : Gr w0 w0.drew := (Grw.refl _).drew
  have HW0 := Lib.hid hw0
  clear hw0 h3 h4 h5 hr
  go_enter Tryz.func15, Tryz.ntmps15
  go_wp2_with fail
  rw [← HW0.out]
  go_region_held3 (fun W => W.cell? ⟨w.heap.size, 0, none⟩ = some (.string xm) ∧ W.cell? ⟨w.heap.size, 1, none⟩ = some (.int .i64 xc) ∧ W.cell? ⟨w.heap.size, 2, none⟩ = some (.int .i64 xf) ∧
      W.cell? ⟨w.heap.size + 1, 0, none⟩ = some (.string ym) ∧ W.cell? ⟨w.heap.size + 1, 1, none⟩ = some (.int .i64 yc) ∧ W.cell? ⟨w.heap.size + 1, 2, none⟩ = some (.int .i64 yf) ∧ Gr w0 W)
    (first | exact HS.out _ hBD | exact HS.out _ hBR | exact HS.out _ (Grw.alloc hBD _) | exact HS.out _ (Grw.alloc hBR _) | exact HS.out _ (Grw.drew (Grw.alloc hBR _)))
    (first | (go_at_call 17; with_reducible refine (H3.out _).mono ?_; rintro e w' ⟨rfl, rfl⟩) | (go_at_call 18; with_reducible refine (H4.out _).mono ?_; rintro e w' ⟨rfl, rfl⟩) | (go_at_call 18; with_reducible refine (H5.out _).mono ?_; rintro e w' ⟨rfl, rfl⟩) | (go_at_call 16; refine (HO.out _ _ (by first | exact Blk.new _ _ _ | (simp; exact Blk.new _ _ _))).mono ?_; rintro e w' ⟨rfl, rfl⟩))
  all_goals
    go_wp2_with fail
    go_ret
    exact ⟨by rw [HR.out]; rfl, Grw.trans HB0.out (by first | exact (Grw.alloc hBR _) | exact (Grw.alloc hBR _).drew | exact (Grw.alloc hBD _))⟩
theorem cmpLaysG (g off size : Nat) (w : World) : CmpLays Tryz.prog 15 #[] Grn.cs 5 cfG g off size w :=
  fun _ _ _ _ x y => cmpG_gr x y _
def SrtGr (w : World) (B : Nat) (A : Option Addr) (l : List Grn) (e : Ending) (w' : World) : Prop := e = .returned (.tuple #[]) ∧ SrtK (ltOf cfG) Grn.cs w B A l w'
theorem sortG_any (B base : Nat) (A : Option Addr) (n c : Nat) (l : List Grn) (w : World) (hB : B ≤ base) (hown : w.ownsRow base 33 5 (.slice A n c) n (l.flatMap Grn.cs)) (hn : l.length = n) (hm : n < 4611686018427387904) :
    Calls Tryz.prog 14 #[.slice A n c, .func (.func 15) #[] #[]] w (SrtGr w B A l) := by
  have eg : ∀ args w, (callFunc 15 args).run Tryz.prog w = .ok (.enter 15 args) w := enters_of Tryz.func15 (by kernel_rfl) rfl
  by_cases h0 : n = 0
  · subst h0
    have : l = [] := List.eq_nil_of_length_eq_zero hn
    subst this
    exact (AnyF.slices_SortFunc_none Tryz.sortGr A c _ w).mono fun e w' ⟨h1, h2⟩ => ⟨h1, [], List.Perm.refl _, by simp, .inl rfl, by rw [h2]; exact Below.refl _ _⟩
  · rcases hown.2 with ⟨h1, h2⟩ | ⟨g, cap, cur, hv, hb, hg, _⟩
    · exact absurd h2 h0
    · injection hv with e1 e2 e3
      subst e1
      have hH := holdsK_of_own (enc := Grn.cs) (fun _ => rfl) hown hn
      have hgs : g < w.heap.size := (Array.getElem?_eq_some_iff.1 hg).1
      have hs : l.toArray.size = n := by simpa using hn
      have hcon := AnyQ.slices_SortFunc Tryz.sortGr 5 Tryz.isAgg33 Tryz.sizeOf33 Grn.cs (fun _ => rfl) (fun x v hv => by simp [Grn.cs] at hv; rcases hv with rfl | rfl | rfl | rfl | rfl <;> rfl) cfG swoG 15 #[] g 0 c l.toArray w eg (cmpLaysG g 0 _ w) hH hgs (by omega)
      rw [hs] at hcon
      refine hcon.mono fun e w' ⟨h1, d', m, os, hp, hs2, hw⟩ => ⟨h1, ?_⟩
      rw [hw]
      exact srtK_of (fun _ => rfl) hgs (Nat.le_trans hB hb) hH (by rw [hs]; exact hp) (by rw [hs]; exact hs2)
end Go.Proofs.YtmknpeoflafaoabGreatDoor
