/- The contract of edit.compare, in worlds with new blocks alone. -/
import Derived.Test.YtmppccnioiodgaaGreatDoorCmpZ
import Derived.Test.YtmppccnioiodgaaGreatDoorSrtZ
import Derived.Test.YtmppccnioiodgaaGreatDoorNumB
import Derived.Test.YtmppccnioiodgaaGreatDoorShSmall
import Derived.Deep.RegionHeld3
import Derived.Deep.DrawnRows
namespace Go.Proofs.YtmppccnioiodgaaGreatDoor
open Go.RowKit Go.Dw
attribute [local go_sem ↓] Go.wp_at_zero Go.wp_at_succ

set_option maxRecDepth 100000 in
set_option maxHeartbeats 8000000 in
theorem compare_gr (x y : CliM) (w : World) :
    Calls Tryz.prog 20 #[x.v, y.v] w fun e w' => e = .returned (.int .i64 (cmpK x.x y.x)) ∧ Gr w w' := by
  obtain ⟨xm, xc, xf, xt, xa, xl, ⟨xA, xk, xe⟩⟩ := x
  obtain ⟨ym, yc, yf, yt, ya, yl, ⟨yA, yk, ye⟩⟩ := y
  unfold CliM.v
  simp only [Slc.v]
  obtain ⟨r, hr⟩ : ∃ r, orL [cmpI xt yt, cmpI xa ya, cmpS xm ym, cmpI xc yc, cmpI xf yf, cmpI xl yl] = r := ⟨_, rfl⟩
  have HR : Hid (cmpK (CliM.x ⟨xm, xc, xf, xt, xa, xl, ⟨xA, xk, xe⟩⟩) (CliM.x ⟨ym, yc, yf, yt, ya, yl, ⟨yA, yk, ye⟩⟩) = r) := by
    show _ = _
    rw [← hr, orL_eq]; rfl
  have H1 := Lib.hid (fun W => cmp_any xt yt W)
  have H2 := Lib.hid (fun W => cmp_any xa ya W)
  have H3 := Lib.hid (fun W => strCmp_any xm ym W)
  have H4 := Lib.hid (fun W => cmp_any xc yc W)
  have H5 := Lib.hid (fun W => cmp_any xf yf W)
  have H6 := Lib.hid (fun W => cmp_any xl yl W)
  obtain ⟨r1, h1⟩ : ∃ v, cmpI xt yt = v := ⟨_, rfl⟩
  obtain ⟨r2, h2⟩ : ∃ v, cmpI xa ya = v := ⟨_, rfl⟩
  obtain ⟨r3, h3⟩ : ∃ v, cmpS xm ym = v := ⟨_, rfl⟩
  obtain ⟨r4, h4⟩ : ∃ v, cmpI xc yc = v := ⟨_, rfl⟩
  obtain ⟨r5, h5⟩ : ∃ v, cmpI xf yf = v := ⟨_, rfl⟩
  obtain ⟨r6, h6⟩ : ∃ v, cmpI xl yl = v := ⟨_, rfl⟩
  rw [h1, h2, h3, h4, h5, h6] at hr
  simp only [h1] at H1
  simp only [h2] at H2
  simp only [h3] at H3
  simp only [h4] at H4
  simp only [h5] at H5
  simp only [h6] at H6
  have HO : Hid (∀ (W : World) (b : Nat), Blk W b 3 [.int .i64 r1, .int .i64 r2, .int .i64 r3, .int .i64 r4, .int .i64 r5, .int .i64 r6] → Calls Tryz.prog 36 #[.slice (some ⟨b, 0, none⟩) 6 6] W fun e w' => e = .returned (.int .i64 r) ∧ W = w') := fun W b hb => by
    rw [← hr]
    refine or_any b 0 6 [r1, r2, r3, r4, r5, r6] W (by simp) fun j hj => ?_
    simp only [List.length_cons, List.length_nil] at hj
    rw [Nat.zero_add, hb.cell j]
    rcases (by omega : j = 0 ∨ j = 1 ∨ j = 2 ∨ j = 3 ∨ j = 4 ∨ j = 5) with rfl | rfl | rfl | rfl | rfl | rfl <;> rfl
  generalize (xe.length : Nat) = xn at *
  generalize (ye.length : Nat) = yn at *
  obtain ⟨w0, hw0⟩ : ∃ w0, w0 = (w.alloc (.cells #[.string xm, .int .i64 xc, .int .i64 xf, .int .i64 xt, .int .i64 xa, .int .i64 xl, .slice xA xn xk] 51)).alloc (.cells #[.string ym, .int .i64 yc, .int .i64 yf, .int .i64 yt, .int .i64 ya, .int .i64 yl, .slice yA yn yk] 51) := ⟨_, rfl⟩
  have HB0 : Hid (Gr w w0) := by rw [hw0]; exact ((Grw.refl _).alloc _).alloc _
  have HK : Hid (Blk w0 w.heap.size 51 [.string xm, .int .i64 xc, .int .i64 xf, .int .i64 xt, .int .i64 xa, .int .i64 xl, .slice xA xn xk] ∧ Blk w0 (w.heap.size + 1) 51 [.string ym, .int .i64 yc, .int .i64 yf, .int .i64 yt, .int .i64 ya, .int .i64 yl, .slice yA yn yk]) := by
    have k1 := Blk.new w 51 [.string xm, .int .i64 xc, .int .i64 xf, .int .i64 xt, .int .i64 xa, .int .i64 xl, .slice xA xn xk]
    have k2 := Blk.new (w.alloc (.cells #[.string xm, .int .i64 xc, .int .i64 xf, .int .i64 xt, .int .i64 xa, .int .i64 xl, .slice xA xn xk] 51)) 51 [.string ym, .int .i64 yc, .int .i64 yf, .int .i64 yt, .int .i64 ya, .int .i64 yl, .slice yA yn yk]
    have e2 : (w.alloc (.cells #[.string xm, .int .i64 xc, .int .i64 xf, .int .i64 xt, .int .i64 xa, .int .i64 xl, .slice xA xn xk] 51)).heap.size = w.heap.size + 1 := by simp
    rw [e2] at k2
    rw [hw0]
    exact ⟨k1.same (Same.of_below (S := fun _ => True) ((Gq.refl _).alloc _)) trivial, k2⟩
  have HS : Hid (∀ W, Gr w0 W → W.cell? ⟨w.heap.size, 0, none⟩ = some (.string xm) ∧ W.cell? ⟨w.heap.size, 1, none⟩ = some (.int .i64 xc) ∧ W.cell? ⟨w.heap.size, 2, none⟩ = some (.int .i64 xf) ∧ W.cell? ⟨w.heap.size, 3, none⟩ = some (.int .i64 xt) ∧ W.cell? ⟨w.heap.size, 4, none⟩ = some (.int .i64 xa) ∧ W.cell? ⟨w.heap.size, 5, none⟩ = some (.int .i64 xl) ∧
      W.cell? ⟨w.heap.size + 1, 0, none⟩ = some (.string ym) ∧ W.cell? ⟨w.heap.size + 1, 1, none⟩ = some (.int .i64 yc) ∧ W.cell? ⟨w.heap.size + 1, 2, none⟩ = some (.int .i64 yf) ∧ W.cell? ⟨w.heap.size + 1, 3, none⟩ = some (.int .i64 yt) ∧ W.cell? ⟨w.heap.size + 1, 4, none⟩ = some (.int .i64 ya) ∧ W.cell? ⟨w.heap.size + 1, 5, none⟩ = some (.int .i64 yl) ∧ Gr w0 W) := fun W hW => by
    have k1 := HK.out.1.same (Same.of_below (S := fun _ => True) (Grw.below hW)) trivial
    have k2 := HK.out.2.same (Same.of_below (S := fun _ => True) (Grw.below hW)) trivial
    exact ⟨k1.cell 0, k1.cell 1, k1.cell 2, k1.cell 3, k1.cell 4, k1.cell 5, k2.cell 0, k2.cell 1, k2.cell 2, k2.cell 3, k2.cell 4, k2.cell 5, hW⟩
  have hBR : Gr w0 w0 := Grw.refl _
  have hBD : Gr w0 w0.drew := (Grw.refl _).drew
  have HW0 := Lib.hid hw0
  clear hw0 h1 h2 h3 h4 h5 h6 hr
  go_enter Tryz.func20, Tryz.ntmps20
  go_wp2_with fail
  rw [← HW0.out]
  go_region_held3 (fun W => W.cell? ⟨w.heap.size, 0, none⟩ = some (.string xm) ∧ W.cell? ⟨w.heap.size, 1, none⟩ = some (.int .i64 xc) ∧ W.cell? ⟨w.heap.size, 2, none⟩ = some (.int .i64 xf) ∧ W.cell? ⟨w.heap.size, 3, none⟩ = some (.int .i64 xt) ∧ W.cell? ⟨w.heap.size, 4, none⟩ = some (.int .i64 xa) ∧ W.cell? ⟨w.heap.size, 5, none⟩ = some (.int .i64 xl) ∧
      W.cell? ⟨w.heap.size + 1, 0, none⟩ = some (.string ym) ∧ W.cell? ⟨w.heap.size + 1, 1, none⟩ = some (.int .i64 yc) ∧ W.cell? ⟨w.heap.size + 1, 2, none⟩ = some (.int .i64 yf) ∧ W.cell? ⟨w.heap.size + 1, 3, none⟩ = some (.int .i64 yt) ∧ W.cell? ⟨w.heap.size + 1, 4, none⟩ = some (.int .i64 ya) ∧ W.cell? ⟨w.heap.size + 1, 5, none⟩ = some (.int .i64 yl) ∧ Gr w0 W)
    (first | exact HS.out _ hBD | exact HS.out _ hBR | exact HS.out _ (Grw.alloc hBD _) | exact HS.out _ (Grw.alloc hBR _) | exact HS.out _ (Grw.drew (Grw.alloc hBR _)))
    (first | (go_at_call 37; with_reducible refine (H1.out _).mono ?_; rintro e w' ⟨rfl, rfl⟩) | (go_at_call 37; with_reducible refine (H2.out _).mono ?_; rintro e w' ⟨rfl, rfl⟩) | (go_at_call 38; with_reducible refine (H3.out _).mono ?_; rintro e w' ⟨rfl, rfl⟩) | (go_at_call 37; with_reducible refine (H4.out _).mono ?_; rintro e w' ⟨rfl, rfl⟩) | (go_at_call 37; with_reducible refine (H5.out _).mono ?_; rintro e w' ⟨rfl, rfl⟩) | (go_at_call 37; with_reducible refine (H6.out _).mono ?_; rintro e w' ⟨rfl, rfl⟩) | (go_at_call 36; refine (HO.out _ _ (by first | exact Blk.new w0 _ _ | exact Blk.new w0.drew _ _)).mono ?_; rintro e w' ⟨rfl, rfl⟩))
  all_goals
    go_wp2_with fail
    go_ret
    exact ⟨by rw [HR.out]; rfl, Grw.trans HB0.out (by first | exact (Grw.alloc hBR _) | exact (Grw.alloc hBR _).drew | exact (Grw.alloc hBD _))⟩
end Go.Proofs.YtmppccnioiodgaaGreatDoor
