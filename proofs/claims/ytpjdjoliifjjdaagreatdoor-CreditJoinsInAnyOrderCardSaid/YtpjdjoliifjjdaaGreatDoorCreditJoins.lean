/- The walk of CreditJoinsInAnyOrder. -/
import Derived.Test.YtpjdjoliifjjdaaGreatDoorJoiH
import Derived.Test.YtpjdjoliifjjdaaGreatDoorJoinAll
import Derived.Test.YtpjdjoliifjjdaaGreatDoorPplM
import Derived.Test.YtpjdjoliifjjdaaGreatDoorPplO
import Derived.Test.YtpjdjoliifjjdaaGreatDoorAgrG
import Derived.Test.YtpjdjoliifjjdaaGreatDoorMax
namespace Go.Proofs.YtpjdjoliifjjdaaGreatDoor
open Go.RowKit Go.Dw

theorem grpF_len (p : Ppl) (n m : Nat) : (grpF p n m).length ≤ n := by
  unfold grpF
  rw [List.length_map]
  have := List.length_filter_le (fun k => decide (lab p k = m)) (List.range n)
  simpa using this
theorem grpsF_len (p : Ppl) (n : Nat) : (grpsF p n).length ≤ n := by
  unfold grpsF ledF
  rw [List.length_map]
  have := List.length_filter_le (fun i => decide (lab p i = i)) (List.range n)
  simpa using this
theorem grpsF_mem {p : Ppl} {n : Nat} : ∀ l ∈ grpsF p n, l.length ≤ n := by
  intro l hl
  unfold grpsF at hl
  obtain ⟨m, _, rfl⟩ := List.mem_map.1 hl
  exact grpF_len p n m
set_option maxRecDepth 100000 in
set_option maxHeartbeats 4000000 in
theorem joins_law (a b : Peo) (w : World) (hA : PeoOk w a ∧ NilOk a) (hB : PeoOk w b ∧ NilOk b) (hm : HasMax w) :
    Calls Tryz.prog 3 #[.agg a.cells.toArray, .agg b.cells.toArray] w fun e w' => e = .returned (.bool true) ∧ Below w.heap.size w w' := by
  show Calls _ _ #[a.v, b.v] w _
  obtain ⟨ha, na⟩ := hA
  obtain ⟨hb, nb⟩ := hB
  have H1 := Lib.hid (fun (W : World) (hW : Below w.heap.size w W) => peopleR_any a W (ha.below hW) (hm.below hW))
  have H2 := Lib.hid (fun (W : World) (hW : Below w.heap.size w W) => peopleR_any b W (hb.below hW) (hm.below hW))
  have H3 := Lib.hid (fun (W : World) (hW : Below w.heap.size w W) => join_any a b W (ha.below hW) (hb.below hW) na nb (hm.below hW))
  have H4 := Lib.hid (fun (W : World) (hW : Below w.heap.size w W) => join_any b a W (hb.below hW) (ha.below hW) nb na (hm.below hW))
  have H5 := Lib.hid (fun (x : Peo) (W : World) (hx : PeoOk W x) (hW : Below w.heap.size w W) => groups_any x W hx (hm.below hW))
  obtain ⟨pa, hpa⟩ : ∃ pa, a.x = pa := ⟨_, rfl⟩
  obtain ⟨pb, hpb⟩ : ∃ pb, b.x = pb := ⟨_, rfl⟩
  simp only [hpa, hpb] at H1 H2 H3 H4
  clear hpa hpb ha hb na nb hm
  obtain ⟨⟨A1, c1, L1⟩, ⟨A2, c2, M1⟩⟩ := a
  obtain ⟨⟨B1, d1, L2⟩, ⟨B2, d2, M2⟩⟩ := b
  unfold Peo.v at *
  simp only [Slc.v] at *
  obtain ⟨fa, hfa⟩ : ∃ f, peoF pa = f := ⟨_, rfl⟩
  obtain ⟨fb, hfb⟩ : ∃ f, peoF pb = f := ⟨_, rfl⟩
  have HFA := Lib.hid hfa
  have HFB := Lib.hid hfb
  simp only [hfa] at H1
  simp only [hfb] at H2
  clear hfa hfb
  obtain ⟨w0, hw0⟩ : ∃ w0, w0 = (w.alloc (.cells #[.slice A1 L1.length c1, .slice A2 M1.length c2] 25)).alloc (.cells #[.slice B1 L2.length d1, .slice B2 M2.length d2] 25) := ⟨_, rfl⟩
  have HB0 : Hid (Below w.heap.size w w0) := by rw [hw0]; exact ((Below.refl _ _).alloc (Nat.le_refl _) _).alloc (by simp) _
  have hz0 : w0.heap.size = w.heap.size + 2 := by rw [hw0]; simp
  have HK : Hid (Blk w0 w.heap.size 25 [.slice A1 L1.length c1, .slice A2 M1.length c2] ∧ Blk w0 (w.heap.size + 1) 25 [.slice B1 L2.length d1, .slice B2 M2.length d2]) := by
    have k1 := Blk.new w 25 [.slice A1 L1.length c1, .slice A2 M1.length c2]
    have k2 := Blk.new (w.alloc (.cells #[.slice A1 L1.length c1, .slice A2 M1.length c2] 25)) 25 [.slice B1 L2.length d1, .slice B2 M2.length d2]
    have e2 : (w.alloc (.cells #[.slice A1 L1.length c1, .slice A2 M1.length c2] 25)).heap.size = w.heap.size + 1 := by simp
    rw [e2] at k2
    rw [hw0]
    exact ⟨blkGq k1 ((Gq.refl _).alloc _), k2⟩
  have HW0 := Lib.hid hw0
  have HBK : Hid (∀ W, Gq w0 W → Below w.heap.size w W ∧ (W.cell? ⟨w.heap.size, 0, none⟩ = some (.slice A1 L1.length c1) ∧ W.cell? ⟨w.heap.size, 1, none⟩ = some (.slice A2 M1.length c2)) ∧ (W.cell? ⟨w.heap.size + 1, 0, none⟩ = some (.slice B1 L2.length d1) ∧ W.cell? ⟨w.heap.size + 1, 1, none⟩ = some (.slice B2 M2.length d2))) := fun W hW =>
    ⟨HB0.out.trans (Below.mono hW HB0.out.size), ⟨(blkGq HK.out.1 hW).cell 0, (blkGq HK.out.1 hW).cell 1⟩, (blkGq HK.out.2 hW).cell 0, (blkGq HK.out.2 hW).cell 1⟩
  obtain ⟨_, ⟨x0, x1⟩, y0, y1⟩ := HBK.out w0 (Gq.refl _)
  clear hw0 HK
  go_enter Tryz.func3, Tryz.ntmps3
  go_upto_region 1 with (fail)
  rw [← HW0.out]
  go_wp2_with fail
  refine (H1.out _ HB0.out).mono ?_
  rintro e w1 ⟨rfl, hq1⟩
  have HG1 : Hid (Gq w0 w1) := hq1
  clear hq1 x0 x1 y0 y1
  obtain ⟨hb1, ⟨x0, x1⟩, y0, y1⟩ := HBK.out w1 HG1.out
  have HB1 := Lib.hid hb1
  clear hb1
  by_cases hfa0 : fa = 0
  case neg =>
    have hn : (fa != 0) = true := by simpa using hfa0
    go_wp2_with fail
    refine (awake5 _).mono ?_
    rintro e w2 ⟨rfl, hb2⟩
    have HB2 := Lib.hid (HB1.out.trans (hb2.mono HB1.out.size))
    clear hb2
    go_wp2_with fail
    go_ret
    exact ⟨rfl, HB2.out⟩
  subst hfa0
  go_wp2_with fail
  refine (H2.out _ HB1.out).mono ?_
  rintro e w2 ⟨rfl, hq2⟩
  have HG2 : Hid (Gq w0 w2) := Below.trans HG1.out (hq2.mono (Below.size HG1.out))
  clear hq2 x0 x1 y0 y1
  obtain ⟨hb2, ⟨x0, x1⟩, y0, y1⟩ := HBK.out w2 HG2.out
  have HB2 := Lib.hid hb2
  clear hb2
  by_cases hfb0 : fb = 0
  case neg =>
    have hn : (fb != 0) = true := by simpa using hfb0
    go_wp2_with fail
    refine (awake5 _).mono ?_
    rintro e w3 ⟨rfl, hb3⟩
    have HB3 := Lib.hid (HB2.out.trans (hb3.mono HB2.out.size))
    clear hb3
    go_wp2_with fail
    go_ret
    exact ⟨rfl, HB3.out⟩
  subst hfb0
  go_wp2_with fail
  refine (H3.out _ HB2.out).mono ?_
  rintro e w3 ⟨hj3, hq3⟩
  obtain ⟨x, f, rfl, hx3⟩ := hj3.form
  have HX3 := Lib.hid hx3
  have HG3 : Hid (Gq w0 w3) := Below.trans HG2.out (hq3.mono (Below.size HG2.out))
  clear hq3 x0 x1 y0 y1 hj3 hx3
  obtain ⟨⟨XA, Xc, XL⟩, ⟨XB, Xd, XC⟩⟩ := x
  unfold joiV Peo.v
  simp only [Slc.v]
  obtain ⟨wX, hwX⟩ : ∃ wX, wX = w3.alloc (.cells #[.slice XA XL.length Xc, .slice XB XC.length Xd] 25) := ⟨_, rfl⟩
  have hzX : wX.heap.size = w3.heap.size + 1 := by rw [hwX]; simp
  have HG3X : Hid (Gq w3 wX) := by rw [hwX]; exact (Gq.refl _).alloc _
  have HKX : Hid (Blk wX w3.heap.size 25 [.slice XA XL.length Xc, .slice XB XC.length Xd]) := by rw [hwX]; exact Blk.new w3 _ _
  have HGX : Hid (Gq w0 wX) := Below.trans HG3.out (Below.mono HG3X.out (Below.size HG3.out))
  obtain ⟨hb4, ⟨x0, x1⟩, y0, y1⟩ := HBK.out wX HGX.out
  have HB4 := Lib.hid hb4
  have HWX := Lib.hid hwX
  clear hb4 hwX
  go_upto_region 4 with (fail)
  rw [← HWX.out]
  go_wp2_with fail
  refine (H4.out _ HB4.out).mono ?_
  rintro e w4 ⟨hj4, hq4⟩
  obtain ⟨y, g, rfl, hx4⟩ := hj4.form
  obtain ⟨hfg, hok⟩ := joi_both HFA.out HFB.out HX3.out hx4
  subst hfg
  have HOK := Lib.hid hok
  have HGX4 : Hid (Gq wX w4) := hq4
  clear hq4 x0 x1 y0 y1 hj4 hx4 hok HX3
  obtain ⟨⟨YA, Yc, YL⟩, ⟨YB, Yd, YC⟩⟩ := y
  unfold joiV Peo.v
  simp only [Slc.v]
  obtain ⟨wY, hwY⟩ : ∃ wY, wY = w4.alloc (.cells #[.slice YA YL.length Yc, .slice YB YC.length Yd] 25) := ⟨_, rfl⟩
  have hzY : wY.heap.size = w4.heap.size + 1 := by rw [hwY]; simp
  have HG4Y : Hid (Gq w4 wY) := by rw [hwY]; exact (Gq.refl _).alloc _
  have HKY : Hid (Blk wY w4.heap.size 25 [.slice YA YL.length Yc, .slice YB YC.length Yd]) := by rw [hwY]; exact Blk.new w4 _ _
  have HGXY : Hid (Gq wX wY) := Below.trans HGX4.out (Below.mono HG4Y.out (Below.size HGX4.out))
  have HGY : Hid (Gq w0 wY) := Below.trans HGX.out (Below.mono HGXY.out (Below.size HGX.out))
  have HKX2 := Lib.hid (blkGq HKX.out HGXY.out)
  have HWY := Lib.hid hwY
  have hff : (f != f) = false := by simp
  clear hwY
  go_upto_region 5 with (fail)
  rw [← HWY.out]
  go_wp2_with fail
  refine (awake5 _).mono ?_
  rintro e w5 ⟨rfl, hq5⟩
  have HGY5 : Hid (Gq wY w5) := hq5
  have HG5 : Hid (Gq w0 w5) := Below.trans HGY.out (hq5.mono (Below.size HGY.out))
  clear hq5
  by_cases hf0 : f = 0
  case neg =>
    have hn : (f != 0) = true := by simpa using hf0
    have HBE := Lib.hid (HBK.out w5 HG5.out).1
    go_wp2_with fail
    go_ret
    exact ⟨rfl, HBE.out⟩
  subst hf0
  obtain ⟨hx, hy, fx, fy, hgr⟩ := HOK.out rfl
  have HPX := Lib.hid (hx.below (Below.trans (Below.trans HG3X.out (Below.mono HGXY.out (Below.size HG3X.out))) (Below.mono HGY5.out (Below.size (Below.trans HG3X.out (Below.mono HGXY.out (Below.size HG3X.out)))))))
  have HPY := Lib.hid (hy.below (Below.trans HG4Y.out (Below.mono HGY5.out (Below.size HG4Y.out))))
  have HGR := Lib.hid hgr
  have HFX := Lib.hid fx
  have HFY := Lib.hid fy
  have HKX5 := Lib.hid (blkGq HKX2.out HGY5.out)
  have HKY5 := Lib.hid (blkGq HKY.out HGY5.out)
  have x0 : w5.cell? ⟨w3.heap.size, 0, none⟩ = some (.slice XA XL.length Xc) := HKX5.out.cell 0
  have x1 : w5.cell? ⟨w3.heap.size, 1, none⟩ = some (.slice XB XC.length Xd) := HKX5.out.cell 1
  have HC5 := Lib.hid (H5.out _ w5 HPX.out (HBK.out w5 HG5.out).1)
  unfold GrpsPost at HC5
  clear hx hy fx fy hgr HOK HKX2 HKY
  go_wp2_with fail
  refine HC5.out.mono ?_
  rintro e w6 ⟨hq6, gA, gc, R, rfl, hR, hGI⟩
  rw [HFX.out, if_pos rfl] at hR
  have HG56 : Hid (Gq w5 w6) := hq6
  have HG6 : Hid (Gq w0 w6) := Below.trans HG5.out (hq6.mono (Below.size HG5.out))
  have HGA := Lib.hid hGI.grs
  rw [hR] at HGA
  have hRl : R.length = (R.map rwOf).length := by simp
  have HPY6 := Lib.hid (HPY.out.below hq6)
  have HKY6 := Lib.hid (blkGq HKY5.out hq6)
  rw [HFX.out]
  rw [hRl]
  clear hq6 hGI hR hRl x0 x1 HC5
  generalize R.map rwOf = G1 at *
  have y0 : w6.cell? ⟨w4.heap.size, 0, none⟩ = some (.slice YA YL.length Yc) := HKY6.out.cell 0
  have y1 : w6.cell? ⟨w4.heap.size, 1, none⟩ = some (.slice YB YC.length Yd) := HKY6.out.cell 1
  have HC6 := Lib.hid (H5.out _ w6 HPY6.out (HBK.out w6 HG6.out).1)
  unfold GrpsPost at HC6
  go_wp2_with fail
  refine HC6.out.mono ?_
  rintro e w7 ⟨hq7, gB, gd, R2, rfl, hR2, hGI2⟩
  rw [HFY.out, if_pos rfl] at hR2
  have HG7 : Hid (Gq w0 w7) := Below.trans HG6.out (hq7.mono (Below.size HG6.out))
  have HGB := Lib.hid hGI2.grs
  rw [hR2, ← HGR.out] at HGB
  have hRl : R2.length = (R2.map rwOf).length := by simp
  have HGA7 := Lib.hid (HGA.out.below hq7)
  rw [HFY.out]
  rw [hRl]
  clear hq7 hGI2 hR2 hRl y0 y1 HC6
  generalize R2.map rwOf = G2 at *
  have hnl : (Peo.x ⟨⟨XA, Xc, XL⟩, ⟨XB, Xd, XC⟩⟩).ps.length ≤ 9223372036854775807 := by have := (pplR_of HFX.out).n; omega
  have HSG := Lib.hid (sameGroups_any gA gB gc gd G1 G2 _ w7 HGA7.out HGB.out (Nat.le_trans (grpsF_len _ _) hnl) (fun l hl => Nat.le_trans (grpsF_mem l hl) hnl))
  have HB7 := Lib.hid (HBK.out w7 HG7.out).1
  go_wp2_with fail
  refine HSG.out.mono ?_
  rintro e w8 ⟨rfl, n8, rfl⟩
  have HB8 : Hid (Below w.heap.size w (w7.drewN n8)) := below_drewN HB7.out n8
  go_wp2_with fail
  go_ret
  exact ⟨rfl, HB8.out⟩
end Go.Proofs.YtpjdjoliifjjdaaGreatDoor
