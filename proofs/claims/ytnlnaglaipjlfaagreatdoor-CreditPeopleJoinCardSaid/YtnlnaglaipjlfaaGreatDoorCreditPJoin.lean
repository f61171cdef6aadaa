/- The walk of CreditPeopleJoin. -/
import Derived.Test.YtnlnaglaipjlfaaGreatDoorJoiH
import Derived.Test.YtnlnaglaipjlfaaGreatDoorJoiF
import Derived.Test.YtnlnaglaipjlfaaGreatDoorJoinAll
import Derived.Test.YtnlnaglaipjlfaaGreatDoorAgrG
import Derived.Test.YtnlnaglaipjlfaaGreatDoorMax
namespace Go.Proofs.YtnlnaglaipjlfaaGreatDoor
open Go.RowKit Go.Dw

theorem grpF_len (p : Ppl) (n m : Nat) : (grpF p n m).length ≤ n := by
  unfold grpF
  rw [List.length_map]
  have := List.length_filter_le (fun k => decide (lab p k = m)) (List.range n)
  simpa using this
theorem grpsF_len (p : Ppl) (n : Nat) : (grpsF p n).length ≤ n := by
  unfold grpsF ledF
  rw [List.length_map]
  have := List.length_filter_le (fun i => decide (lab p i = i)) (List.range n)
  simpa using this
theorem grpsF_mem {p : Ppl} {n : Nat} : ∀ l ∈ grpsF p n, l.length ≤ n := by
  intro l hl
  unfold grpsF at hl
  obtain ⟨m, _, rfl⟩ := List.mem_map.1 hl
  exact grpF_len p n m
set_option maxRecDepth 100000 in
set_option maxHeartbeats 4000000 in
theorem pjoin_law (a b : Peo) (w : World) (hA : PeoOk w a ∧ NilOk a) (hB : PeoOk w b ∧ NilOk b) (hm : HasMax w) :
    Calls Tryz.prog 3 #[.agg a.cells.toArray, .agg b.cells.toArray] w fun e w' => e = .returned (.bool true) ∧ Below w.heap.size w w' := by
  show Calls _ _ #[a.v, b.v] w _
  obtain ⟨ha, na⟩ := hA
  obtain ⟨hb, nb⟩ := hB
  have H3 := Lib.hid (fun (W : World) (hW : Below w.heap.size w W) => join_any a b W (ha.below hW) (hb.below hW) na nb (hm.below hW))
  have H4 := Lib.hid (fun (W : World) (hW : Below w.heap.size w W) => joinR_any a b W (ha.below hW) (hb.below hW) (hm.below hW))
  have H5 := Lib.hid (fun (x : Peo) (W : World) (hx : PeoOk W x) (hW : Below w.heap.size w W) => groups_any x W hx (hm.below hW))
  have H6 := Lib.hid (fun (x : Peo) (q : ByteArray) (W : World) (hx : PeoOk W x) (hq : q.size ≤ 9223372036854775807) (hW : Below w.heap.size w W) => main_any x q W hx (hm.below hW) hq)
  have HOA := Lib.hid ha
  have HOB := Lib.hid hb
  obtain ⟨pa, hpa⟩ : ∃ pa, a.x = pa := ⟨_, rfl⟩
  obtain ⟨pb, hpb⟩ : ∃ pb, b.x = pb := ⟨_, rfl⟩
  have HPA := Lib.hid hpa
  have HPB := Lib.hid hpb
  simp only [hpa, hpb] at H3 H4
  clear hpa hpb ha hb na nb hm
  obtain ⟨⟨A1, c1, L1⟩, ⟨A2, c2, M1⟩⟩ := a
  obtain ⟨⟨B1, d1, L2⟩, ⟨B2, d2, M2⟩⟩ := b
  unfold Peo.v at *
  simp only [Slc.v] at *
  obtain ⟨w0, hw0⟩ : ∃ w0, w0 = (w.alloc (.cells #[.slice A1 L1.length c1, .slice A2 M1.length c2] 25)).alloc (.cells #[.slice B1 L2.length d1, .slice B2 M2.length d2] 25) := ⟨_, rfl⟩
  have HB0 : Hid (Below w.heap.size w w0) := by rw [hw0]; exact ((Below.refl _ _).alloc (Nat.le_refl _) _).alloc (by simp) _
  have hz0 : w0.heap.size = w.heap.size + 2 := by rw [hw0]; simp
  have HK : Hid (Blk w0 w.heap.size 25 [.slice A1 L1.length c1, .slice A2 M1.length c2] ∧ Blk w0 (w.heap.size + 1) 25 [.slice B1 L2.length d1, .slice B2 M2.length d2]) := by
    have k1 := Blk.new w 25 [.slice A1 L1.length c1, .slice A2 M1.length c2]
    have k2 := Blk.new (w.alloc (.cells #[.slice A1 L1.length c1, .slice A2 M1.length c2] 25)) 25 [.slice B1 L2.length d1, .slice B2 M2.length d2]
    have e2 : (w.alloc (.cells #[.slice A1 L1.length c1, .slice A2 M1.length c2] 25)).heap.size = w.heap.size + 1 := by simp
    rw [e2] at k2
    rw [hw0]
    exact ⟨blkGq k1 ((Gq.refl _).alloc _), k2⟩
  have HW0 := Lib.hid hw0
  have HBK : Hid (∀ W, Gq w0 W → Below w.heap.size w W ∧ (W.cell? ⟨w.heap.size, 0, none⟩ = some (.slice A1 L1.length c1) ∧ W.cell? ⟨w.heap.size, 1, none⟩ = some (.slice A2 M1.length c2)) ∧ (W.cell? ⟨w.heap.size + 1, 0, none⟩ = some (.slice B1 L2.length d1) ∧ W.cell? ⟨w.heap.size + 1, 1, none⟩ = some (.slice B2 M2.length d2))) := fun W hW =>
    ⟨HB0.out.trans (Below.mono hW HB0.out.size), ⟨(blkGq HK.out.1 hW).cell 0, (blkGq HK.out.1 hW).cell 1⟩, (blkGq HK.out.2 hW).cell 0, (blkGq HK.out.2 hW).cell 1⟩
  obtain ⟨_, ⟨x0, x1⟩, y0, y1⟩ := HBK.out w0 (Gq.refl _)
  clear hw0 HK
  go_enter Tryz.func3, Tryz.ntmps3
  go_upto_region 1 with (fail)
  rw [← HW0.out]
  go_wp2_with fail
  refine (H3.out _ HB0.out).mono ?_
  rintro e w3 ⟨hj3, hq3⟩
  obtain ⟨x, f, rfl, hx3⟩ := hj3.form
  have HX3 := Lib.hid hx3
  have HG3 : Hid (Gq w0 w3) := hq3
  clear hq3 x0 x1 y0 y1 hj3 hx3
  obtain ⟨⟨XA, Xc, XL⟩, ⟨XB, Xd, XC⟩⟩ := x
  unfold joiV Peo.v
  simp only [Slc.v]
  obtain ⟨wX, hwX⟩ : ∃ wX, wX = w3.alloc (.cells #[.slice XA XL.length Xc, .slice XB XC.length Xd] 25) := ⟨_, rfl⟩
  have hzX : wX.heap.size = w3.heap.size + 1 := by rw [hwX]; simp
  have HG3X : Hid (Gq w3 wX) := by rw [hwX]; exact (Gq.refl _).alloc _
  have HKX : Hid (Blk wX w3.heap.size 25 [.slice XA XL.length Xc, .slice XB XC.length Xd]) := by rw [hwX]; exact Blk.new w3 _ _
  have HGX : Hid (Gq w0 wX) := Below.trans HG3.out (Below.mono HG3X.out (Below.size HG3.out))
  obtain ⟨hb4, ⟨x0, x1⟩, y0, y1⟩ := HBK.out wX HGX.out
  have HB4 := Lib.hid hb4
  have HWX := Lib.hid hwX
  clear hb4 hwX
  go_upto_region 2 with (fail)
  rw [← HWX.out]
  go_wp2_with fail
  refine (H4.out _ HB4.out).mono ?_
  rintro e w4 ⟨hj4, hq4⟩
  obtain ⟨y, g, rfl, hx4⟩ := hj4.form
  obtain ⟨hfg, hokx, hoky, hxy⟩ := joi_full HX3.out hx4
  subst hfg
  have HOKX := Lib.hid hokx
  have HOKY := Lib.hid hoky
  have HXY := Lib.hid hxy
  have HTG := Lib.hid (fun (h : f = 0) => joiX_tog HX3.out h)
  have HGX4 : Hid (Gq wX w4) := hq4
  clear hq4 x0 x1 y0 y1 hj4 hx4 hokx hoky hxy HX3
  obtain ⟨⟨YA, Yc, YL⟩, ⟨YB, Yd, YC⟩⟩ := y
  unfold joiV Peo.v
  simp only [Slc.v]
  obtain ⟨wY, hwY⟩ : ∃ wY, wY = w4.alloc (.cells #[.slice YA YL.length Yc, .slice YB YC.length Yd] 25) := ⟨_, rfl⟩
  have hzY : wY.heap.size = w4.heap.size + 1 := by rw [hwY]; simp
  have HG4Y : Hid (Gq w4 wY) := by rw [hwY]; exact (Gq.refl _).alloc _
  have HKY : Hid (Blk wY w4.heap.size 25 [.slice YA YL.length Yc, .slice YB YC.length Yd]) := by rw [hwY]; exact Blk.new w4 _ _
  have HGXY : Hid (Gq wX wY) := Below.trans HGX4.out (Below.mono HG4Y.out (Below.size HGX4.out))
  have HG3Y : Hid (Gq w3 wY) := Below.trans HG3X.out (Below.mono HGXY.out (Below.size HG3X.out))
  have HGY : Hid (Gq w0 wY) := Below.trans HGX.out (Below.mono HGXY.out (Below.size HGX.out))
  have HKX2 := Lib.hid (blkGq HKX.out HGXY.out)
  have HWY := Lib.hid hwY
  have hff : (f != f) = false := by simp
  have HSP := Lib.hid (samePpl_any _ _ wY (HOKX.out.below HG3Y.out) (HOKY.out.below HG4Y.out) HXY.out)
  unfold Peo.v at HSP
  simp only [Slc.v] at HSP
  have u0 : wY.cell? ⟨w3.heap.size, 0, none⟩ = some (.slice XA XL.length Xc) := HKX2.out.cell 0
  have u1 : wY.cell? ⟨w3.heap.size, 1, none⟩ = some (.slice XB XC.length Xd) := HKX2.out.cell 1
  have v0 : wY.cell? ⟨w4.heap.size, 0, none⟩ = some (.slice YA YL.length Yc) := HKY.out.cell 0
  have v1 : wY.cell? ⟨w4.heap.size, 1, none⟩ = some (.slice YB YC.length Yd) := HKY.out.cell 1
  clear hwY
  go_upto_region 3 with (fail)
  rw [← HWY.out]
  go_wp2_with fail
  refine HSP.out.mono ?_
  rintro e w5 ⟨rfl, hq5⟩
  have HG5 : Hid (Gq wY w5) := hq5
  clear hq5 u0 u1 v0 v1
  go_wp2_with fail
  refine (awake5 _).mono ?_
  rintro e w6 ⟨rfl, hq6⟩
  have HG6 : Hid (Gq wY w6) := Below.trans HG5.out (hq6.mono (Below.size HG5.out))
  have HG06 : Hid (Gq w0 w6) := Below.trans HGY.out (Below.mono HG6.out (Below.size HGY.out))
  clear hq6 HG5
  by_cases hf0 : f = 0
  case neg =>
    have hn : (f != 0) = true := by simpa using hf0
    have HBE := Lib.hid (HBK.out w6 HG06.out).1
    go_wp2_with fail
    go_ret
    exact ⟨rfl, HBE.out⟩
  subst hf0
  obtain ⟨hfa, hfb, hta, htb⟩ := HTG.out rfl
  have HPX6 := Lib.hid (HOKX.out.below (Below.trans HG3Y.out (Below.mono HG6.out (Below.size HG3Y.out))))
  have HKX6 := Lib.hid (blkGq HKX2.out HG6.out)
  obtain ⟨_, ⟨x0, x1⟩, y0, y1⟩ := HBK.out w6 HG06.out
  obtain ⟨w7, hw7⟩ : ∃ w7, w7 = w6.alloc (.cells #[.slice A1 L1.length c1, .slice A2 M1.length c2, .slice B1 L2.length d1, .slice B2 M2.length d2] 25) := ⟨_, rfl⟩
  have HG67 : Hid (Gq w6 w7) := by rw [hw7]; exact (Gq.refl _).alloc _
  have HK7 : Hid (Blk w7 w6.heap.size 25 [.slice A1 L1.length c1, .slice A2 M1.length c2, .slice B1 L2.length d1, .slice B2 M2.length d2]) := by rw [hw7]; exact Blk.new w6 _ _
  have HG07 : Hid (Gq w0 w7) := Below.trans HG06.out (Below.mono HG67.out (Below.size HG06.out))
  have HEI : Hid (∀ (W : World) (i : Nat), Gq w7 W → i < 2 → ∃ p, Either (Peo.x ⟨⟨XA, Xc, XL⟩, ⟨XB, Xd, XC⟩⟩) W w6.heap.size i p) := fun W i hW hi => by
    have hbW : Below w.heap.size w W := (HBK.out W (Below.trans HG07.out (Below.mono hW (Below.size HG07.out)))).1
    have k := blkGq HK7.out hW
    rcases (by omega : i = 0 ∨ i = 1) with rfl | rfl
    · exact ⟨⟨⟨A1, c1, L1⟩, ⟨A2, c2, M1⟩⟩, k.cell 0, k.cell 1, HOA.out.below hbW, by rw [HPA.out]; exact hfa, by rw [HPA.out]; exact hta⟩
    · exact ⟨⟨⟨B1, d1, L2⟩, ⟨B2, d2, M2⟩⟩, k.cell 2, k.cell 3, HOB.out.below hbW, by rw [HPB.out]; exact hfb, by rw [HPB.out]; exact htb⟩
  have HPX7 := Lib.hid (HPX6.out.below HG67.out)
  have HKX7 := Lib.hid (blkGq HKX6.out HG67.out)
  have HB7 : Hid (∀ W, Gq w7 W → Below w.heap.size w W) := fun W hW => (HBK.out W (Below.trans HG07.out (Below.mono hW (Below.size HG07.out)))).1
  have HW7 := Lib.hid hw7
  clear hw7 hfa hfb hta htb HTG HPX6 HKX6 HOKX HOKY HXY HSP HKY
  go_upto_region 7 with (fail)
  go_wp2_with fail
  rw [← HW7.out]
  go_loopw [54] (fun iv wr => ∃ i : Nat, i ≤ 2 ∧ iv = .int .i64 (i : Int) ∧ Hid (Gq w7 wr)) (fun iv _ => 2 - (intOf iv).toNat)
  case atStart => exact ⟨0, by omega, rfl, Gq.refl _⟩
  case round =>
    clear x0 x1 y0 y1
    obtain ⟨i, hi, rfl, HGI⟩ := hrel
    by_cases hi2 : i < 2
    case neg =>
      have hd1 : decide (i < 2) = false := by simpa using hi2
      have HBE := Lib.hid (HB7.out wr HGI.out)
      go_wp2_with fail
      go_ret
      exact ⟨rfl, HBE.out⟩
    have hd1 : decide (i < 2) = true := by simpa using hi2
    obtain ⟨p, hp⟩ := HEI.out wr i HGI.out hi2
    have c0 := hp.c0
    have c1 := hp.c1
    have HOP := Lib.hid hp.ok
    have HFP := Lib.hid hp.f
    have HTP := Lib.hid hp.tog
    have HC5 := Lib.hid (fun (W : World) (hW : Gq wr W) => H5.out p W (hp.ok.below hW) ((HB7.out wr HGI.out).trans (Below.mono hW (HB7.out wr HGI.out).size)))
    have HSZ := Lib.hid (grps_sz (p := p.x) (N := 9223372036854775807) (fun y hy => by
      obtain ⟨z, hz, rfl⟩ := List.mem_map.1 hy
      exact (hp.ok.po z hz).1.1))
    have hnl : p.x.ps.length ≤ 9223372036854775807 := by have := (pplR_of hp.f).n; omega
    have HGL : Hid ((grpsF p.x p.x.ps.length).length ≤ 9223372036854775807 ∧ ∀ l ∈ grpsF p.x p.x.ps.length, l.length ≤ 9223372036854775807) := ⟨Nat.le_trans (grpsF_len _ _) hnl, fun l hl => Nat.le_trans (grpsF_mem l hl) hnl⟩
    unfold GrpsPost at HC5
    simp only [hp.f, if_true] at HC5
    clear hp hnl
    obtain ⟨⟨PA, Pc, PL⟩, ⟨PB, Pd, PC⟩⟩ := p
    unfold Slc.v at c0 c1
    simp only at c0 c1 HC5
    obtain ⟨GR, hgr⟩ : ∃ r, grpsF (Peo.x ⟨⟨PA, Pc, PL⟩, ⟨PB, Pd, PC⟩⟩) (Peo.x ⟨⟨PA, Pc, PL⟩, ⟨PB, Pd, PC⟩⟩).ps.length = r := ⟨_, rfl⟩
    rw [hgr] at HC5 HTP HSZ HGL
    clear hgr
    obtain ⟨wB, hwB⟩ : ∃ wB, wB = wr.alloc (.cells #[.slice PA PL.length Pc, .slice PB PC.length Pd] 25) := ⟨_, rfl⟩
    have hzB : wB.heap.size = wr.heap.size + 1 := by rw [hwB]; simp
    have HGB : Hid (Gq wr wB) := by rw [hwB]; exact (Gq.refl _).alloc _
    have HKB : Hid (Blk wB wr.heap.size 25 [.slice PA PL.length Pc, .slice PB PC.length Pd]) := by rw [hwB]; exact Blk.new wr _ _
    have b0 : wB.cell? ⟨wr.heap.size, 0, none⟩ = some (.slice PA PL.length Pc) := HKB.out.cell 0
    have b1 : wB.cell? ⟨wr.heap.size, 1, none⟩ = some (.slice PB PC.length Pd) := HKB.out.cell 1
    have j0 : (0 : Int) ≤ (i : Int) := by omega
    have j1 : (i : Int) < 2 := by omega
    have HWB := Lib.hid hwB
    have HCB := Lib.hid (HC5.out wB HGB.out)
    clear hwB HC5
    go_upto_region 10 with (fail)
    rw [← HWB.out]
    clear c0 c1
    go_wp2_with fail
    refine HCB.out.mono ?_
    rintro e wG ⟨hqG, gA, gc, R, rfl, hR, hGI⟩
    have HGG : Hid (Gq w7 wG) := Below.trans (Below.trans HGI.out (Below.mono HGB.out (Below.size HGI.out))) (Below.mono hqG (Below.size (Below.trans HGI.out (Below.mono HGB.out (Below.size HGI.out)))))
    have HGRS := Lib.hid hGI.grs
    rw [hR] at HGRS
    have hRl : R.length = GR.length := by rw [← hR]; simp
    rw [hRl]
    clear hqG hGI hR hRl b0 b1 HCB
    generalize R.map rwOf = G1 at *
    go_wp2_with fail
    obtain ⟨wo, hwo⟩ : ∃ wo, wo = wr := ⟨_, rfl⟩
    subst hwo
    go_loopw [67] (fun kv wx => ∃ k : Nat, k ≤ GR.length ∧ kv = .int .i64 (k : Int) ∧ Hid (Gq wG wx)) (fun kv _ => GR.length - (intOf kv).toNat)
    case atStart => exact ⟨0, Nat.zero_le _, rfl, Gq.refl _⟩
    case round =>
      obtain ⟨k, hk, rfl, HGK⟩ := hrel
      have HG7K : Hid (Gq w7 wr) := Below.trans HGG.out (Below.mono HGK.out (Below.size HGG.out))
      by_cases hlt : k < GR.length
      case neg =>
        have hd2 : decide (k < GR.length) = false := by simpa using hlt
        go_wp2_with fail
        go_roundw
        case rel => exact ⟨i + 1, by omega, by go_num, HG7K⟩
        case measure => simp [intOf]; omega
      have hd2 : decide (k < GR.length) = true := by simpa using hlt
      obtain ⟨bR, oR, a1, cc1, rfl, hbR, hcR, hrR⟩ := (HGRS.out.below HGK.out).at_ hlt
      have hgk63 := HGL.out.1
      have hgl63 := HGL.out.2 _ (List.getElem_mem hlt)
      have HSQ := Lib.hid (HSZ.out _ (List.getElem_mem hlt))
      obtain ⟨fst, hne, hall⟩ := HTP.out _ (List.getElem_mem hlt)
      have HALL := Lib.hid hall
      have HRR := Lib.hid hrR
      clear hall hrR
      generalize GR[k] = l at *
      have hl0 : 0 < l.length := List.length_pos_iff.2 hne
      obtain ⟨bQ, oQ, rfl, hbQ, hcQ⟩ := HRR.out.at_ (by simp [sb]; omega)
      have HCQ : Hid (∀ (W : World) (j : Nat) (h : j < l.length), Gq wr W → W.cell? ⟨bQ, oQ + j, none⟩ = some (.string l[j])) := fun W j h hW => by
        rw [Below.cell hW (by exact hbQ)]
        exact hcQ j _ (by simp [sb, h])
      have HMN : Hid (∀ (W : World) (j : Nat) (h : j < l.length), Gq wr W → Calls Tryz.prog 9 #[.agg #[.slice XA XL.length Xc, .slice XB XC.length Xd], .string l[j]] W fun e W' => (∃ nm, e = .returned (.tuple #[.string fst, .string nm, .int .i64 0])) ∧ Gq wr W') := fun W j h hW => by
        have h7 : Gq w7 W := Below.trans HG7K.out (Below.mono hW (Below.size HG7K.out))
        refine (H6.out _ l[j] W (HPX7.out.below h7) (HSQ.out _ (List.getElem_mem h)) (HB7.out W h7)).mono ?_
        rintro e W' ⟨he, hb⟩
        obtain ⟨h1, h2⟩ := HALL.out _ (List.getElem_mem h)
        refine ⟨⟨(manF (Peo.x ⟨⟨XA, Xc, XL⟩, ⟨XB, Xd, XC⟩⟩) l[j]).2.1, ?_⟩, Below.trans hW (Below.mono hb (Below.size hW))⟩
        rw [he]; unfold manV; rw [h1, h2]
      have HXC : Hid (∀ W, Gq wr W → W.cell? ⟨w3.heap.size, 0, none⟩ = some (.slice XA XL.length Xc) ∧ W.cell? ⟨w3.heap.size, 1, none⟩ = some (.slice XB XC.length Xd)) := fun W hW => by
        have k1 := blkGq HKX7.out (Below.trans HG7K.out (Below.mono hW (Below.size HG7K.out)))
        exact ⟨k1.cell 0, k1.cell 1⟩
      obtain ⟨q0, hq0⟩ : ∃ q, l[0] = q := ⟨_, rfl⟩
      have HM0 : Hid (∀ W, Gq wr W → Calls Tryz.prog 9 #[.agg #[.slice XA XL.length Xc, .slice XB XC.length Xd], .string q0] W fun e W' => (∃ nm, e = .returned (.tuple #[.string fst, .string nm, .int .i64 0])) ∧ Gq wr W') := fun W hW => by rw [← hq0]; exact HMN.out W 0 hl0 hW
      have HS : Hid (∀ W, Gq wr W → W.cell? ⟨w3.heap.size, 0, none⟩ = some (.slice XA XL.length Xc) ∧ W.cell? ⟨w3.heap.size, 1, none⟩ = some (.slice XB XC.length Xd) ∧ W.cell? ⟨bQ, oQ, none⟩ = some (.string q0) ∧ Gq wr W) := fun W hW => ⟨(HXC.out W hW).1, (HXC.out W hW).2, by rw [← hq0]; exact HCQ.out W 0 hl0 hW, hW⟩
      have k0 : (0 : Int) ≤ (k : Int) := by omega
      have k1 : (k : Int) < (GR.length : Int) := by omega
      have hBR : Gq wr wr := Gq.refl _
      have hBD : Gq wr wr.drew := (Gq.refl _).drew
      have l0 : (0 : Int) < (l.length : Int) := by omega
      clear hq0 hcQ hbQ hne
      go_upto_region 16 with (fail)
      clear hcR
      go_region_held3 (fun W => W.cell? ⟨w3.heap.size, 0, none⟩ = some (.slice XA XL.length Xc) ∧ W.cell? ⟨w3.heap.size, 1, none⟩ = some (.slice XB XC.length Xd) ∧ W.cell? ⟨bQ, oQ, none⟩ = some (.string q0) ∧ Gq wr W)
        (first | exact HS.out _ hBD | exact HS.out _ hqB | exact HS.out _ hBR | exact HS.out _ (Gq.drew hqB))
        (first | (go_at_call 9; with_reducible refine (HM0.out _ (by first | exact hqB | exact hBD | exact hBR)).mono ?_; rintro e wA ⟨⟨nm, rfl⟩, hqB⟩))
      have HGA : Hid (Gq wr wA) := hqB
      clear hqB HS HM0 hBR hBD
      go_wp2_with fail
      obtain ⟨wn, hwn⟩ : ∃ wn, wn = wr := ⟨_, rfl⟩
      subst hwn
      go_loopw [84] (fun jv wx => ∃ j : Nat, j ≤ l.length ∧ jv = .int .i64 (j : Int) ∧ Hid (Gq wn wx)) (fun jv _ => l.length - (intOf jv).toNat)
      case atStart => exact ⟨0, Nat.zero_le _, rfl, HGA⟩
      case round =>
        clear HGA
        obtain ⟨j, hj, rfl, HGJ⟩ := hrel
        by_cases hjl : j < l.length
        case neg =>
          have hd3 : decide (j < l.length) = false := by simpa using hjl
          have HF : Hid (Gq wG wr) := Below.trans HGK.out (Below.mono HGJ.out (Below.size HGK.out))
          go_wp2_with fail
          go_roundw
          case rel => exact ⟨k + 1, by omega, by go_num, HF⟩
          case measure => simp [intOf]; omega
        have hd3 : decide (j < l.length) = true := by simpa using hjl
        obtain ⟨x0, x1⟩ := HXC.out wr HGJ.out
        have c3 := HCQ.out wr j hjl HGJ.out
        have HMJ := Lib.hid (HMN.out wr j hjl HGJ.out)
        have e1 : (fst.toList == fst.toList) = true := seq_t rfl
        obtain ⟨qj, hqj⟩ : ∃ q, l[j] = q := ⟨_, rfl⟩
        rw [hqj] at c3 HMJ
        have m0 : (0 : Int) ≤ (j : Int) := by omega
        have m1 : (j : Int) < (l.length : Int) := by omega
        clear hqj
        go_wp2_with fail
        refine HMJ.out.mono ?_
        rintro e wM ⟨⟨nm2, rfl⟩, hqM⟩
        have HGM : Hid (Gq wn wM) := hqM
        clear hqM x0 x1 c3 HMJ
        go_wp2_with fail
        go_roundw
        case rel => exact ⟨j + 1, by omega, by go_num, HGM⟩
        case measure => simp [intOf]; omega
end Go.Proofs.YtnlnaglaipjlfaaGreatDoor
