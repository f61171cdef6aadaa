/- The contract of credit.Join. -/
import Derived.Test.YtnlnaglaipjlfaaGreatDoorPplH
import Derived.Test.YtnlnaglaipjlfaaGreatDoorJoinAll
import Derived.Deep.AppendLies
import Derived.Deep.RegionHeld3
import Derived.Deep.DrawnRows
namespace Go.Proofs.YtnlnaglaipjlfaaGreatDoor
open Go.RowKit Go.Dw

set_option maxRecDepth 100000 in
set_option maxHeartbeats 8000000 in
theorem join_any (a b : Peo) (w : World) (ha : PeoOk w a) (hb : PeoOk w b) (na : NilOk a) (nb : NilOk b) (hmx : HasMax w) :
    Calls Tryz.prog 4 #[a.v, b.v] w fun e w' => JoiR a.x b.x w' e ∧ Below w.heap.size w w' := by
  have HOA := Lib.hid ha
  have HOB := Lib.hid hb
  have HCA := Lib.hid (fun (W : World) (hW : Below w.heap.size w W) => people_any a W (ha.below hW) (hmx.below hW))
  have HCB := Lib.hid (fun (W : World) (hW : Below w.heap.size w W) => people_any b W (hb.below hW) (hmx.below hW))
  have HCX := Lib.hid (fun (x : Peo) (W : World) (hx : PeoOk W x) (hW : Below w.heap.size w W) => people_any x W hx (hmx.below hW))
  obtain ⟨pa, hpa⟩ : ∃ pa, a.x = pa := ⟨_, rfl⟩
  obtain ⟨pb, hpb⟩ : ∃ pb, b.x = pb := ⟨_, rfl⟩
  have HPA : Hid (pa = ⟨a.p.xs.map Psn.x, a.c.xs⟩) := hpa.symm
  have HPB : Hid (pb = ⟨b.p.xs.map Psn.x, b.c.xs⟩) := hpb.symm
  rw [hpa] at HCA ⊢
  rw [hpb] at HCB ⊢
  have HNA := Lib.hid na
  have HNB := Lib.hid nb
  obtain ⟨⟨A1, c1, L1⟩, ⟨A2, c2, M1⟩⟩ := a
  obtain ⟨⟨B1, d1, L2⟩, ⟨B2, d2, M2⟩⟩ := b
  have hl1 : L1.length ≤ 9223372036854775807 := ha.pl
  have hl2 : L2.length ≤ 9223372036854775807 := hb.pl
  clear ha hb hmx na nb hpa hpb
  unfold Peo.v at *
  simp only [Slc.v] at *
  obtain ⟨w0, hw0⟩ : ∃ w0, w0 = ((w.alloc (.cells #[.slice A1 L1.length c1, .slice A2 M1.length c2] 25)).alloc (.cells #[.slice B1 L2.length d1, .slice B2 M2.length d2] 25)).alloc (.cells #[.slice none 0 0, .slice none 0 0] 25) := ⟨_, rfl⟩
  have HB0 : Hid (Below w.heap.size w w0) := by rw [hw0]; exact (((Below.refl _ _).alloc (Nat.le_refl _) _).alloc (by simp) _).alloc (by simp; omega) _
  have hz0 : w0.heap.size = w.heap.size + 3 := by rw [hw0]; simp
  have HK : Hid (Blk w0 w.heap.size 25 [.slice A1 L1.length c1, .slice A2 M1.length c2] ∧ Blk w0 (w.heap.size + 1) 25 [.slice B1 L2.length d1, .slice B2 M2.length d2] ∧ Blk w0 (w.heap.size + 2) 25 [.slice none 0 0, .slice none 0 0]) := by
    have k1 := Blk.new w 25 [.slice A1 L1.length c1, .slice A2 M1.length c2]
    have k2 := Blk.new (w.alloc (.cells #[.slice A1 L1.length c1, .slice A2 M1.length c2] 25)) 25 [.slice B1 L2.length d1, .slice B2 M2.length d2]
    have k3 := Blk.new ((w.alloc (.cells #[.slice A1 L1.length c1, .slice A2 M1.length c2] 25)).alloc (.cells #[.slice B1 L2.length d1, .slice B2 M2.length d2] 25)) 25 [.slice none 0 0, .slice none 0 0]
    have e2 : (w.alloc (.cells #[.slice A1 L1.length c1, .slice A2 M1.length c2] 25)).heap.size = w.heap.size + 1 := by simp
    have e3 : ((w.alloc (.cells #[.slice A1 L1.length c1, .slice A2 M1.length c2] 25)).alloc (.cells #[.slice B1 L2.length d1, .slice B2 M2.length d2] 25)).heap.size = w.heap.size + 2 := by simp
    rw [e2] at k2
    rw [e3] at k3
    rw [hw0]
    exact ⟨blkGq (blkGq k1 ((Gq.refl _).alloc _)) ((Gq.refl _).alloc _), blkGq k2 ((Gq.refl _).alloc _), k3⟩
  have HW0 := Lib.hid hw0
  have HBK : Hid (∀ W, Gq w0 W → Below w.heap.size w W ∧ Blk W w.heap.size 25 [.slice A1 L1.length c1, .slice A2 M1.length c2] ∧ Blk W (w.heap.size + 1) 25 [.slice B1 L2.length d1, .slice B2 M2.length d2] ∧ Blk W (w.heap.size + 2) 25 [.slice none 0 0, .slice none 0 0]) := fun W hW =>
    ⟨HB0.out.trans (Below.mono hW HB0.out.size), blkGq HK.out.1 hW, blkGq HK.out.2.1 hW, blkGq HK.out.2.2 hW⟩
  obtain ⟨fa, hfa⟩ : ∃ f, peoF pa = f := ⟨_, rfl⟩
  obtain ⟨fb, hfb⟩ : ∃ f, peoF pb = f := ⟨_, rfl⟩
  have HFA := Lib.hid hfa
  have HFB := Lib.hid hfb
  simp only [hfa] at HCA
  simp only [hfb] at HCB
  have HC0 := Lib.hid (HCA.out w0 HB0.out)
  have x0 : w0.cell? ⟨w.heap.size, 0, none⟩ = some (.slice A1 L1.length c1) := HK.out.1.cell 0
  have x1 : w0.cell? ⟨w.heap.size, 1, none⟩ = some (.slice A2 M1.length c2) := HK.out.1.cell 1
  clear hw0 hfa hfb HK
  go_enter Tryz.func4, Tryz.ntmps4
  go_upto_region 1 with (fail)
  rw [← HW0.out]
  go_wp2_with fail
  refine HC0.out.mono ?_
  rintro e w1 ⟨rfl, hq1⟩
  have HG1 : Hid (Gq w0 w1) := hq1
  clear hq1 x0 x1
  by_cases hfa0 : fa = 0
  case neg =>
    obtain ⟨r0, r1, f0, f1, f2, r2, s0, s1⟩ := res2 (HBK.out w1 HG1.out).2.2.2 (.slice none 0 0) (.slice none 0 0)
    have HE : Hid (JoiR pa pb ((w1.setCell ⟨w.heap.size + 2, 0, none⟩ (.slice none 0 0)).setCell ⟨w.heap.size + 2, 1, none⟩ (.slice none 0 0)) (.returned (.tuple #[.agg #[.slice none 0 0, .slice none 0 0], .int .i64 fa]))) := by
      have := JoiR.badA (a := pa) (b := pb) (w' := (w1.setCell ⟨w.heap.size + 2, 0, none⟩ (.slice none 0 0)).setCell ⟨w.heap.size + 2, 1, none⟩ (.slice none 0 0)) (by rw [HFA.out]; exact hfa0)
      rw [HFA.out] at this; exact this
    have HBW := Lib.hid (HBK.out w1 HG1.out).1
    go_wp2_with fail
    refine bodyPost_ret (v := .tuple #[.agg #[.slice none 0 0, .slice none 0 0], .int .i64 fa]) (by simp [results, Tryz.results4, go_sem, s0, s1]) rfl ⟨HE.out, (HBW.out.setCell (p := ⟨w.heap.size + 2, 0, none⟩) (Nat.le_add_right w.heap.size 2) _).setCell (p := ⟨w.heap.size + 2, 1, none⟩) (Nat.le_add_right w.heap.size 2) _⟩
  subst hfa0
  have y0 : w1.cell? ⟨w.heap.size + 1, 0, none⟩ = some (.slice B1 L2.length d1) := (HBK.out w1 HG1.out).2.2.1.cell 0
  have y1 : w1.cell? ⟨w.heap.size + 1, 1, none⟩ = some (.slice B2 M2.length d2) := (HBK.out w1 HG1.out).2.2.1.cell 1
  have HC1 := Lib.hid (HCB.out w1 (HBK.out w1 HG1.out).1)
  go_wp2_with fail
  refine HC1.out.mono ?_
  rintro e w2 ⟨rfl, hq2⟩
  have HG2 : Hid (Gq w0 w2) := Below.trans HG1.out (Below.mono hq2 (Below.size HG1.out))
  clear hq2 y0 y1 HC1
  by_cases hfb0 : fb = 0
  case neg =>
    obtain ⟨r0, r1, f0, f1, f2, r2, s0, s1⟩ := res2 (HBK.out w2 HG2.out).2.2.2 (.slice none 0 0) (.slice none 0 0)
    have HE : Hid (JoiR pa pb ((w2.setCell ⟨w.heap.size + 2, 0, none⟩ (.slice none 0 0)).setCell ⟨w.heap.size + 2, 1, none⟩ (.slice none 0 0)) (.returned (.tuple #[.agg #[.slice none 0 0, .slice none 0 0], .int .i64 fb]))) := by
      have := JoiR.badB (a := pa) (b := pb) (w' := (w2.setCell ⟨w.heap.size + 2, 0, none⟩ (.slice none 0 0)).setCell ⟨w.heap.size + 2, 1, none⟩ (.slice none 0 0)) HFA.out (by rw [HFB.out]; exact hfb0)
      rw [HFB.out] at this; exact this
    have HBW := Lib.hid (HBK.out w2 HG2.out).1
    go_wp2_with fail
    refine bodyPost_ret (v := .tuple #[.agg #[.slice none 0 0, .slice none 0 0], .int .i64 fb]) (by simp [results, Tryz.results4, go_sem, s0, s1]) rfl ⟨HE.out, (HBW.out.setCell (p := ⟨w.heap.size + 2, 0, none⟩) (Nat.le_add_right w.heap.size 2) _).setCell (p := ⟨w.heap.size + 2, 1, none⟩) (Nat.le_add_right w.heap.size 2) _⟩
  subst hfb0
  have HPA0 := Lib.hid (pplR_of HFA.out)
  have HPB0 := Lib.hid (pplR_of HFB.out)
  have hn1 : L1.length ≤ 100 := by have := HPA0.out.n; rw [HPA.out] at this; simpa using this
  have hn2 : L2.length ≤ 100 := by have := HPB0.out.n; rw [HPB.out] at this; simpa using this
  obtain ⟨w4, hw4⟩ : ∃ w4, w4 = (w2.alloc (.cells #[.slice none 0 0, .slice none 0 0] 25)).alloc (.cells #[.slice A1 L1.length c1, .slice B1 L2.length d1] 22) := ⟨_, rfl⟩
  have hz4 : w4.heap.size = w2.heap.size + 2 := by rw [hw4]; simp
  have hzw : w.heap.size + 3 ≤ w2.heap.size := by have := Below.size HG2.out; omega
  have HG4 : Hid (Gq w2 w4) := by rw [hw4]; exact ((Gq.refl _).alloc _).alloc _
  have HK4 : Hid (Blk w4 w2.heap.size 25 [.slice none 0 0, .slice none 0 0] ∧ Blk w4 (w2.heap.size + 1) 22 [.slice A1 L1.length c1, .slice B1 L2.length d1]) := by
    have k1 := Blk.new w2 25 [.slice none 0 0, .slice none 0 0]
    have k2 := Blk.new (w2.alloc (.cells #[.slice none 0 0, .slice none 0 0] 25)) 22 [.slice A1 L1.length c1, .slice B1 L2.length d1]
    have e2 : (w2.alloc (.cells #[.slice none 0 0, .slice none 0 0] 25)).heap.size = w2.heap.size + 1 := by simp
    rw [e2] at k2
    rw [hw4]
    exact ⟨blkGq k1 ((Gq.refl _).alloc _), k2⟩
  have HGW : Hid (Gq w0 w4) := Below.trans HG2.out (Below.mono HG4.out (Below.size HG2.out))
  have HBW4 := Lib.hid (HBK.out w4 HGW.out)
  have HCAT := Lib.hid (concatPs_any (w2.heap.size + 1) 2 2 [⟨A1, c1, L1⟩, ⟨B1, d1, L2⟩] w4 HK4.out.2 (fun s hs => by
    simp only [List.mem_cons, List.not_mem_nil, or_false] at hs
    rcases hs with rfl | rfl
    · exact ⟨HOA.out.pr.below HBW4.out.1, HNA.out.1⟩
    · exact ⟨HOB.out.pr.below HBW4.out.1, HNB.out.1⟩) rfl (by simp; omega) (by simp))
  have x0 : (w2.alloc (.cells #[.slice none 0 0, .slice none 0 0] 25)).cell? ⟨w.heap.size, 0, none⟩ = some (.slice A1 L1.length c1) := (blkGq (HBK.out w2 HG2.out).2.1 ((Gq.refl _).alloc _)).cell 0
  have x1 : (w2.alloc (.cells #[.slice none 0 0, .slice none 0 0] 25)).cell? ⟨w.heap.size + 1, 0, none⟩ = some (.slice B1 L2.length d1) := (blkGq (HBK.out w2 HG2.out).2.2.1 ((Gq.refl _).alloc _)).cell 0
  have HW4 := Lib.hid hw4
  clear hw4
  go_wp2_with fail
  rw [← HW4.out]
  refine HCAT.out.mono ?_
  rintro e w5 ⟨v5, rfl, hown5, hb5⟩
  obtain ⟨AC, cC, rfl⟩ := slice_of_own hown5
  have hlc : ([(⟨A1, c1, L1⟩ : Slc Psn), ⟨B1, d1, L2⟩].flatMap Slc.xs) = L1 ++ L2 := by simp
  rw [hlc] at hown5 ⊢
  obtain ⟨LC, hLC⟩ : ∃ LC, LC = L1 ++ L2 := ⟨_, rfl⟩
  have HLC := Lib.hid hLC
  rw [← hLC] at hown5 ⊢
  have hln : LC.length ≤ 200 := by rw [hLC]; simp; omega
  have HOKL : Hid (∀ y ∈ LC, PsnOk w y) := fun y hy => by
    rw [HLC.out] at hy
    rcases List.mem_append.1 hy with h | h
    · exact HOA.out.po y h
    · exact HOB.out.po y h
  have HRC := Lib.hid (Rd.of_own hown5)
  have HAC : Hid (∀ b off, AC = some ⟨b, off, none⟩ → w4.heap.size ≤ b) := fun b off e => by
    subst e
    rcases hown5.2 with ⟨h0, _⟩ | ⟨g, cap, cur, hv, hb, _⟩
    · injection h0 with h0; cases h0
    · injection hv with e1; injection e1 with e1; injection e1 with e1; omega
  have HG5 : Hid (Gq w2 w5) := Below.trans HG4.out (Below.mono hb5 (Below.size HG4.out))
  have HK5 : Hid (Blk w5 w2.heap.size 25 [.slice none 0 0, .slice none 0 0]) := blkGq HK4.out.1 hb5
  have hz5 : w4.heap.size ≤ w5.heap.size := hb5.size
  clear hown5 hb5 hlc hLC x0 x1 HCAT HW4
  go_wp2_with fail
  have HNM : Hid (∀ y ∈ LC, y.s.xs.length ≤ 10) := fun y hy => by
    have key : ∀ {ps : List Psp}, PsR ps → ∀ x ∈ ps, x.ns.length ≤ 10 := fun h x hx => by
      obtain ⟨i, hi, rfl⟩ := List.getElem_of_mem hx
      exact nms_le (h.nms i hi)
    rw [HLC.out] at hy
    rcases List.mem_append.1 hy with h | h
    · exact key HPA0.out.ps y.x (by rw [HPA.out]; exact List.mem_map.2 ⟨y, h, rfl⟩)
    · exact key HPB0.out.ps y.x (by rw [HPB.out]; exact List.mem_map.2 ⟨y, h, rfl⟩)
  go_loopw [38] (fun kv wr => ∃ k : Nat, k ≤ LC.length ∧ kv = .int .i64 (k : Int) ∧ Hid (JI LC w2 w5 k wr)) (fun kv _ => LC.length - (intOf kv).toNat)
  case atStart => exact ⟨0, Nat.zero_le _, rfl, (⟨[], none, 0, Nat.le_refl _, by simp, rfl, GP.nil _ _ _ _, HK5.out, Same.refl _ _, HG5.out⟩ : JI LC w2 w5 0 w5)⟩
  case round =>
    obtain ⟨k, hk, rfl, HJI⟩ := hrel
    obtain ⟨R, AO, cO, hRk, hRn, hR, hGP, hKO, hSM, hGQ⟩ := HJI.out
    have HRN := Lib.hid hRn
    have HR := Lib.hid hR
    have HGP := Lib.hid hGP
    have HKO := Lib.hid hKO
    have HSM := Lib.hid hSM
    have HGQ : Hid (Gq w2 wr) := hGQ
    clear hRn hR hGP hKO hSM hGQ HJI
    by_cases hlt : k < LC.length
    case neg =>
      have hd1 : decide (k < LC.length) = false := by simpa using hlt
      have hkL : k = LC.length := by omega
      subst hkL
      have HRX : Hid (R.map Psn.x = (LC.map Psn.x).foldl putR []) := by
        show _ = _
        have := HR.out
        rwa [List.take_length] at this
      have hRl : R.length ≤ 200 := by omega
      have HRN2 : Hid (∀ r ∈ R, r.s.xs.length ≤ 2000) := fun r hr => by have := HRN.out r hr; omega
      have hm1 : M1.length ≤ 200 := by have := HPA0.out.m; rw [HPA.out] at this; simpa using this
      have hm2 : M2.length ≤ 200 := by have := HPB0.out.m; rw [HPB.out] at this; simpa using this
      have HG06 : Hid (Gq w0 wr) := Below.trans HG2.out (Below.mono HGQ.out (Below.size HG2.out))
      have x0 : wr.cell? ⟨w.heap.size, 1, none⟩ = some (.slice A2 M1.length c2) := (HBK.out wr HG06.out).2.1.cell 1
      have x1 : wr.cell? ⟨w.heap.size + 1, 1, none⟩ = some (.slice B2 M2.length d2) := (HBK.out wr HG06.out).2.2.1.cell 1
      obtain ⟨w6, hw6⟩ : ∃ w6, w6 = wr.alloc (.cells #[.slice A2 M1.length c2, .slice B2 M2.length d2] 23) := ⟨_, rfl⟩
      have hz6 : w6.heap.size = wr.heap.size + 1 := by rw [hw6]; simp
      have HG6 : Hid (Gq wr w6) := by rw [hw6]; exact (Gq.refl _).alloc _
      have HK6 : Hid (Blk w6 wr.heap.size 23 [.slice A2 M1.length c2, .slice B2 M2.length d2]) := by rw [hw6]; exact Blk.new wr _ _
      have HBW6 := Lib.hid (HBK.out w6 (Below.trans HG06.out (Below.mono HG6.out (Below.size HG06.out)))).1
      have HCAT := Lib.hid (concatCl_any wr.heap.size 2 2 [⟨A2, c2, M1⟩, ⟨B2, d2, M2⟩] w6 HK6.out (fun s hs => by
        simp only [List.mem_cons, List.not_mem_nil, or_false] at hs
        rcases hs with rfl | rfl
        · exact ⟨HOA.out.cr.below HBW6.out, HNA.out.2⟩
        · exact ⟨HOB.out.cr.below HBW6.out, HNB.out.2⟩) rfl (by simp; omega) (by simp))
      have hz5r : w5.heap.size ≤ wr.heap.size := HSM.out.1
      have HW6 := Lib.hid hw6
      clear hw6 hlt HSM HR HRN HRC HAC HNM HBW6
      go_wp2_with fail
      rw [← HW6.out]
      refine HCAT.out.mono ?_
      rintro e w7 ⟨v7, rfl, hown7, hb7⟩
      obtain ⟨AM, cM, rfl⟩ := slice_of_own hown7
      have hlm : ([(⟨A2, c2, M1⟩ : Slc Clm), ⟨B2, d2, M2⟩].flatMap Slc.xs) = M1 ++ M2 := by simp
      rw [hlm] at hown7 ⊢
      obtain ⟨MC, hMC⟩ : ∃ MC, MC = M1 ++ M2 := ⟨_, rfl⟩
      have HMC := Lib.hid hMC
      rw [← hMC] at hown7 ⊢
      have hmn : MC.length ≤ 400 := by rw [hMC]; simp; omega
      have HRM := Lib.hid (Rd.of_own hown7)
      have HAM : Hid (∀ b off, AM = some ⟨b, off, none⟩ → w6.heap.size ≤ b) := fun b off e => by
        subst e
        rcases hown7.2 with ⟨h0, _⟩ | ⟨g, cap, cur, hv, hb, _⟩
        · injection h0 with h0; cases h0
        · injection hv with e1; injection e1 with e1; injection e1 with e1; omega
      have HG7 : Hid (Gq wr w7) := Below.trans HG6.out (Below.mono hb7 (Below.size HG6.out))
      have HK7 : Hid (Blk w7 w2.heap.size 25 [.slice AO R.length cO, .slice none 0 0]) := blkGq HKO.out HG7.out
      have HGP7 := Lib.hid (HGP.out.below HG7.out)
      have hz7 : wr.heap.size + 1 ≤ w7.heap.size := by have := hb7.size; omega
      have HG27 : Hid (Gq w2 w7) := Below.trans HGQ.out (Below.mono HG7.out (Below.size HGQ.out))
      have HG07 : Hid (Gq w0 w7) := Below.trans HG2.out (Below.mono HG27.out (Below.size HG2.out))
      have HAM2 : Hid (∀ b off, AM = some ⟨b, off, none⟩ → w2.heap.size < b) := fun b off e => by have := HAM.out b off e; omega
      have h27 : w2.heap.size + 2 < w7.heap.size := by omega
      have h5w7 : w5.heap.size ≤ w7.heap.size := by omega
      have HRB : Hid (∀ W, w7.grownBy W (some w2.heap.size) → Below w.heap.size w W ∧ Blk W (w.heap.size + 2) 25 [.slice none 0 0, .slice none 0 0]) := fun W hW =>
        ⟨Below.grown (HBK.out w7 HG07.out).1 hW (HBK.out w7 HG07.out).1.size (fun b hb => by injection hb with hb; omega), blk_grown (HBK.out w7 HG07.out).2.2.2 hW (fun e => by injection e with e; omega)⟩
      clear hown7 hb7 hlm hMC x0 x1 HCAT HW6 HGP HKO HG7 HG6 HK6 HG06 HGQ HAM hz7 hz6 hz5r
      go_wp2_with fail
      go_loopw [96] (fun kv wx => ∃ j : Nat, j ≤ MC.length ∧ kv = .int .i64 (j : Int) ∧ Hid (JC MC (.slice AO R.length cO) w2.heap.size w7 j wx)) (fun kv _ => MC.length - (intOf kv).toNat)
      case atStart => exact ⟨0, Nat.zero_le _, rfl, jc_start HK7.out⟩
      case round =>
        clear HK7
        obtain ⟨j, hj, rfl, HJC⟩ := hrel
        obtain ⟨C, A, c, hC1, hC2, hC3, hC4, hC5, hC6⟩ := HJC.out
        have HC2 := Lib.hid hC2
        have HC3 := Lib.hid hC3
        have HC4 := Lib.hid hC4
        have HC5 := Lib.hid hC5
        have HC6 := Lib.hid hC6
        clear hC2 hC3 hC4 hC5 hC6
        by_cases hjl : j < MC.length
        case neg =>
          have hdj : decide (j < MC.length) = false := by simpa using hjl
          have hjM : j = MC.length := by omega
          subst hjM
          have HCX2 : Hid (C = MC.foldl putC []) := by
            show _ = _
            have := HC2.out
            rwa [List.take_length] at this
          have HCB : Hid (badC [] MC = false) := by
            show _ = _
            have := HC3.out
            rwa [List.take_length] at this
          have HGE : Hid (GP 41 9 wr w5.heap.size (.slice AO R.length cO) R) := GP.keep HGP7.out HC6.out
            (fun b hb e => by have := (HGP7.out.o.lt b hb).1; injection e with e; omega) (fun i hi b hb e => by have := ((HGP7.out.r i hi).lt b hb).1; injection e with e; omega)
          have HS1 := Lib.hid (sortPs_any w5.heap.size AO R.length cO R wr HGE.out.o rfl (by omega))
          have o0 : wr.cell? ⟨w2.heap.size, 0, none⟩ = some (.slice AO R.length cO) := HC5.out.cell 0
          have hCl : C.length ≤ 400 := by omega
          clear HC2 HC3 hjl HRM HAM2 HJC
          unfold SrtG at HS1
          go_wp2_with fail
          refine HS1.out.mono ?_
          rintro e w8 ⟨rfl, R', hp1, hs1, hr1, hg1⟩
          have HP1 := Lib.hid hp1
          have HO1 := Lib.hid hs1
          have HR1 := Lib.hid hr1
          have HV1 := Lib.hid hg1
          have HPO : Hid (∀ b, (Value.slice AO R.length cO).ownBlock = some b → w5.heap.size ≤ b ∧ b < w7.heap.size) := fun b hb => HGP7.out.o.lt b hb
          have HCO : Hid (∀ b, (Value.slice A C.length c).ownBlock = some b → w7.heap.size ≤ b) := fun b hb => (HC4.out.lt b hb).1
          have H48 : Hid (w8.ownsRow w7.heap.size 49 3 (.slice A C.length c) C.length (C.flatMap Clm.cs)) := own_keep HC4.out HV1.out (fun b hb e => by have := HCO.out b hb; have := (HPO.out b e).2; omega)
          have HB8 := Lib.hid (blk_grown HC5.out HV1.out (fun e => by have := (HPO.out _ e.symm).1; omega))
          have HS2 := Lib.hid (sortCl_any w7.heap.size A C.length c C w8 H48.out rfl (by omega))
          clear hp1 hs1 hr1 hg1 o0 HS1
          have o1 : w8.cell? ⟨w2.heap.size, 1, none⟩ = some (.slice A C.length c) := HB8.out.cell 1
          unfold SrtG at HS2
          go_wp2_with fail
          refine HS2.out.mono ?_
          rintro e w9 ⟨rfl, C', hp2, hs2, hr2, hg2⟩
          have HP2 := Lib.hid hp2
          have HO2 := Lib.hid hs2
          have HR2 := Lib.hid hr2
          have HV2 := Lib.hid hg2
          have HB9 := Lib.hid (blk_grown HB8.out HV2.out (fun e => by have := HCO.out _ e.symm; omega))
          clear hp2 hs2 hr2 hg2 o1 HS2 HB8
          have o0 : w9.cell? ⟨w2.heap.size, 0, none⟩ = some (.slice AO R.length cO) := HB9.out.cell 0
          have o1 : w9.cell? ⟨w2.heap.size, 1, none⟩ = some (.slice A C.length c) := HB9.out.cell 1
          have HOKX : Hid (∀ (W : World) (gg : Nat), w9.grownBy W (some gg) → gg < w5.heap.size → PeoOk W ⟨⟨AO, cO, R'⟩, ⟨A, c, C'⟩⟩) := fun W gg hW hgg =>
            joi_end HGP7.out HRX.out HRN2.out hRl (fun y hy => ⟨(HOKL.out y hy).1.1, (HOKL.out y hy).2.2.2⟩) (fun y hy => by
              rw [HMC.out] at hy
              rcases List.mem_append.1 hy with h | h
              · exact HOA.out.co y h
              · exact HOB.out.co y h) (by omega) HCX2.out (by omega) HC4.out HC6.out HP1.out HR1.out HV1.out HP2.out HR2.out HV2.out hW hgg h5w7
          have HR9 : Hid (Below w.heap.size w w9 ∧ Blk w9 (w.heap.size + 2) 25 [.slice none 0 0, .slice none 0 0]) := by
            obtain ⟨k1, k2⟩ := HRB.out wr HC6.out
            have k3 := Below.grown k1 HV1.out k1.size (fun b hb => by have := (HPO.out b hb).1; omega)
            have k4 := blk_grown k2 HV1.out (fun e => by have := (HPO.out _ e.symm).1; omega)
            exact ⟨Below.grown k3 HV2.out k3.size (fun b hb => by have := HCO.out b hb; omega), blk_grown k4 HV2.out (fun e => by have := HCO.out _ e.symm; omega)⟩
          have hl1 : R'.length = R.length := HP1.out.length_eq
          have hl2 : C'.length = C.length := HP2.out.length_eq
          have HCK := Lib.hid (HCX.out ⟨⟨AO, cO, R'⟩, ⟨A, c, C'⟩⟩ w9 (HOKX.out w9 w2.heap.size (World.grownBy.refl _ _) (by omega)) HR9.out.1)
          have HXE : Hid (∀ x : Peo, x = ⟨⟨AO, cO, R'⟩, ⟨A, c, C'⟩⟩ → x.x.ps.Perm (joiP pa.ps pb.ps) ∧ x.x.cs.Perm (joiC pa.cs pb.cs) ∧ (x.x.ps.Pairwise fun x y => decide (sLt y.id x.id) = false) ∧ (x.x.cs.Pairwise fun x y => clLt y x = false)) := fun x hx => by
            subst hx
            refine ⟨?_, ?_, ?_, ?_⟩
            · have h1 := HP1.out.map Psn.x
              rw [HRX.out, HLC.out] at h1
              rw [HPA.out, HPB.out]
              show (R'.map Psn.x).Perm ((L1.map Psn.x ++ L2.map Psn.x).foldl putR [])
              rw [← List.map_append]; exact h1
            · have h1 := HP2.out
              rw [HCX2.out, HMC.out] at h1
              rw [HPA.out, HPB.out]; exact h1
            · show (R'.map Psn.x).Pairwise _
              rw [List.pairwise_map]
              exact HO1.out.imp fun h => by rw [ltOf_cfN] at h; exact h
            · exact HO2.out.imp fun h => by rw [ltOf_cmpC] at h; exact h
          obtain ⟨fx, hfx⟩ : ∃ f, peoF (Peo.x ⟨⟨AO, cO, R'⟩, ⟨A, c, C'⟩⟩) = f := ⟨_, rfl⟩
          have HFX := Lib.hid hfx
          rw [hfx] at HCK
          simp only [hl1, hl2] at HCK
          clear hfx HC4 HC5 HC6 HGE H48
          go_wp2_with fail
          refine HCK.out.mono ?_
          rintro e w10 ⟨rfl, hq10⟩
          have HG10 : Hid (Gq w9 w10) := hq10
          have HR10 : Hid (Below w.heap.size w w10 ∧ Blk w10 (w.heap.size + 2) 25 [.slice none 0 0, .slice none 0 0]) := ⟨HR9.out.1.trans (hq10.mono HR9.out.1.size), blkGq HR9.out.2 hq10⟩
          have HB10 := Lib.hid (blkGq HB9.out hq10)
          clear hq10 o0 o1 HCK
          by_cases hfx0 : fx = 0
          case neg =>
            obtain ⟨r0, r1, f0, f1, f2, r2, s0, s1⟩ := res2 HR10.out.2 (.slice none 0 0) (.slice none 0 0)
            have HE : Hid (JoiR pa pb ((w10.setCell ⟨w.heap.size + 2, 0, none⟩ (.slice none 0 0)).setCell ⟨w.heap.size + 2, 1, none⟩ (.slice none 0 0)) (.returned (.tuple #[.agg #[.slice none 0 0, .slice none 0 0], .int .i64 fx]))) := by
              obtain ⟨q1, q2, q3, q4⟩ := HXE.out _ rfl
              have := JoiR.badR (a := pa) (b := pb) (w' := (w10.setCell ⟨w.heap.size + 2, 0, none⟩ (.slice none 0 0)).setCell ⟨w.heap.size + 2, 1, none⟩ (.slice none 0 0)) HFA.out HFB.out (by rw [HPA.out, HPB.out]; show badC [] (M1 ++ M2) = false; rw [← HMC.out]; exact HCB.out) _ _ q1 q2 q3 q4 (by
                show peoF (Peo.x ⟨⟨AO, cO, R'⟩, ⟨A, c, C'⟩⟩) ≠ 0
                rw [HFX.out]; exact hfx0)
              have e9 : peoF ⟨(Peo.x ⟨⟨AO, cO, R'⟩, ⟨A, c, C'⟩⟩).ps, (Peo.x ⟨⟨AO, cO, R'⟩, ⟨A, c, C'⟩⟩).cs⟩ = fx := HFX.out
              rw [e9] at this
              exact this
            go_wp2_with fail
            refine bodyPost_ret (v := .tuple #[.agg #[.slice none 0 0, .slice none 0 0], .int .i64 fx]) (by simp [results, Tryz.results4, go_sem, s0, s1]) rfl ⟨HE.out, (HR10.out.1.setCell (p := ⟨w.heap.size + 2, 0, none⟩) (Nat.le_add_right w.heap.size 2) _).setCell (p := ⟨w.heap.size + 2, 1, none⟩) (Nat.le_add_right w.heap.size 2) _⟩
          subst hfx0
          obtain ⟨r0, r1, f0, f1, f2, r2, s0, s1⟩ := res2 HR10.out.2 (.slice AO R.length cO) (.slice A C.length c)
          have o0 : w10.cell? ⟨w2.heap.size, 0, none⟩ = some (.slice AO R.length cO) := HB10.out.cell 0
          have o1 : w10.cell? ⟨w2.heap.size, 1, none⟩ = some (.slice A C.length c) := HB10.out.cell 1
          have HE : Hid (JoiR pa pb ((w10.setCell ⟨w.heap.size + 2, 0, none⟩ (.slice AO R.length cO)).setCell ⟨w.heap.size + 2, 1, none⟩ (.slice A C.length c)) (.returned (.tuple #[.agg #[.slice AO R.length cO, .slice A C.length c], .int .i64 0]))) := by
            obtain ⟨q1, q2, q3, q4⟩ := HXE.out _ rfl
            have h9 : w9.grownBy ((w10.setCell ⟨w.heap.size + 2, 0, none⟩ (.slice AO R.length cO)).setCell ⟨w.heap.size + 2, 1, none⟩ (.slice A C.length c)) (some (w.heap.size + 2)) :=
              ((grown_gq HG10.out _).trans (grown_set w10 (w.heap.size + 2) 0 _)).trans (grown_set _ (w.heap.size + 2) 1 _)
            have := JoiR.ok (a := pa) (b := pb) HFA.out HFB.out (by rw [HPA.out, HPB.out]; show badC [] (M1 ++ M2) = false; rw [← HMC.out]; exact HCB.out) ⟨⟨AO, cO, R'⟩, ⟨A, c, C'⟩⟩ q1 q2 q3 q4 HFX.out (HOKX.out _ _ h9 (by omega))
            unfold joiV Peo.v at this
            simp only [Slc.v] at this
            rw [hl1, hl2] at this
            exact this
          go_wp2_with fail
          refine bodyPost_ret (v := .tuple #[.agg #[.slice AO R.length cO, .slice A C.length c], .int .i64 0]) (by simp [results, Tryz.results4, go_sem, s0, s1]) rfl ⟨HE.out, (HR10.out.1.setCell (p := ⟨w.heap.size + 2, 0, none⟩) (Nat.le_add_right w.heap.size 2) _).setCell (p := ⟨w.heap.size + 2, 1, none⟩) (Nat.le_add_right w.heap.size 2) _⟩
        have hdj : decide (j < MC.length) = true := by simpa using hjl
        obtain ⟨bM, oM, rfl, hbM, hcs⟩ := clm_at HRM.out (by omega)
        have hbn : bM ≠ w2.heap.size := by have := HAM2.out _ _ rfl; omega
        obtain ⟨e0, e1, e2⟩ := hcs j hjl
        have hsame : ∀ i, wr.cell? ⟨bM, i, none⟩ = w7.cell? ⟨bM, i, none⟩ := fun i => HC6.out.cell_far ⟨bM, i, none⟩ hbM (fun e => by injection e with e; exact hbn e)
        rw [← hsame] at e0 e1 e2
        clear hcs hsame
        obtain ⟨m, hm⟩ : ∃ m, MC[j] = m := ⟨_, rfl⟩
        rw [hm] at e0 e1 e2
        have HMJ := Lib.hid hm
        clear hm
        obtain ⟨ma, mb, ms⟩ := m
        simp only at e0 e1 e2
        obtain ⟨wB, hwB⟩ : ∃ wB, wB = wr.alloc (.cells #[.string ma, .string mb, .bool ms] 49) := ⟨_, rfl⟩
        have hzB : wB.heap.size = wr.heap.size + 1 := by rw [hwB]; simp
        have HGB : Hid (Gq wr wB) := by rw [hwB]; exact (Gq.refl _).alloc _
        have HKB : Hid (Blk wB wr.heap.size 49 [.string ma, .string mb, .bool ms]) := by rw [hwB]; exact Blk.new wr _ _
        have HOB2 := Lib.hid (blkGq HC5.out HGB.out)
        have o1 : wB.cell? ⟨w2.heap.size, 1, none⟩ = some (.slice A C.length c) := HOB2.out.cell 1
        have hCl : C.length ≤ 400 := by omega
        have HIX := Lib.hid (idxK_any A c C ⟨ma, mb, ms⟩ wr.heap.size wB (Rd.of_own (own_belowL HC4.out HGB.out)) (by omega) ⟨HKB.out.cell 0, HKB.out.cell 1, HKB.out.cell 2⟩)
        obtain ⟨ix, hix⟩ : ∃ ix, ixC C ⟨ma, mb, ms⟩ = ix := ⟨_, rfl⟩
        have HIXE := Lib.hid hix
        rw [hix] at HIX
        clear hix
        have HWB := Lib.hid hwB
        clear hwB
        go_upto_region 25 with (fail)
        rw [← HWB.out]
        go_wp2_with fail
        refine HIX.out.mono ?_
        rintro e wI ⟨rfl, hbI⟩
        have HGI : Hid (Gq wr wI) := Below.trans HGB.out (Below.mono hbI (Below.size HGB.out))
        have HKI := Lib.hid (blkGq HKB.out hbI)
        have HOI := Lib.hid (blkGq HOB2.out hbI)
        have H4I := Lib.hid (own_belowL HC4.out HGI.out)
        have hzI : wr.heap.size + 1 ≤ wI.heap.size := by have := hbI.size; omega
        clear hbI HIX HOB2 HKB e0 e1 e2 o1
        have i0 : wI.cell? ⟨wr.heap.size, 0, none⟩ = some (.string ma) := HKI.out.cell 0
        have i1 : wI.cell? ⟨wr.heap.size, 1, none⟩ = some (.string mb) := HKI.out.cell 1
        have i2 : wI.cell? ⟨wr.heap.size, 2, none⟩ = some (.bool ms) := HKI.out.cell 2
        have o1 : wI.cell? ⟨w2.heap.size, 1, none⟩ = some (.slice A C.length c) := HOI.out.cell 1
        rcases hasV ix C.length with ⟨e1, e2⟩ | ⟨e1, e2⟩
        case inr =>
          rw [e1]
          obtain ⟨ii, hii, hzi0, hzi1, hzi2⟩ := info_parts info_Cl
          have h7r : w7.heap.size ≤ wr.heap.size := HC6.out.size
          have HPV : Hid (∀ (g8 cap8 : Nat) (w8 : World) (o : Obj), w8.ownsRow w7.heap.size 49 3 (.slice (some ⟨g8, 0, none⟩) (C.length + 1) cap8) (C.length + 1) (C.flatMap Clm.cs ++ [.string ma, .string mb, .bool ms]) → (wI.alloc o).grownBy w8 (Value.slice A C.length c).ownBlock →
              Hid (JC MC (.slice AO R.length cO) w2.heap.size w7 (j + 1) (w8.setCell ⟨w2.heap.size, 1, none⟩ (.slice (some ⟨g8, 0, none⟩) (C.length + 1) cap8))) ∧ w8.cell? ⟨w2.heap.size, 1, none⟩ = some (.slice A C.length c) ∧ w8.frozen? ⟨w2.heap.size, 1, none⟩ = false) := fun g8 cap8 w8 o h1 h2 => by
            have hb8 : Blk w8 w2.heap.size 25 [.slice AO R.length cO, .slice A C.length c] := blk_grown (blkGq HOI.out ((Gq.refl _).alloc o)) h2 (fun e => by have := (HC4.out.lt _ e.symm).1; omega)
            exact ⟨jc_new hC1 HC2.out HC3.out HC4.out HC5.out HC6.out hjl HMJ.out (by rw [HIXE.out]; exact e2) (by omega) HGI.out h1 h2, hb8.cell 1, hb8.frozen 1⟩
          go_upto_region 27 with (fail)
          go_wp2_with (at_builtin; refine wpList_append_lies _ rfl _ _ 23 rfl w7.heap.size 49 ii _ 3 40 Tryz.underlying23 hii hzi0 hzi1 hzi2 rfl (by decide) _ _ _ rfl (World.ownsRow.alloc H4I.out _) ⟨wI.heap.size, 0, none⟩ 1 1 [.string ma, .string mb, .bool ms] (by rfl) (by rfl) (World.news_of_block (cs := #[.string ma, .string mb, .bool ms]) (t := 49) (fr := (0, 0)) (heap_alloc_new wI _)) (by simp [Value.oneCell']) (by decide) (by unfold maxLen; omega) (by omega) (by simp; omega) (wI.heap.size + 1) (by simp) ?_; intro g8 cap8 w8 hown8 hgrow8 hat8 hlt8; obtain ⟨HF8, s80, s81⟩ := HPV.out g8 cap8 w8 _ hown8 hgrow8; clear hown8 hgrow8 hat8 hlt8)
          go_roundw
          case rel => exact ⟨j + 1, by omega, by go_num, HF8⟩
          case measure => simp [intOf]; omega
        case inl =>
          rw [e1]
          obtain ⟨gC, oC, rfl, hgC, hcC⟩ := clm_at (Rd.of_own H4I.out) (by omega)
          obtain ⟨_, _, s0⟩ := hcC ix e2
          obtain ⟨s1, hs1⟩ : ∃ s, C[ix].s = s := ⟨_, rfl⟩
          rw [hs1] at s0
          have HS1 := Lib.hid hs1
          obtain ⟨ne, hne⟩ : ∃ b, (!(s1 == ms)) = b := ⟨_, rfl⟩
          have hz0 : decide ((ix : Int) < 0) = false := decide_eq_false (by omega)
          have hz1 : (0 : Int) ≤ (ix : Int) := by omega
          have hz2 : (ix : Int) < (C.length : Int) := by omega
          have HOT : Hid (oth ((MC.take j).foldl putC []) MC[j] = ne) := by
            show _ = _
            rw [← HC2.out, HMJ.out]
            have hix := HIXE.out
            subst hix
            rw [oth_old e2, HS1.out]; exact hne
          obtain ⟨wJ, hwJ⟩ : ∃ W, W = wI.drew := ⟨_, rfl⟩
          have HGJ : Hid (Gq wr wJ) := by rw [hwJ]; exact HGI.out.drew
          have HWJ := Lib.hid hwJ
          clear hwJ
          have HNX : Hid (ne = false → JC MC (.slice AO R.length cO) w2.heap.size w7 (j + 1) wJ) := fun h =>
            jc_old HJC.out hjl HGJ.out (by rw [HOT.out]; exact h) (by rw [← HC2.out, HMJ.out, HIXE.out]; exact e2)
          have HBAD : Hid (ne = true → badC [] MC = true) := fun h => badC_take (k := j + 1) (by rw [badC_succ _ _ hjl, HOT.out, h]; simp)
          clear hcC hs1
          go_upto_region 28 with (fail)
          go_region
          rw [← HWJ.out]
          have HRI := Lib.hid (HRB.out wJ (HC6.out.trans (grown_gq HGJ.out _)))
          clear HC2 HC3 HC4 HC5 HC6 HOI HKI H4I i0 i1 i2 o1 s0
          cases ne with
          | false =>
            have HF8 := Lib.hid (HNX.out rfl)
            go_wp2_with fail
            go_roundw
            case rel => exact ⟨j + 1, by omega, by go_num, HF8⟩
            case measure => simp [intOf]; omega
          | true =>
            have HB9 := Lib.hid (HBAD.out rfl)
            obtain ⟨r0, r1, f0, f1, f2, r2, s0, s1⟩ := res2 HRI.out.2 (.slice none 0 0) (.slice none 0 0)
            have HE : Hid (JoiR pa pb ((wJ.setCell ⟨w.heap.size + 2, 0, none⟩ (.slice none 0 0)).setCell ⟨w.heap.size + 2, 1, none⟩ (.slice none 0 0)) (.returned (.tuple #[.agg #[.slice none 0 0, .slice none 0 0], .int .i64 12]))) :=
              JoiR.clash HFA.out HFB.out (by rw [HPA.out, HPB.out]; show badC [] (M1 ++ M2) = true; rw [← HMC.out]; exact HB9.out)
            go_wp2_with fail
            refine bodyPost_ret (v := .tuple #[.agg #[.slice none 0 0, .slice none 0 0], .int .i64 12]) (by simp [results, Tryz.results4, go_sem, s0, s1]) rfl ⟨HE.out, (HRI.out.1.setCell (p := ⟨w.heap.size + 2, 0, none⟩) (Nat.le_add_right w.heap.size 2) _).setCell (p := ⟨w.heap.size + 2, 1, none⟩) (Nat.le_add_right w.heap.size 2) _⟩
    have hd1 : decide (k < LC.length) = true := by simpa using hlt
    obtain ⟨bC, oC, rfl, hbC, hcs⟩ := psn_at HRC.out (by omega)
    have hbn : bC ≠ w2.heap.size := by have := HAC.out _ _ rfl; omega
    obtain ⟨d0, d1⟩ := hcs k hlt
    have hsame : ∀ i, wr.cell? ⟨bC, i, none⟩ = w5.cell? ⟨bC, i, none⟩ := fun i => by
      unfold World.cell?
      rw [HSM.out.2 bC hbn hbC]
    rw [← hsame] at d0 d1
    clear hcs hsame
    have HPK := Lib.hid (HOKL.out _ (List.getElem_mem hlt))
    have hq10 := HNM.out _ (List.getElem_mem hlt)
    have HTK : Hid (((LC.take (k + 1)).map Psn.x).foldl putR [] = putR (((LC.take k).map Psn.x).foldl putR []) LC[k].x) := by
      show _ = _
      rw [List.take_succ_eq_append_getElem hlt, List.map_append, List.foldl_append]; rfl
    rw [← HR.out] at HTK
    obtain ⟨pk, hpk⟩ : ∃ p, LC[k] = p := ⟨_, rfl⟩
    rw [hpk] at d0 d1 HPK HTK hq10
    clear hpk
    obtain ⟨qi, ⟨QA, qc, qs⟩⟩ := pk
    simp only at d0 d1 hq10
    obtain ⟨wB, hwB⟩ : ∃ wB, wB = wr.alloc (.cells #[.string qi, .slice QA qs.length qc] 41) := ⟨_, rfl⟩
    have hzB : wB.heap.size = wr.heap.size + 1 := by rw [hwB]; simp
    have HGB : Hid (Gq wr wB) := by rw [hwB]; exact (Gq.refl _).alloc _
    have HKB : Hid (Blk wB wr.heap.size 41 [.string qi, .slice QA qs.length qc]) := by rw [hwB]; exact Blk.new wr _ _
    have HOB2 := Lib.hid (blkGq HKO.out HGB.out)
    have HGPB := Lib.hid (HGP.out.below HGB.out)
    have o0 : wB.cell? ⟨w2.heap.size, 0, none⟩ = some (.slice AO R.length cO) := HOB2.out.cell 0
    have hRl : R.length ≤ 200 := by omega
    have HIX := Lib.hid (idxJ_any AO cO R qi wr.heap.size wB (Rd.of_own HGPB.out.o) (by omega) (HKB.out.cell 0))
    obtain ⟨ix, hix⟩ : ∃ ix, ixP (R.map Psn.x) qi = ix := ⟨_, rfl⟩
    have HIXE := Lib.hid hix
    rw [hix] at HIX
    clear hix
    have HWB := Lib.hid hwB
    clear hwB
    go_upto_region 11 with (fail)
    rw [← HWB.out]
    go_wp2_with fail
    refine HIX.out.mono ?_
    rintro e wI ⟨rfl, hbI⟩
    have HGI : Hid (Gq wr wI) := Below.trans HGB.out (Below.mono hbI (Below.size HGB.out))
    have HKI := Lib.hid (blkGq HKB.out hbI)
    have HOI := Lib.hid (blkGq HOB2.out hbI)
    have HGPI := Lib.hid (HGPB.out.below hbI)
    have hzI : wr.heap.size + 1 ≤ wI.heap.size := by have := hbI.size; omega
    clear hbI HIX HGPB HOB2 HKB d0 d1 o0
    rcases hasV ix R.length with ⟨e1, e2⟩ | ⟨e1, e2⟩
    case inr =>
      rw [e1]
      have i0 : wI.cell? ⟨w2.heap.size, 0, none⟩ = some (.slice AO R.length cO) := HOI.out.cell 0
      have j0 : wI.drew.cell? ⟨w2.heap.size, 0, none⟩ = some (.slice AO R.length cO) := i0
      have hne : w2.heap.size ≠ wr.heap.size := by have := Below.size HGQ.out; have := HSM.out.1; omega
      have HNEW : Hid (∀ b, (Value.slice AO R.length cO).ownBlock = some b → w5.heap.size ≤ b ∧ b < wr.heap.size) := fun b hb => HGP.out.o.lt b hb
      have hz2r : w2.heap.size + 2 ≤ w5.heap.size := by omega
      have hzr5 : w5.heap.size ≤ wr.heap.size := HSM.out.1
      have HKJ : Hid (KJ 41 wr.heap.size wI.heap.size [.string qi, .slice QA qs.length qc] wI) := ⟨HKI.out, Nat.le_refl _⟩
      have HSS : Hid (∀ W, KJ 41 wr.heap.size wI.heap.size [.string qi, .slice QA qs.length qc] W → W.cell? ⟨wr.heap.size, 0, none⟩ = some (.string qi) ∧ W.cell? ⟨wr.heap.size, 1, none⟩ = some (.slice QA qs.length qc) ∧ KJ 41 wr.heap.size wI.heap.size [.string qi, .slice QA qs.length qc] W) := fun W hW => ⟨hW.1.cell 0, hW.1.cell 1, hW⟩
      have HCL : Hid (∀ W, Gq wI W → Calls Tryz.prog 14 #[.slice QA qs.length qc] W fun e W' => ∃ A' c', e = .returned (.slice A' qs.length c') ∧ Hid (W'.ownsRow wI.heap.size 9 1 (.slice A' qs.length c') qs.length (sb qs)) ∧ Hid (Gq wI W') ∧ Hid (Blk W' w2.heap.size 25 [.slice AO R.length cO, .slice none 0 0]) ∧ W'.cell? ⟨w2.heap.size, 0, none⟩ = some (.slice AO R.length cO) ∧ W'.cell? ⟨wr.heap.size, 0, none⟩ = some (.string qi) ∧ W'.cell? ⟨wr.heap.size, 1, none⟩ = some (.slice QA qs.length qc) ∧ KJ 41 wr.heap.size wI.heap.size [.string qi, .slice QA qs.length qc] W' ∧ Hid (W'.ownsRow w5.heap.size 41 2 (.slice AO R.length cO) R.length (R.flatMap Psn.cs)) ∧ wI.heap.size ≤ W'.heap.size) := fun W hW => by
        have hwW : Below w.heap.size w W := ((HBK.out _ (Below.trans HG2.out (Below.mono HGQ.out (Below.size HG2.out)))).1.trans (Below.mono HGI.out (by have := Below.size HGQ.out; omega))).trans (Below.mono hW (by have := Below.size HGQ.out; omega))
        refine (clone_Str QA qs.length qc (sb qs) W (HPK.out.2.2.1.below hwW) (by simp [sb]) (by intro u hu; simp [sb] at hu; obtain ⟨a, _, rfl⟩ := hu; rfl) (by omega)).mono ?_
        rintro e W' ⟨A', c', rfl, ho, hb⟩
        have hg : Gq wI W' := Below.trans hW (Below.mono hb (Below.size hW))
        exact ⟨A', c', rfl, own_base ho (Below.size hW), hg, blkGq HOI.out hg, (blkGq HOI.out hg).cell 0, (blkGq HKI.out hg).cell 0, (blkGq HKI.out hg).cell 1, ⟨blkGq HKI.out hg, Below.size hg⟩, (HGPI.out.below hg).o, Below.size hg⟩
      have HRW : Hid (some wr.heap.size ≠ (Value.slice AO R.length cO).ownBlock) := fun e => by have := (HNEW.out _ e.symm).2; omega
      have HRO : Hid (some w2.heap.size ≠ (Value.slice AO R.length cO).ownBlock) := fun e => by have := (HNEW.out _ e.symm).1; omega
      have HFIN : Hid (∀ (A7 : Option Addr) (c7 : Nat) (w7 : World) (g8 cap8 : Nat) (w8 : World) (o : Obj), Hid (Gq wI w7) → Hid (w7.ownsRow wI.heap.size 9 1 (.slice A7 qs.length c7) qs.length (sb qs)) → w8.ownsRow w5.heap.size 41 2 (.slice (some ⟨g8, 0, none⟩) (R.length + 1) cap8) (R.length + 1) (R.flatMap Psn.cs ++ [.string qi, .slice A7 qs.length c7]) → (w7.alloc o).grownBy w8 (Value.slice AO R.length cO).ownBlock → ((Value.slice AO R.length cO).ownBlock = some g8 ∨ g8 = w7.heap.size + 1) →
          JI LC w2 w5 (k + 1) (w8.setCell ⟨w2.heap.size, 0, none⟩ (.slice (some ⟨g8, 0, none⟩) (R.length + 1) cap8))) := fun A7 c7 w7 g8 cap8 w8 o h1 h2 h3 h4 h5 =>
        joi_new hRk HRN.out hq10 (by rw [HIXE.out]; simpa using e2) HTK.out HGP.out HKO.out HSM.out HGQ.out (by omega) HGI.out h1 h2 h3 h4 h5
      clear HKI i0
      obtain ⟨q0, q1, q2⟩ := HSS.out wI HKJ.out
      have q3 := HKJ.out.drew
      obtain ⟨ii, hii, hzi0, hzi1, hzi2⟩ := info_parts info_Ps
      go_upto_region 13 with (fail)
      go_region_law (first
        | (go_simp; go_at_call 14; refine (HCL.out _ (by first | exact Gq.refl _ | exact (Gq.refl _).drew)).mono ?_; rintro e w7 ⟨A7, c7, rfl, HW7, HG7, HB7, k70, k7a, k7b, k71, HO7, k72⟩; have k7c : ∀ o, (w7.alloc o).cell? ⟨w2.heap.size, 0, none⟩ = some (.slice AO R.length cO) := fun o => (blkGq HB7.out ((Gq.refl _).alloc o)).cell 0)
        | (refine step_append_lies _ (by rfl) (.tmp 49) (.tmp 56) 22 (by rfl) w5.heap.size 41 ii _ 2 40 Tryz.underlying22 hii hzi0 hzi1 hzi2 rfl (by decide) _ _ _ (by rfl) (HO7.out.alloc _) ⟨w7.heap.size, 0, none⟩ 1 1 [.string qi, .slice A7 qs.length c7] (by rfl) (by rfl) (World.news_of_block (cs := #[.string qi, .slice A7 qs.length c7]) (t := 41) (fr := (0, 0)) (heap_alloc_new w7 _)) (by simp [Value.oneCell']) (by omega) (by unfold maxLen; omega) (by omega) (by simp; omega) (w7.heap.size + 1) (by simp) ?_; intro g8 cap8 w8 hown8 hgrow8 hat8 hlt8; have KJ8 := (KJ.alloc k71 _).grown hgrow8 HRW.out; have HB8 := Lib.hid (blk_grown (blkGq HB7.out ((Gq.refl _).alloc _)) hgrow8 HRO.out); have s80 := HB8.out.cell 0; have s81 := HB8.out.frozen 0))
      all_goals
        have HF8 := Lib.hid (HFIN.out _ _ _ _ _ _ _ HG7 HW7 hown8 hgrow8 hat8)
        clear hown8 hgrow8 hat8 hlt8 KJ8 HB8 s80 s81 k70 k7a k7b k7c k71 HO7 HB7 HCL HFIN
        go_wp2_with fail
        go_roundw
        case rel => exact ⟨k + 1, by omega, by go_num, HF8⟩
        case measure => simp [intOf]; omega
    case inl =>
      rw [e1]
      obtain ⟨g, rfl⟩ : ∃ g, AO = some ⟨g, 0, none⟩ := by
        rcases HGP.out.o.2 with ⟨_, h0⟩ | ⟨g, cap, cur, hv, _⟩
        · omega
        · injection hv with hv; exact ⟨g, hv⟩
      have hz0 : decide ((ix : Int) < 0) = false := decide_eq_false (by omega)
      have hz1 : (0 : Int) ≤ (ix : Int) := by omega
      have hz2 : (ix : Int) < (R.length : Int) := by omega
      have i0 : wI.cell? ⟨w2.heap.size, 0, none⟩ = some (.slice (some ⟨g, 0, none⟩) R.length cO) := HOI.out.cell 0
      have i1 : wI.cell? ⟨wr.heap.size, 1, none⟩ = some (.slice QA qs.length qc) := HKI.out.cell 1
      have hq63 : (qs.length : Int) ≤ 10 := by omega
      have h25 : w2.heap.size < w5.heap.size := by omega
      have HSMI : Hid (Same (fun b => b ≠ w2.heap.size) w5 wI) := HSM.out.trans (Same.of_below HGI.out)
      have HGQI : Hid (Gq w2 wI) := Below.trans HGQ.out (Below.mono HGI.out (Below.size HGQ.out))
      have HJ0 : Hid (JP w2 w5 (R.map Psn.x) ix g cO k qs 0 wI) := jp_start HRN.out HGPI.out HOI.out HSMI.out HGQI.out
      have HEND : Hid (∀ W, JP w2 w5 (R.map Psn.x) ix g cO k qs qs.length W → JI LC w2 w5 (k + 1) W) := fun W hW => by
        have hx := HIXE.out
        subst hx
        exact jp_end hW hRk hq10 (by simpa using e2) HTK.out
      obtain ⟨X, hX⟩ : ∃ X, R.map Psn.x = X := ⟨_, rfl⟩
      have hXl : X.length = R.length := by rw [← hX]; simp
      rw [hX] at HJ0 HEND
      have HQR : Hid (∀ W, Gq w2 W → Rd W QA (sb qs)) := fun W hW => HPK.out.2.2.1.below ((HBK.out _ (Below.trans HG2.out (Below.mono hW (Below.size HG2.out)))).1)
      go_upto_region 15 with (fail)
      go_wp2_with fail
      clear i0 i1 HGPI HOI HKI HSMI HGQI
      go_loopw [66] (fun jv wx => ∃ j : Nat, j ≤ qs.length ∧ jv = .int .i64 (j : Int) ∧ Hid (JP w2 w5 X ix g cO k qs j wx)) (fun jv _ => qs.length - (intOf jv).toNat)
      case atStart => exact ⟨0, Nat.zero_le _, rfl, HJ0⟩
      case round =>
        clear HJ0
        obtain ⟨j, hj, rfl, HJP⟩ := hrel
        by_cases hjl : j < qs.length
        case neg =>
          have hdj : decide (j < qs.length) = false := by simpa using hjl
          have HF := Lib.hid (HEND.out wr (by have : j = qs.length := by omega
                                              subst this; exact HJP.out))
          go_wp2_with fail
          go_roundw
          case rel => exact ⟨k + 1, by omega, by go_num, HF⟩
          case measure => simp [intOf]; omega
        have hdj : decide (j < qs.length) = true := by simpa using hjl
        obtain ⟨R2, hp1, hp2, hp3, hp4, hp5, hp6, hp7⟩ := HJP.out
        have hixR : ix < R2.length := by omega
        obtain ⟨bQ, oQ, rfl, hbQ, hcQ⟩ := (HQR.out wr hp7).at_ (by simp [sb]; omega)
        have hq0 : wr.cell? ⟨bQ, oQ + j, none⟩ = some (.string qs[j]) := hcQ j _ (by simp [sb, hjl])
        have hrd2 := Rd.of_own hp4.o
        obtain ⟨b2, o2, hb2, _, hc2⟩ := psn_at hrd2 (by omega)
        injection hb2 with hb2
        injection hb2 with hb2 ho2 _
        subst hb2 ho2
        obtain ⟨m0, m1⟩ := hc2 ix hixR
        have HNS : Hid (R2[ix].s.xs = addNs (X.getD ix dPsp).ns (qs.take j)) := by
          have h1 : (R2.map Psn.x)[ix]? = some ⟨R2[ix].id, R2[ix].s.xs⟩ := by simp [hixR, Psn.x]
          rw [hp3, List.getElem?_set_self (by omega)] at h1
          injection h1 with h1
          injection h1 with _ h1
          exact h1.symm
        have HP1 := Lib.hid hp1
        have HP2 := Lib.hid hp2
        have HP3 := Lib.hid hp3
        have HP4 := Lib.hid hp4
        have HP5 := Lib.hid hp5
        have HP6 := Lib.hid hp6
        have HP7 : Hid (Gq w2 wr) := hp7
        have hnl : R2[ix].s.xs.length ≤ 10 * k + j := hp2 _ (List.getElem_mem hixR)
        have HOWI := Lib.hid (hp4.r ix hixR)
        have HCT := Lib.hid (contS_any R2[ix].s.a R2[ix].s.c R2[ix].s.xs qs[j] wr (Rd.of_own (hp4.r ix hixR)) (by omega))
        have HSK : Hid (memL R2[ix].s.xs qs[j] = true → JP w2 w5 X ix g cO k qs (j + 1) wr) := fun hm => by
          rw [HNS.out] at hm
          exact jp_skip HJP.out hjl hm
        have HPU : Hid (memL R2[ix].s.xs qs[j] = false → ∀ (g' c' : Nat) (w1 : World) (o : Obj), w1.ownsRow w5.heap.size 9 1 (.slice (some ⟨g', 0, none⟩) (R2[ix].s.xs.length + 1) c') (R2[ix].s.xs.length + 1) (sb R2[ix].s.xs ++ [.string qs[j]]) → (wr.alloc o).grownBy w1 R2[ix].s.v.ownBlock → (R2[ix].s.v.ownBlock = some g' ∨ g' = wr.heap.size + 1) →
            Hid (JP w2 w5 X ix g cO k qs (j + 1) (w1.setCell ⟨g, ix * 2 + 1, none⟩ (.slice (some ⟨g', 0, none⟩) (R2[ix].s.xs.length + 1) c'))) ∧ (∃ v, w1.cell? ⟨g, ix * 2 + 1, none⟩ = some v) ∧ w1.frozen? ⟨g, ix * 2 + 1, none⟩ = false) := fun hm g' c' w1 o h1 h2 h3 => by
          have hk := own_keep (HP4.out.below ((Gq.refl _).alloc o)).o h2 (fun b hb e => HP4.out.d ix hixR b e hb)
          obtain ⟨b3, o3, hb3, _, hc3⟩ := psn_at (Rd.of_own hk) (by omega)
          injection hb3 with hb3
          injection hb3 with hb3 ho3 _
          subst hb3 ho3
          have h9 := (hc3 ix hixR).2
          simp only [Nat.zero_add] at h9
          exact ⟨jp_push hjl (by rw [← HNS.out]; exact hm) hixR h25 HP1.out HP2.out HP3.out HP4.out HP5.out HP6.out HP7.out h1 h2 h3, ⟨_, h9⟩, hk.frozenAt _⟩
        simp only [Nat.zero_add] at m1
        clear hp2 hp3 hp4 hp5 hp6 hp7 hc2 hrd2 hcQ m0
        obtain ⟨sI, hsI⟩ : ∃ s, R2[ix].s = s := ⟨_, rfl⟩
        have HSI := Lib.hid hsI
        rw [hsI] at m1 HOWI HCT HSK hnl HPU
        clear hsI
        obtain ⟨A3, c3, n3⟩ := sI
        simp only at m1 HCT HSK hnl HPU
        obtain ⟨mb, hmb⟩ : ∃ b, memL n3 qs[j] = b := ⟨_, rfl⟩
        have HMB := Lib.hid hmb
        rw [hmb] at HCT HSK HPU
        obtain ⟨qj, hqj⟩ : ∃ q, qs[j] = q := ⟨_, rfl⟩
        have HQJ := Lib.hid hqj
        rw [hqj] at hq0 HCT HPU
        clear hmb hqj
        go_wp2_with fail
        refine HCT.out.mono ?_
        rintro e wC ⟨rfl, rfl⟩
        cases mb with
        | true =>
          have HS2 := Lib.hid (HSK.out rfl)
          go_wp2_with fail
          go_roundw
          case rel => exact ⟨j + 1, by omega, by go_num, HS2⟩
          case measure => simp [intOf]; omega
        | false =>
          obtain ⟨is, his0, his1, his2, his3⟩ := info_parts info_st
          have HPV := Lib.hid (HPU.out rfl)
          have hz5 : w5.heap.size ≤ wr.heap.size := HP6.out.1
          clear HPU HSK HCT
          go_upto_region 19 with (fail)
          go_wp2_with (at_builtin; refine wpList_append_lies _ rfl _ _ 35 rfl w5.heap.size 9 is _ 1 16 Tryz.underlying35 his0 his1 his2 his3 rfl (by decide) _ _ _ rfl (World.ownsRow.alloc HOWI.out _) ⟨wr.heap.size, 0, none⟩ 1 1 [.string qj] (by rfl) (by rfl) (World.news_of_block (cs := #[.string qj]) (t := 9) (fr := (0, 0)) (heap_alloc_new wr _)) (by simp [Value.oneCell']) (by decide) (by unfold maxLen; omega) (by omega) (by simp; omega) (wr.heap.size + 1) (by simp) ?_; intro g8 cap8 w8 hown8 hgrow8 hat8 hlt8; obtain ⟨HF8, ⟨v8, s80⟩, s81⟩ := HPV.out g8 cap8 w8 _ hown8 hgrow8 hat8; clear hown8 hgrow8 hat8 hlt8)
          go_roundw
          case rel => exact ⟨j + 1, by omega, by go_num, HF8⟩
          case measure => simp [intOf]; omega
end Go.Proofs.YtnlnaglaipjlfaaGreatDoor
