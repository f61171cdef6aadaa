/- The contract of the reference's Join. -/
import Derived.Test.YtnlnaglaipjlfaaGreatDoorPplM
import Derived.Test.YtnlnaglaipjlfaaGreatDoorJoinAll
import Derived.Test.YtnlnaglaipjlfaaGreatDoorInsPsn
import Derived.Test.YtnlnaglaipjlfaaGreatDoorInsClm
import Derived.Deep.AppendLies
import Derived.Deep.RegionHeld3
import Derived.Deep.DrawnRows
namespace Go.Proofs.YtnlnaglaipjlfaaGreatDoor
open Go.RowKit Go.Dw

set_option maxRecDepth 100000 in
set_option maxHeartbeats 8000000 in
theorem joinR_any (a b : Peo) (w : World) (ha : PeoOk w a) (hb : PeoOk w b) (hmx : HasMax w) :
    Calls Tryz.prog 5 #[a.v, b.v] w fun e w' => JoiR a.x b.x w' e ∧ Below w.heap.size w w' := by
  have HOA := Lib.hid ha
  have HOB := Lib.hid hb
  have HCA := Lib.hid (fun (W : World) (hW : Below w.heap.size w W) => peopleR_any a W (ha.below hW) (hmx.below hW))
  have HCB := Lib.hid (fun (W : World) (hW : Below w.heap.size w W) => peopleR_any b W (hb.below hW) (hmx.below hW))
  have HCX := Lib.hid (fun (x : Peo) (W : World) (hx : PeoOk W x) (hW : Below w.heap.size w W) => peopleR_any x W hx (hmx.below hW))
  obtain ⟨pa, hpa⟩ : ∃ pa, a.x = pa := ⟨_, rfl⟩
  obtain ⟨pb, hpb⟩ : ∃ pb, b.x = pb := ⟨_, rfl⟩
  have HPA : Hid (pa = ⟨a.p.xs.map Psn.x, a.c.xs⟩) := hpa.symm
  have HPB : Hid (pb = ⟨b.p.xs.map Psn.x, b.c.xs⟩) := hpb.symm
  rw [hpa] at HCA ⊢
  rw [hpb] at HCB ⊢
  have HPE := Lib.hid (fun (q : ByteArray) (W : World) (hW : Below w.heap.size w W) => personR_any b q W (hb.below hW))
  obtain ⟨⟨A1, c1, L1⟩, ⟨A2, c2, M1⟩⟩ := a
  obtain ⟨⟨B1, d1, L2⟩, ⟨B2, d2, M2⟩⟩ := b
  have hl1 : L1.length ≤ 9223372036854775807 := ha.pl
  have hl2 : L2.length ≤ 9223372036854775807 := hb.pl
  clear ha hb hmx hpa hpb
  unfold Peo.v at *
  simp only [Slc.v] at *
  obtain ⟨w0, hw0⟩ : ∃ w0, w0 = ((w.alloc (.cells #[.slice A1 L1.length c1, .slice A2 M1.length c2] 25)).alloc (.cells #[.slice B1 L2.length d1, .slice B2 M2.length d2] 25)).alloc (.cells #[.slice none 0 0, .slice none 0 0] 25) := ⟨_, rfl⟩
  have HB0 : Hid (Below w.heap.size w w0) := by rw [hw0]; exact (((Below.refl _ _).alloc (Nat.le_refl _) _).alloc (by simp) _).alloc (by simp; omega) _
  have hz0 : w0.heap.size = w.heap.size + 3 := by rw [hw0]; simp
  have HK : Hid (Blk w0 w.heap.size 25 [.slice A1 L1.length c1, .slice A2 M1.length c2] ∧ Blk w0 (w.heap.size + 1) 25 [.slice B1 L2.length d1, .slice B2 M2.length d2] ∧ Blk w0 (w.heap.size + 2) 25 [.slice none 0 0, .slice none 0 0]) := by
    have k1 := Blk.new w 25 [.slice A1 L1.length c1, .slice A2 M1.length c2]
    have k2 := Blk.new (w.alloc (.cells #[.slice A1 L1.length c1, .slice A2 M1.length c2] 25)) 25 [.slice B1 L2.length d1, .slice B2 M2.length d2]
    have k3 := Blk.new ((w.alloc (.cells #[.slice A1 L1.length c1, .slice A2 M1.length c2] 25)).alloc (.cells #[.slice B1 L2.length d1, .slice B2 M2.length d2] 25)) 25 [.slice none 0 0, .slice none 0 0]
    have e2 : (w.alloc (.cells #[.slice A1 L1.length c1, .slice A2 M1.length c2] 25)).heap.size = w.heap.size + 1 := by simp
    have e3 : ((w.alloc (.cells #[.slice A1 L1.length c1, .slice A2 M1.length c2] 25)).alloc (.cells #[.slice B1 L2.length d1, .slice B2 M2.length d2] 25)).heap.size = w.heap.size + 2 := by simp
    rw [e2] at k2
    rw [e3] at k3
    rw [hw0]
    exact ⟨blkGq (blkGq k1 ((Gq.refl _).alloc _)) ((Gq.refl _).alloc _), blkGq k2 ((Gq.refl _).alloc _), k3⟩
  have HW0 := Lib.hid hw0
  have HBK : Hid (∀ W, Gq w0 W → Below w.heap.size w W ∧ Blk W w.heap.size 25 [.slice A1 L1.length c1, .slice A2 M1.length c2] ∧ Blk W (w.heap.size + 1) 25 [.slice B1 L2.length d1, .slice B2 M2.length d2] ∧ Blk W (w.heap.size + 2) 25 [.slice none 0 0, .slice none 0 0]) := fun W hW =>
    ⟨HB0.out.trans (Below.mono hW HB0.out.size), blkGq HK.out.1 hW, blkGq HK.out.2.1 hW, blkGq HK.out.2.2 hW⟩
  obtain ⟨fa, hfa⟩ : ∃ f, peoF pa = f := ⟨_, rfl⟩
  obtain ⟨fb, hfb⟩ : ∃ f, peoF pb = f := ⟨_, rfl⟩
  have HFA := Lib.hid hfa
  have HFB := Lib.hid hfb
  simp only [hfa] at HCA
  simp only [hfb] at HCB
  have HC0 := Lib.hid (HCA.out w0 HB0.out)
  have x0 : w0.cell? ⟨w.heap.size, 0, none⟩ = some (.slice A1 L1.length c1) := HK.out.1.cell 0
  have x1 : w0.cell? ⟨w.heap.size, 1, none⟩ = some (.slice A2 M1.length c2) := HK.out.1.cell 1
  clear hw0 hfa hfb HK
  go_enter Tryz.func5, Tryz.ntmps5
  go_upto_region 1 with (fail)
  rw [← HW0.out]
  go_wp2_with fail
  refine HC0.out.mono ?_
  rintro e w1 ⟨rfl, hq1⟩
  have HG1 : Hid (Gq w0 w1) := hq1
  clear hq1 x0 x1
  by_cases hfa0 : fa = 0
  case neg =>
    obtain ⟨r0, r1, f0, f1, f2, r2, s0, s1⟩ := res2 (HBK.out w1 HG1.out).2.2.2 (.slice none 0 0) (.slice none 0 0)
    have HE : Hid (JoiR pa pb ((w1.setCell ⟨w.heap.size + 2, 0, none⟩ (.slice none 0 0)).setCell ⟨w.heap.size + 2, 1, none⟩ (.slice none 0 0)) (.returned (.tuple #[.agg #[.slice none 0 0, .slice none 0 0], .int .i64 fa]))) := by
      have := JoiR.badA (a := pa) (b := pb) (w' := (w1.setCell ⟨w.heap.size + 2, 0, none⟩ (.slice none 0 0)).setCell ⟨w.heap.size + 2, 1, none⟩ (.slice none 0 0)) (by rw [HFA.out]; exact hfa0)
      rw [HFA.out] at this; exact this
    have HBW := Lib.hid (HBK.out w1 HG1.out).1
    go_wp2_with fail
    refine bodyPost_ret (v := .tuple #[.agg #[.slice none 0 0, .slice none 0 0], .int .i64 fa]) (by simp [results, Tryz.results5, go_sem, s0, s1]) rfl ⟨HE.out, (HBW.out.setCell (p := ⟨w.heap.size + 2, 0, none⟩) (Nat.le_add_right w.heap.size 2) _).setCell (p := ⟨w.heap.size + 2, 1, none⟩) (Nat.le_add_right w.heap.size 2) _⟩
  subst hfa0
  have y0 : w1.cell? ⟨w.heap.size + 1, 0, none⟩ = some (.slice B1 L2.length d1) := (HBK.out w1 HG1.out).2.2.1.cell 0
  have y1 : w1.cell? ⟨w.heap.size + 1, 1, none⟩ = some (.slice B2 M2.length d2) := (HBK.out w1 HG1.out).2.2.1.cell 1
  have HC1 := Lib.hid (HCB.out w1 (HBK.out w1 HG1.out).1)
  go_wp2_with fail
  refine HC1.out.mono ?_
  rintro e w2 ⟨rfl, hq2⟩
  have HG2 : Hid (Gq w0 w2) := Below.trans HG1.out (Below.mono hq2 (Below.size HG1.out))
  clear hq2 y0 y1 HC1
  by_cases hfb0 : fb = 0
  case neg =>
    obtain ⟨r0, r1, f0, f1, f2, r2, s0, s1⟩ := res2 (HBK.out w2 HG2.out).2.2.2 (.slice none 0 0) (.slice none 0 0)
    have HE : Hid (JoiR pa pb ((w2.setCell ⟨w.heap.size + 2, 0, none⟩ (.slice none 0 0)).setCell ⟨w.heap.size + 2, 1, none⟩ (.slice none 0 0)) (.returned (.tuple #[.agg #[.slice none 0 0, .slice none 0 0], .int .i64 fb]))) := by
      have := JoiR.badB (a := pa) (b := pb) (w' := (w2.setCell ⟨w.heap.size + 2, 0, none⟩ (.slice none 0 0)).setCell ⟨w.heap.size + 2, 1, none⟩ (.slice none 0 0)) HFA.out (by rw [HFB.out]; exact hfb0)
      rw [HFB.out] at this; exact this
    have HBW := Lib.hid (HBK.out w2 HG2.out).1
    go_wp2_with fail
    refine bodyPost_ret (v := .tuple #[.agg #[.slice none 0 0, .slice none 0 0], .int .i64 fb]) (by simp [results, Tryz.results5, go_sem, s0, s1]) rfl ⟨HE.out, (HBW.out.setCell (p := ⟨w.heap.size + 2, 0, none⟩) (Nat.le_add_right w.heap.size 2) _).setCell (p := ⟨w.heap.size + 2, 1, none⟩) (Nat.le_add_right w.heap.size 2) _⟩
  subst hfb0
  have HPA0 := Lib.hid (pplR_of HFA.out)
  have HPB0 := Lib.hid (pplR_of HFB.out)
  have hn1 : L1.length ≤ 100 := by have := HPA0.out.n; rw [HPA.out] at this; simpa using this
  have hn2 : L2.length ≤ 100 := by have := HPB0.out.n; rw [HPB.out] at this; simpa using this
  obtain ⟨w5, hw5⟩ : ∃ w5, w5 = w2.alloc (.cells #[.slice none 0 0, .slice none 0 0] 25) := ⟨_, rfl⟩
  have hz5 : w5.heap.size = w2.heap.size + 1 := by rw [hw5]; simp
  have hzw : w.heap.size + 3 ≤ w2.heap.size := by have := Below.size HG2.out; omega
  have HG25 : Hid (Gq w2 w5) := by rw [hw5]; exact (Gq.refl _).alloc _
  have HK5 : Hid (Blk w5 w2.heap.size 25 [.slice none 0 0, .slice none 0 0]) := by rw [hw5]; exact Blk.new w2 _ _
  have HG05 : Hid (Gq w0 w5) := Below.trans HG2.out (Below.mono HG25.out (Below.size HG2.out))
  have x0 : w5.cell? ⟨w.heap.size, 0, none⟩ = some (.slice A1 L1.length c1) := (HBK.out w5 HG05.out).2.1.cell 0
  have HW5 := Lib.hid hw5
  clear hw5
  have HBG : Hid (∀ W, w5.grownBy W (some w2.heap.size) → Below w.heap.size w W ∧ Blk W w.heap.size 25 [.slice A1 L1.length c1, .slice A2 M1.length c2] ∧ Blk W (w.heap.size + 1) 25 [.slice B1 L2.length d1, .slice B2 M2.length d2] ∧ Blk W (w.heap.size + 2) 25 [.slice none 0 0, .slice none 0 0]) := fun W hW => by
    obtain ⟨k0, k1, k2, k3⟩ := HBK.out w5 HG05.out
    exact ⟨Below.grown k0 hW k0.size (fun b hb => by injection hb with hb; omega), blk_grown k1 hW (fun e => by injection e with e; omega), blk_grown k2 hW (fun e => by injection e with e; omega), blk_grown k3 hW (fun e => by injection e with e; omega)⟩
  have HLA : Hid (L1.length = pa.ps.length) := by show _ = _; rw [HPA.out]; simp
  have HLB : Hid (L2.length = pb.ps.length) := by show _ = _; rw [HPB.out]; simp
  have HNM : Hid ((∀ y ∈ L1, y.s.xs.length ≤ 10) ∧ ∀ y ∈ L2, y.s.xs.length ≤ 10) := by
    have key : ∀ {ps : List Psp}, PsR ps → ∀ x ∈ ps, x.ns.length ≤ 10 := fun h x hx => by
      obtain ⟨i, hi, rfl⟩ := List.getElem_of_mem hx
      exact nms_le (h.nms i hi)
    exact ⟨fun y hy => key HPA0.out.ps y.x (by rw [HPA.out]; exact List.mem_map.2 ⟨y, hy, rfl⟩), fun y hy => key HPB0.out.ps y.x (by rw [HPB.out]; exact List.mem_map.2 ⟨y, hy, rfl⟩)⟩
  have HRA := Lib.hid (fun (W : World) (hW : Below w.heap.size w W) => HOA.out.pr.below hW)
  have HRB := Lib.hid (fun (W : World) (hW : Below w.heap.size w W) => HOB.out.pr.below hW)
  unfold Peo.x at HPE
  go_upto_region 8 with (fail)
  rw [← HW5.out]
  go_upto_block 0 with (fail)
  go_cut [] (fun wx => Hid (RI pa.ps pb.ps w2.heap.size w5 pa.ps.length wx))
  case first =>
    go_wp2_with fail
    go_loopw [37] (fun kv wr => ∃ k : Nat, k ≤ L1.length ∧ kv = .int .i64 (k : Int) ∧ Hid (RI pa.ps pb.ps w2.heap.size w5 k wr)) (fun kv _ => L1.length - (intOf kv).toNat)
    case atStart => exact ⟨0, Nat.zero_le _, rfl, ri_start HK5.out⟩
    case round =>
      obtain ⟨k, hk, rfl, HRI⟩ := hrel
      by_cases hlt : k < L1.length
      case neg =>
        have hd1 : decide (k < L1.length) = false := by simpa using hlt
        have HF : Hid (RI pa.ps pb.ps w2.heap.size w5 pa.ps.length wr) := by
          have e : k = pa.ps.length := by rw [← HLA.out]; omega
          show RI _ _ _ _ _ _
          rw [← e]; exact HRI.out
        go_wp2_with fail
        go_meet
        case rel => exact HF
      have hd1 : decide (k < L1.length) = true := by simpa using hlt
      obtain ⟨R, AO, cO, hRk, hRn, hR, hGP, hKO, hGR⟩ := HRI.out
      have HRN := Lib.hid hRn
      have hRl : R.length ≤ 100 := by omega
      have HRK := Lib.hid hRk
      have HR := Lib.hid hR
      have HGP := Lib.hid hGP
      have HKO := Lib.hid hKO
      have HGR := Lib.hid hGR
      have HBW := Lib.hid (HBG.out wr hGR)
      clear hRn hRk hR hGP hKO hGR HRI
      obtain ⟨bC, oC, rfl, hbC, hcs⟩ := psn_at (HRA.out wr HBW.out.1) (by omega)
      obtain ⟨e0, e1⟩ := hcs k hlt
      clear hcs
      have HPK := Lib.hid (HOA.out.po _ (List.getElem_mem hlt))
      have hq10 := HNM.out.1 _ (List.getElem_mem hlt)
      have HXK : Hid ((∀ h : k < (refA pa.ps pb.ps).length, (refA pa.ps pb.ps)[k] = ⟨L1[k].id, addO L1[k].s.xs (nsOf pb.ps L1[k].id)⟩) ∧ k < (refA pa.ps pb.ps).length) := by
        have h1 : k < (refA pa.ps pb.ps).length := by unfold refA; rw [List.length_map, ← HLA.out]; exact hlt
        refine ⟨fun h => ?_, h1⟩
        rw [refA_at _ _ _ h (by rw [← HLA.out]; exact hlt)]
        have e : pa.ps[k]'(by rw [← HLA.out]; exact hlt) = L1[k].x := by
          have h2 := congrArg (fun l => l.ps[k]?) HPA.out
          have h3 : k < pa.ps.length := by rw [← HLA.out]; exact hlt
          simpa [h3, hlt] using h2
        rw [e]; rfl
      obtain ⟨pk, hpk⟩ : ∃ p, L1[k] = p := ⟨_, rfl⟩
      rw [hpk] at e0 e1 HPK hq10 HXK
      clear hpk
      obtain ⟨qi, ⟨QA, qc, qs⟩⟩ := pk
      simp only at e0 e1 hq10 HXK
      obtain ⟨wB, hwB⟩ : ∃ wB, wB = wr.alloc (.cells #[.string qi, .slice QA qs.length qc] 41) := ⟨_, rfl⟩
      have hzB : wB.heap.size = wr.heap.size + 1 := by rw [hwB]; simp
      have HGB : Hid (Gq wr wB) := by rw [hwB]; exact (Gq.refl _).alloc _
      have HKB : Hid (Blk wB wr.heap.size 41 [.string qi, .slice QA qs.length qc]) := by rw [hwB]; exact Blk.new wr _ _
      have HWB := Lib.hid hwB
      clear hwB
      go_upto_region 11 with (fail)
      rw [← HWB.out]
      have HCL : Hid (∀ W, Gq wB W → Calls Tryz.prog 14 #[.slice QA qs.length qc] W fun e W' => ∃ A' c', e = .returned (.slice A' qs.length c') ∧ Hid (W'.ownsRow wB.heap.size 9 1 (.slice A' qs.length c') qs.length (sb qs)) ∧ Hid (Gq wB W') ∧ Hid (Gq W W') ∧ W'.cell? ⟨wr.heap.size, 0, none⟩ = some (.string qi) ∧ W'.cell? ⟨wr.heap.size, 1, none⟩ = some (.slice QA qs.length qc) ∧ Hid (∀ cs, Blk W (wr.heap.size + 1) 41 cs → Blk W' (wr.heap.size + 1) 41 cs)) := fun W hW => by
        have hwW : Below w.heap.size w W := (HBW.out.1.trans (Below.mono HGB.out HBW.out.1.size)).trans (Below.mono hW (Nat.le_trans HBW.out.1.size (Below.size HGB.out)))
        refine (clone_Str QA qs.length qc (sb qs) W (HPK.out.2.2.1.below hwW) (by simp [sb]) (by intro u hu; simp [sb] at hu; obtain ⟨a, _, rfl⟩ := hu; rfl) (by omega)).mono ?_
        rintro e W' ⟨A', c', rfl, ho, hb⟩
        have hg : Gq wB W' := Below.trans hW (Below.mono hb (Below.size hW))
        exact ⟨A', c', rfl, own_base ho (Below.size hW), hg, hb, (blkGq HKB.out hg).cell 0, (blkGq HKB.out hg).cell 1, fun cs h => blkGq h hb⟩
      have q0 : wB.cell? ⟨wr.heap.size, 0, none⟩ = some (.string qi) := HKB.out.cell 0
      have q1 : wB.cell? ⟨wr.heap.size, 1, none⟩ = some (.slice QA qs.length qc) := HKB.out.cell 1
      have q2 : ∀ o, (wB.alloc o).cell? ⟨wr.heap.size, 0, none⟩ = some (.string qi) := fun o => (blkGq HKB.out (Gq.alloc (Gq.refl _) o)).cell 0
      have q3 : ∀ o, (wB.alloc o).cell? ⟨wr.heap.size, 1, none⟩ = some (.slice QA qs.length qc) := fun o => (blkGq HKB.out (Gq.alloc (Gq.refl _) o)).cell 1
      clear e0 e1
      go_cut [11] (fun yv wx => ∃ Y : Nat, yv = .pointer (some ⟨Y, 0, none⟩) ∧ wr.heap.size + 1 ≤ Y ∧ Hid (RJ qi qs [] Y wr 0 wx) ∧ Hid (Gq wB wx))
      case first =>
        go_region_law (first
          | (go_simp; go_at_call 14; refine (HCL.out _ (by first | exact Gq.refl _ | exact (Gq.refl _).drew)).mono ?_; rintro e w7 ⟨A7, c7, rfl, HO7, HG7, HGW7, k70, k71, HK7⟩; have k72 : ∀ o, (w7.alloc o).cell? ⟨wr.heap.size, 0, none⟩ = some (.string qi) := fun o => (blkGq HKB.out (Gq.alloc HG7.out o)).cell 0; have k73 : ∀ o, (w7.alloc o).cell? ⟨wr.heap.size, 1, none⟩ = some (.slice QA qs.length qc) := fun o => (blkGq HKB.out (Gq.alloc HG7.out o)).cell 1)
          | (go_simp; go_at_call 14; refine (HCL.out _ (by first | exact (Gq.refl _).alloc _ | exact ((Gq.refl _).alloc _).drew | exact ((Gq.refl _).drew).alloc _)).mono ?_; rintro e w7 ⟨A7, c7, rfl, HO7, HG7, HGW7, k70, k71, HK7⟩; have KB7 := Lib.hid (HK7.out [.string ⟨#[]⟩, .slice none 0 0] (by rw [← hzB]; exact Blk.new wB _ _)); obtain ⟨r0, r1, f0, f1, f2, r2, s0, s1⟩ := res2 KB7.out (.string qi) (.slice A7 qs.length c7)))
        all_goals
          have HG17 : Hid (Gq wr w7) := Below.trans HGB.out (Below.mono HG7.out (Below.size HGB.out))
          have hz7 := Below.size HG7.out
          go_wp2_with fail
          go_meet
          case rel => first
            | exact ⟨_, rfl, by omega, rj_a hq10 HO7.out (by omega) HG17.out, Gq.alloc HG7.out _⟩
            | exact ⟨_, rfl, by omega, rj_b hq10 HO7.out (by omega) HG17.out (by omega) KB7.out, Gq.set (Gq.set HG7.out (p := ⟨wr.heap.size + 1, 0, none⟩) (Nat.le_of_eq hzB) _) (p := ⟨wr.heap.size + 1, 1, none⟩) (Nat.le_of_eq hzB) _⟩
      case rest =>
        obtain ⟨Y, rfl, hY, HRJ, HGC⟩ := hcut
        have HG1C : Hid (Gq wr wc) := Below.trans HGB.out (Below.mono HGC.out (Below.size HGB.out))
        have HBWC : Hid (Below w.heap.size w wc) := HBW.out.1.trans (Below.mono HG1C.out HBW.out.1.size)
        have b0 : wc.cell? ⟨w.heap.size + 1, 0, none⟩ = some (.slice B1 L2.length d1) := (blkGq HBW.out.2.2.1 HG1C.out).cell 0
        have b1 : wc.cell? ⟨w.heap.size + 1, 1, none⟩ = some (.slice B2 M2.length d2) := (blkGq HBW.out.2.2.1 HG1C.out).cell 1
        have q0 : wc.cell? ⟨wr.heap.size, 0, none⟩ = some (.string qi) := (blkGq HKB.out HGC.out).cell 0
        have HPC := Lib.hid (HPE.out qi wc HBWC.out)
        obtain ⟨ix, hix⟩ : ∃ ix, ixP (L2.map Psn.x) qi = ix := ⟨_, rfl⟩
        have HIX := Lib.hid hix
        have hpx : pix (L2.map Psn.x) qi = idxI ix L2.length := by unfold pix idxI; rw [hix, List.length_map]
        rw [hpx] at HPC
        obtain ⟨iv, hiv⟩ : ∃ v, idxI ix L2.length = v := ⟨_, rfl⟩
        rw [hiv] at HPC
        have HIV := Lib.hid hiv
        clear hix hpx hiv
        go_wp2_with fail
        refine HPC.out.mono ?_
        rintro e wp ⟨rfl, hqp⟩
        have HRJ2 := Lib.hid (HRJ.out.gq hqp)
        have HGP2 : Hid (Gq wr wp) := Below.trans HG1C.out (Below.mono hqp (Below.size HG1C.out))
        clear hqp b0 b1 q0 HPC HRJ HBWC HG1C HGC
        obtain ⟨bz, hbz⟩ : ∃ b, decide ((0 : Int) ≤ iv) = b := ⟨_, rfl⟩
        go_upto_if 52 with (fail)
        have HBZ := Lib.hid hbz
        clear hbz
        go_cut [] (fun wx => Hid (RY qi (addO qs (nsOf pb.ps qi)) Y wr wx))
        case first =>
          have HNS : Hid (pb.ps = L2.map Psn.x) := by show _ = _; rw [HPB.out]
          rcases hasV ix L2.length with ⟨e1, e2⟩ | ⟨e1, e2⟩
          case inr =>
            have hz0 : bz = false := by rw [← HBZ.out, ← HIV.out, e1]; decide
            subst hz0
            have HF : Hid (RY qi (addO qs (nsOf pb.ps qi)) Y wr wp) := by
              have h1 : nsOf pb.ps qi = none := by rw [HNS.out]; exact nsOf_no (by rw [HIX.out]; simpa using e2)
              show RY _ _ _ _ _
              rw [h1]
              exact HRJ2.out.done rfl (by simp)
            go_wp2_with fail
            go_meet
            case rel => exact HF
          case inl =>
            have HBWP : Hid (Below w.heap.size w wp) := HBW.out.1.trans (Below.mono HGP2.out HBW.out.1.size)
            have b0 : wp.cell? ⟨w.heap.size + 1, 0, none⟩ = some (.slice B1 L2.length d1) := (blkGq HBW.out.2.2.1 HGP2.out).cell 0
            obtain ⟨bD, oD, rfl, hbD, hcs⟩ := psn_at (HRB.out wp HBWP.out) (by omega)
            have e3 := (hcs ix e2).2
            have HMK := Lib.hid (HOB.out.po _ (List.getElem_mem e2))
            have hm10 := HNM.out.2 _ (List.getElem_mem e2)
            have HNE : Hid (nsOf pb.ps qi = some L2[ix].s.xs) := by
              show _ = _
              rw [HNS.out]
              have hix := HIX.out
              subst hix
              rw [nsOf_ix (by simpa using e2)]
              simp [Psn.x]
            clear hcs
            obtain ⟨⟨MA, mc, ms⟩, hmm⟩ : ∃ m, L2[ix].s = m := ⟨_, rfl⟩
            rw [hmm] at e3 hm10 HNE
            have HMR : Hid (∀ W, Gq wr W → Rd W MA (sb ms)) := fun W hW => by
              have h1 := HMK.out.2.2.1
              rw [hmm] at h1
              exact h1.below (HBW.out.1.trans (Below.mono hW HBW.out.1.size))
            clear hmm HMK
            simp only at e3 hm10
            have hie : iv = (ix : Int) := by rw [← HIV.out, e1]
            have hz0 : bz = true := by rw [← HBZ.out]; exact decide_eq_true (by omega)
            subst hz0
            have hz1 : (0 : Int) ≤ iv := by omega
            have hz2 : iv < (L2.length : Int) := by omega
            have hz3 : iv.toNat = ix := by omega
            clear hie e1
            obtain ⟨wo, hwo⟩ : ∃ wo, wo = wr := ⟨_, rfl⟩
            subst hwo
            have HRJ3 : Hid (RJ qi qs ms Y wo 0 wp) := HRJ2
            clear HRJ2
            go_wp2_with fail
            clear b0 e3
            go_loopw [60] (fun jv wx => ∃ j : Nat, j ≤ ms.length ∧ jv = .int .i64 (j : Int) ∧ Hid (RJ qi qs ms Y wo j wx)) (fun jv _ => ms.length - (intOf jv).toNat)
            case atStart => exact ⟨0, Nat.zero_le _, rfl, HRJ3⟩
            case round =>
              clear HRJ3
              obtain ⟨j, hj, rfl, HRJJ⟩ := hrel
              by_cases hjl : j < ms.length
              case neg =>
                have hdj : decide (j < ms.length) = false := by simpa using hjl
                have HF : Hid (RY qi (addO qs (nsOf pb.ps qi)) Y wo wr) := by
                  show RY _ _ _ _ _
                  rw [HNE.out]
                  exact HRJJ.out.done (by omega) hm10
                go_wp2_with fail
                go_meet
                case rel => exact HF
              have hdj : decide (j < ms.length) = true := by simpa using hjl
              obtain ⟨t, ht1, ht2, ht3, ht4, ht5⟩ := HRJJ.out
              obtain ⟨bQ, oQ, rfl, hbQ, hcQ⟩ := (HMR.out wr ht5).at_ (by simp [sb]; omega)
              have hq0 : wr.cell? ⟨bQ, oQ + j, none⟩ = some (.string ms[j]) := hcQ j _ (by simp [sb, hjl])
              have HT1 := Lib.hid ht1
              have HT3 := Lib.hid ht3
              have HT4 := Lib.hid ht4
              have HT5 := Lib.hid ht5
              clear ht1 ht3 ht4 ht5 hcQ
              have y1 : wr.cell? ⟨Y, 1, none⟩ = some t.v := HT4.out.cell 1
              have HCT := Lib.hid (contS_any t.a t.c t.xs ms[j] wr (Rd.of_own HT3.out) (by omega))
              have HSK : Hid (memL t.xs ms[j] = true → RJ qi qs ms Y wo (j + 1) wr) := fun hm => by
                refine rj_skip HRJJ.out hjl ?_
                rw [← HT1.out]; exact hm
              have HPU : Hid (memL t.xs ms[j] = false → ∀ (g' c' : Nat) (w1 : World) (o : Obj), w1.ownsRow wo.heap.size 9 1 (.slice (some ⟨g', 0, none⟩) (t.xs.length + 1) c') (t.xs.length + 1) (sb t.xs ++ [.string ms[j]]) → (wr.alloc o).grownBy w1 t.v.ownBlock →
                  Hid (RJ qi qs ms Y wo (j + 1) (w1.setCell ⟨Y, 1, none⟩ (.slice (some ⟨g', 0, none⟩) (t.xs.length + 1) c'))) ∧ w1.cell? ⟨Y, 1, none⟩ = some t.v ∧ w1.frozen? ⟨Y, 1, none⟩ = false) := fun hm g' c' w1 o h1 h2 => by
                obtain ⟨k1, k2⟩ := rj_push hjl hm HT1.out ht2 HT3.out HT4.out HT5.out (by omega) h1 h2
                exact ⟨k1, k2.cell 1, k2.frozen 1⟩
              clear HT1 HRJJ
              obtain ⟨TA, tc, tn⟩ := t
              unfold Slc.v at *
              simp only at y1 HCT HSK ht2 HPU HT3
              obtain ⟨mb, hmb⟩ : ∃ b, memL tn ms[j] = b := ⟨_, rfl⟩
              rw [hmb] at HCT HSK HPU
              obtain ⟨qj, hqj⟩ : ∃ q, ms[j] = q := ⟨_, rfl⟩
              rw [hqj] at hq0 HCT HPU
              clear hmb hqj
              go_wp2_with fail
              refine HCT.out.mono ?_
              rintro e wC ⟨rfl, rfl⟩
              cases mb with
              | true =>
                have HS2 := Lib.hid (HSK.out rfl)
                go_wp2_with fail
                go_roundw
                case rel => exact ⟨j + 1, by omega, by go_num, HS2⟩
                case measure => simp [intOf]; omega
              | false =>
                obtain ⟨is, his0, his1, his2, his3⟩ := info_parts info_st
                have HPV := Lib.hid (HPU.out rfl)
                have hz9 := Below.size HT5.out
                clear HPU HSK HCT
                go_upto_region 18 with (fail)
                go_wp2_with (at_builtin; refine wpList_append_lies _ rfl _ _ 35 rfl wo.heap.size 9 is _ 1 16 Tryz.underlying35 his0 his1 his2 his3 rfl (by decide) _ _ _ rfl (World.ownsRow.alloc HT3.out _) ⟨wr.heap.size, 0, none⟩ 1 1 [.string qj] (by rfl) (by rfl) (World.news_of_block (cs := #[.string qj]) (t := 9) (fr := (0, 0)) (heap_alloc_new wr _)) (by simp [Value.oneCell']) (by decide) (by unfold maxLen; omega) (by omega) (by simp; omega) (wr.heap.size + 1) (by simp) ?_; intro g8 cap8 w8 hown8 hgrow8 hat8 hlt8; obtain ⟨HF8, s80, s81⟩ := HPV.out g8 cap8 w8 _ hown8 hgrow8; clear hown8 hgrow8 hat8 hlt8)
                go_roundw
                case rel => exact ⟨j + 1, by omega, by go_num, HF8⟩
                case measure => simp [intOf]; omega
        case rest =>
          obtain ⟨t, ht1, ht2, ht3, ht4, ht5⟩ := hcut
          have HT5 : Hid (Gq wr wc) := ht5
          have hXe : (refA pa.ps pb.ps)[k]'(HXK.out.2) = ⟨qi, t.xs⟩ := by rw [HXK.out.1, ht1]
          have HXE := Lib.hid hXe
          have HT3 := Lib.hid ht3
          have HT4 := Lib.hid ht4
          clear ht1 ht3 ht4 ht5 hXe HRJ2 HGP2 HBZ HIV HIX
          obtain ⟨TA, tc, tn⟩ := t
          unfold Slc.v at *
          simp only at ht2 HT3 HT4 HXE
          have HGPC := Lib.hid (HGP.out.below HT5.out)
          have HOC := Lib.hid (blkGq HKO.out HT5.out)
          have o0 : wc.cell? ⟨w2.heap.size, 0, none⟩ = some (.slice AO R.length cO) := HOC.out.cell 0
          have y0 : wc.cell? ⟨Y, 0, none⟩ = some (.string qi) := HT4.out.cell 0
          have y1 : wc.cell? ⟨Y, 1, none⟩ = some (.slice TA tn.length tc) := HT4.out.cell 1
          have hzc := Below.size HT5.out
          have hz5r : w5.heap.size ≤ wr.heap.size := HGR.out.size
          have HPV : Hid (∀ (g8 cap8 : Nat) (w8 : World) (o : Obj), w8.ownsRow w5.heap.size 41 2 (.slice (some ⟨g8, 0, none⟩) (R.length + 1) cap8) (R.length + 1) (R.flatMap Psn.cs ++ [.string qi, .slice TA tn.length tc]) → (wc.alloc o).grownBy w8 (Value.slice AO R.length cO).ownBlock → ((Value.slice AO R.length cO).ownBlock = some g8 ∨ g8 = wc.heap.size + 1) →
              Hid (RI pa.ps pb.ps w2.heap.size w5 (k + 1) (w8.setCell ⟨w2.heap.size, 0, none⟩ (.slice (some ⟨g8, 0, none⟩) (R.length + 1) cap8))) ∧ w8.cell? ⟨w2.heap.size, 0, none⟩ = some (.slice AO R.length cO) ∧ w8.frozen? ⟨w2.heap.size, 0, none⟩ = false) := fun g8 cap8 w8 o h1 h2 h3 => by
            have hb8 : Blk w8 w2.heap.size 25 [.slice AO R.length cO, .slice none 0 0] := blk_grown (blkGq HOC.out ((Gq.refl _).alloc o)) h2 (fun e => by have := (HGPC.out.o.lt _ e.symm).1; omega)
            exact ⟨ri_new HRK.out HRN.out ht2 HR.out HXK.out.2 HXE.out HGP.out HKO.out HGR.out (by omega) HT5.out HT3.out h1 h2 h3, hb8.cell 0, hb8.frozen 0⟩
          obtain ⟨ii, hii, hzi0, hzi1, hzi2⟩ := info_parts info_Psn
          go_upto_region 20 with (fail)
          go_wp2_with (at_builtin; refine wpList_append_lies _ rfl _ _ 22 rfl w5.heap.size 41 ii _ 2 40 Tryz.underlying22 hii hzi0 hzi1 hzi2 rfl (by decide) _ _ _ rfl (World.ownsRow.alloc HGPC.out.o _) ⟨wc.heap.size, 0, none⟩ 1 1 [.string qi, .slice TA tn.length tc] (by rfl) (by rfl) (World.news_of_block (cs := #[.string qi, .slice TA tn.length tc]) (t := 41) (fr := (0, 0)) (heap_alloc_new wc _)) (by simp [Value.oneCell']) (by decide) (by unfold maxLen; omega) (by omega) (by simp; omega) (wc.heap.size + 1) (by simp) ?_; intro g8 cap8 w8 hown8 hgrow8 hat8 hlt8; obtain ⟨HF8, s80, s81⟩ := HPV.out g8 cap8 w8 _ hown8 hgrow8 hat8; clear hown8 hgrow8 hat8 hlt8)
          go_roundw
          case rel => exact ⟨k + 1, by omega, by go_num, HF8⟩
          case measure => simp [intOf]; omega
  case rest =>
    have HQ0 : Hid (RQ pa.ps pb.ps L2 w2.heap.size w5 0 wc) := rq_start hcut
    have HBC := Lib.hid (HBG.out wc (by obtain ⟨_, _, _, _, _, _, _, _, _, h⟩ := HQ0.out; exact h))
    have b0 : wc.cell? ⟨w.heap.size + 1, 0, none⟩ = some (.slice B1 L2.length d1) := HBC.out.2.2.1.cell 0
    clear hcut HRA HK5 x0
    go_upto_block 4 with (fail)
    go_cut [] (fun wx => Hid (RQ pa.ps pb.ps L2 w2.heap.size w5 pb.ps.length wx))
    case first =>
      clear HBC b0
      go_wp2_with fail
      go_loopw [86] (fun kv wr => ∃ k : Nat, k ≤ L2.length ∧ kv = .int .i64 (k : Int) ∧ Hid (RQ pa.ps pb.ps L2 w2.heap.size w5 k wr)) (fun kv _ => L2.length - (intOf kv).toNat)
      case atStart => exact ⟨0, Nat.zero_le _, rfl, HQ0⟩
      case round =>
        clear HQ0
        obtain ⟨k, hk, rfl, HRQ⟩ := hrel
        by_cases hlt : k < L2.length
        case neg =>
          have hd1 : decide (k < L2.length) = false := by simpa using hlt
          have HF : Hid (RQ pa.ps pb.ps L2 w2.heap.size w5 pb.ps.length wr) := by
            have e : k = pb.ps.length := by rw [← HLB.out]; omega
            show RQ _ _ _ _ _ _ _
            rw [← e]; exact HRQ.out
          go_wp2_with fail
          go_meet
          case rel => exact HF
        have hd1 : decide (k < L2.length) = true := by simpa using hlt
        obtain ⟨R, AO, cO, hRk, hRn, hR, hOW, hNK, hKO, hGR⟩ := HRQ.out
        have hRl : R.length ≤ 200 := by have := HLA.out; omega
        have HRK := Lib.hid hRk
        have HRN := Lib.hid hRn
        have HR := Lib.hid hR
        have HOW := Lib.hid hOW
        have HNK := Lib.hid hNK
        have HKO := Lib.hid hKO
        have HGR := Lib.hid hGR
        have HBW := Lib.hid (HBG.out wr hGR)
        clear hRn hRk hR hOW hNK hKO hGR
        obtain ⟨bC, oC, rfl, hbC, hcs⟩ := psn_at (HRB.out wr HBW.out.1) (by omega)
        obtain ⟨e0, e1⟩ := hcs k hlt
        clear hcs
        have HKB2 : Hid (∃ h : k < pb.ps.length, pb.ps[k] = L2[k].x) := by
          have h3 : k < pb.ps.length := by rw [← HLB.out]; exact hlt
          refine ⟨h3, ?_⟩
          have h2 := congrArg (fun l => l.ps[k]?) HPB.out
          simpa [h3, hlt] using h2
        have HXM : Hid (L2[k] ∈ L2) := List.getElem_mem hlt
        have hq10 := HNM.out.2 _ (List.getElem_mem hlt)
        obtain ⟨pk, hpk⟩ : ∃ p, L2[k] = p := ⟨_, rfl⟩
        rw [hpk] at e0 e1 HKB2 HXM hq10
        clear hpk
        obtain ⟨qi, ⟨QA, qc, qs⟩⟩ := pk
        simp only at e0 e1 hq10
        obtain ⟨wB, hwB⟩ : ∃ wB, wB = wr.alloc (.cells #[.string qi, .slice QA qs.length qc] 41) := ⟨_, rfl⟩
        have hzB : wB.heap.size = wr.heap.size + 1 := by rw [hwB]; simp
        have HGB : Hid (Gq wr wB) := by rw [hwB]; exact (Gq.refl _).alloc _
        have HKB : Hid (Blk wB wr.heap.size 41 [.string qi, .slice QA qs.length qc]) := by rw [hwB]; exact Blk.new wr _ _
        have HWB := Lib.hid hwB
        have HOWB := Lib.hid (own_belowL HOW.out HGB.out)
        have HOB2 := Lib.hid (blkGq HKO.out HGB.out)
        have hzr5 : w5.heap.size ≤ wr.heap.size := HGR.out.size
        clear hwB
        go_upto_region 25 with (fail)
        rw [← HWB.out]
        go_upto_block 6 with (fail)
        clear e0 e1
        obtain ⟨wo, hwo⟩ : ∃ wo, wo = wr := ⟨_, rfl⟩
        subst hwo
        go_cut [17] (fun av wx => ∃ i : Nat, i ≤ R.length ∧ av = .int .i64 (i : Int) ∧ Hid (atP (R.map Psn.x) qi = i) ∧ ∃ n, wx = wB.drewN n)
        case first =>
          go_wp2_with fail
          go_loopw [17] (fun av wx => ∃ i : Nat, i ≤ R.length ∧ av = .int .i64 (i : Int) ∧ Hid (∀ j (hj : j < R.length), j < i → sLt R[j].id qi) ∧ ∃ n, wx = wB.drewN n) (fun av _ => R.length - (intOf av).toNat)
          case atStart => exact ⟨0, Nat.zero_le _, rfl, fun j _ hj => by omega, 0, rfl⟩
          case round =>
            obtain ⟨i, hi, rfl, HAL, n, rfl⟩ := hrel
            have o0 : wB.cell? ⟨w2.heap.size, 0, none⟩ = some (.slice AO R.length cO) := HOB2.out.cell 0
            have t0 : wB.cell? ⟨wo.heap.size, 0, none⟩ = some (.string qi) := HKB.out.cell 0
            by_cases hiR : i < R.length
            · have hdi : decide (i < R.length) = true := by simpa using hiR
              obtain ⟨bR, oR, rfl, hbR, hcR⟩ := psn_at (Rd.of_own HOWB.out) (by omega)
              have r0 : wB.cell? ⟨bR, oR + i * 2, none⟩ = some (.string R[i].id) := (hcR i hiR).1
              have j0 : (0 : Int) ≤ (i : Int) := by omega
              have j1 : (i : Int) < (R.length : Int) := by omega
              obtain ⟨ri, hri⟩ : ∃ q, R[i].id = q := ⟨_, rfl⟩
              rw [hri] at r0
              have HRI := Lib.hid hri
              obtain ⟨bb, hbb⟩ : ∃ b, decide (sLt ri qi) = b := ⟨_, rfl⟩
              have e1 : Op.bytesLess ri.toList qi.toList = bb := by rw [bs_iff]; exact hbb
              have HBB := Lib.hid hbb
              clear hcR hri hbb
              cases bb with
              | true =>
                have HAL2 : Hid (∀ j (hj : j < R.length), j < i + 1 → sLt R[j].id qi) := fun j hj hji => by
                  by_cases e : j = i
                  · subst e; rw [HRI.out]; exact of_decide_eq_true HBB.out
                  · exact HAL.out j hj (by omega)
                go_wp2_with fail
                go_quiet (fail)
                go_wp2_with fail
                go_roundw
                case rel => exact ⟨i + 1, by omega, by go_num, HAL2, _, rfl⟩
                case measure => simp [intOf]; omega
              | false =>
                have HAT : Hid (atP (R.map Psn.x) qi = i) := atP_eqN hi HAL.out (fun h => by rw [HRI.out]; exact of_decide_eq_false HBB.out)
                go_wp2_with fail
                go_quiet (fail)
                go_wp2_with fail
                go_meet
                case rel => exact ⟨i, hi, rfl, HAT, n + nq, by rw [World.drewN_drewN]⟩
            · have hdi : decide (i < R.length) = false := by simpa using hiR
              have HAT : Hid (atP (R.map Psn.x) qi = i) := atP_eqN hi HAL.out (fun h => absurd h hiR)
              go_wp2_with fail
              go_quiet (fail)
              go_wp2_with fail
              go_meet
              case rel => exact ⟨i, hi, rfl, HAT, n + nq, by rw [World.drewN_drewN]⟩
        case rest =>
          obtain ⟨i, hi, rfl, HAT, n, hwc⟩ := hcut
          have HGC : Hid (Gq wB wc) := by show Gq _ _; rw [hwc]; exact below_drewN (Gq.refl _) n
          have HGOC : Hid (Gq wo wc) := Below.trans HGB.out (Below.mono HGC.out (Below.size HGB.out))
          have HOWC := Lib.hid (own_belowL HOWB.out HGC.out)
          have HOC := Lib.hid (blkGq HOB2.out HGC.out)
          have HKC := Lib.hid (blkGq HKB.out HGC.out)
          have hzc := Below.size HGC.out
          clear hwc HOWB HOB2 HKB
          have o0 : wc.cell? ⟨w2.heap.size, 0, none⟩ = some (.slice AO R.length cO) := HOC.out.cell 0
          have t0 : wc.cell? ⟨wo.heap.size, 0, none⟩ = some (.string qi) := HKC.out.cell 0
          have t1 : wc.cell? ⟨wo.heap.size, 1, none⟩ = some (.slice QA qs.length qc) := HKC.out.cell 1
          obtain ⟨ins, hins⟩ : ∃ b : Bool, (∀ h : i < R.length, R[i].id = qi → b = false) ∧ (b = false → ∃ h : i < R.length, R[i].id = qi) := by
            by_cases h : ∃ h : i < R.length, R[i].id = qi
            · exact ⟨false, fun _ _ => rfl, fun _ => h⟩
            · exact ⟨true, fun h1 h2 => absurd ⟨h1, h2⟩ h, fun h1 => by cases h1⟩
          have HINB := Lib.hid hins
          clear hins
          obtain ⟨wp, hwp⟩ : ∃ wp, wp = wc := ⟨_, rfl⟩
          subst hwp
          go_upto_region 28 with (fail)
          go_cut [123] (fun v wx => v = .bool ins ∧ ∃ n, wx = wp.drewN n)
          case first =>
            by_cases hiR : i < R.length
            · have hdi : ((i : Int) == (R.length : Int)) = false := by simpa using (show ¬ (i : Int) = (R.length : Int) by omega)
              obtain ⟨bR, oR, rfl, hbR, hcR⟩ := psn_at (Rd.of_own HOWC.out) (by omega)
              have r0 : wp.cell? ⟨bR, oR + i * 2, none⟩ = some (.string R[i].id) := (hcR i hiR).1
              have j0 : (0 : Int) ≤ (i : Int) := by omega
              have j1 : (i : Int) < (R.length : Int) := by omega
              by_cases hid : R[i].id = qi
              · have hz := HINB.out.1 hiR hid
                rw [hid] at r0
                have e1 : (qi.toList == qi.toList) = true := seq_t rfl
                subst hz
                clear hcR hid
                go_wp2_with fail
                go_quiet (fail)
                go_wp2_with fail
                go_meet
                case rel => exact ⟨rfl, _, rfl⟩
              · have hz : ins = true := by
                  cases h : ins
                  · obtain ⟨_, h2⟩ := HINB.out.2 h; exact absurd h2 hid
                  · rfl
                have e1 : (R[i].id.toList == qi.toList) = false := seq_f hid
                obtain ⟨ri, hri⟩ : ∃ q, R[i].id = q := ⟨_, rfl⟩
                rw [hri] at r0 e1
                subst hz
                clear hcR hid hri
                go_wp2_with fail
                go_quiet (fail)
                go_wp2_with fail
                go_meet
                case rel => exact ⟨rfl, _, rfl⟩
            · have hz : ins = true := by
                cases h : ins
                · obtain ⟨h2, _⟩ := HINB.out.2 h; exact absurd h2 hiR
                · rfl
              have hie : i = R.length := by omega
              have hdi : ((i : Int) == (R.length : Int)) = true := by rw [hie]; simp
              subst hz
              clear hie
              go_wp2_with fail
              go_quiet (fail)
              go_wp2_with fail
              go_meet
              case rel => exact ⟨rfl, _, rfl⟩
          case rest =>
            obtain ⟨rfl, n2, hwc⟩ := hcut
            have HG9 : Hid (Gq wp wc) := by show Gq _ _; rw [hwc]; exact below_drewN (Gq.refl _) n2
            have HG9O : Hid (Gq wo wc) := Below.trans HGOC.out (Below.mono HG9.out (Below.size HGOC.out))
            have HOW9 := Lib.hid (own_belowL HOWC.out HG9.out)
            have HO9 := Lib.hid (blkGq HOC.out HG9.out)
            have HK9 := Lib.hid (blkGq HKC.out HG9.out)
            have hz9 := Below.size HG9O.out
            clear hwc HOWC HOC HKC o0 t0 t1
            cases ins with
            | false =>
              have HF : Hid (RQ pa.ps pb.ps L2 w2.heap.size w5 (k + 1) wc) := by
                obtain ⟨hkb, hke⟩ := HKB2.out
                refine rq_in HRQ.out hkb HG9O.out ?_
                rw [← HR.out, hke]
                obtain ⟨h1, h2⟩ := HINB.out.2 rfl
                have hat := HAT.out
                subst hat
                exact insP_in _ _ (by simpa [Psn.x] using h1) (by simpa [Psn.x] using h2)
              go_wp2_with fail
              go_roundw
              case rel => exact ⟨k + 1, by omega, by go_num, HF⟩
              case measure => simp [intOf]; omega
            | true =>
              have HIO : Hid (insP (R.map Psn.x) ⟨qi, qs⟩ = (R.map Psn.x).take i ++ ⟨qi, qs⟩ :: (R.map Psn.x).drop i) := by
                have hat := HAT.out
                have hno := HINB.out.1
                subst hat
                exact insP_out _ ⟨qi, qs⟩ (fun h e => by
                  have := hno (by simpa [Psn.x] using h) (by simpa [Psn.x] using e)
                  cases this)
              have o0 : wc.cell? ⟨w2.heap.size, 0, none⟩ = some (.slice AO R.length cO) := HO9.out.cell 0
              have t0 : wc.cell? ⟨wo.heap.size, 0, none⟩ = some (.string qi) := HK9.out.cell 0
              have t1 : wc.cell? ⟨wo.heap.size, 1, none⟩ = some (.slice QA qs.length qc) := HK9.out.cell 1
              have HINS := Lib.hid (insert_Psn (wc.alloc (.cells #[.string qi, .slice QA qs.length qc] 41)) (wc.alloc (.cells #[.string qi, .slice QA qs.length qc] 41)) 0 w5.heap.size R.length wc.heap.size (R.flatMap Psn.cs) [.string qi, .slice QA qs.length qc] i (.slice AO R.length cO)
                (Below.refl _ _) (Nat.zero_le _) (by simp; omega) (HOW9.out.alloc _) (heap_alloc_new wc _) (fun e => by have := (HOW9.out.lt _ e).2; omega) rfl (by simp [Value.oneCell']) (fun u hu => by obtain ⟨x, _, hx⟩ := List.mem_flatMap.1 hu; simp [Psn.cs, Slc.v] at hx; rcases hx with rfl | rfl <;> rfl) hi (by omega))
              have HPV : Hid (∀ (A8 : Option Addr) (c8 : Nat) (w8 : World), w8.ownsRow w5.heap.size 41 2 (.slice A8 (R.length + 1) c8) (R.length + 1) ((R.flatMap Psn.cs).take (i * 2) ++ [.string qi, .slice QA qs.length qc] ++ (R.flatMap Psn.cs).drop (i * 2)) → (wc.alloc (.cells #[.string qi, .slice QA qs.length qc] 41)).grownBy w8 (Value.slice AO R.length cO).ownBlock →
                  Hid (RQ pa.ps pb.ps L2 w2.heap.size w5 (k + 1) (w8.setCell ⟨w2.heap.size, 0, none⟩ (.slice A8 (R.length + 1) c8))) ∧ w8.cell? ⟨w2.heap.size, 0, none⟩ = some (.slice AO R.length cO) ∧ w8.frozen? ⟨w2.heap.size, 0, none⟩ = false) := fun A8 c8 w8 h1 h2 => by
                obtain ⟨hkb, hke⟩ := HKB2.out
                obtain ⟨k1, k2⟩ := rq_put (x := ⟨qi, ⟨QA, qc, qs⟩⟩) (i := i) (by have := HRK.out; omega) HRN.out HR.out HOW.out HNK.out HKO.out HGR.out hkb HXM.out hke (by simp only; omega) (by omega) (Gq.alloc HG9O.out _) (by rw [hke]; exact HIO.out) h1 h2
                exact ⟨k1, k2.cell 0, k2.frozen 0⟩
              go_upto_region 29 with (fail)
              go_wp2_with fail
              refine HINS.out.mono ?_
              rintro e w8 ⟨v8, rfl, hown8, hb8, hoth⟩
              obtain ⟨A8, c8, rfl⟩ := slice_of_own hown8
              obtain ⟨HF8, s80, s81⟩ := HPV.out A8 c8 w8 hown8 (ins_grown (row := (Value.slice AO R.length cO).ownBlock) hb8 hoth)
              clear hown8 hb8 hoth HPV HINS o0 t0 t1
              go_wp2_with fail
              go_roundw
              case rel => exact ⟨k + 1, by omega, by go_num, HF8⟩
              case measure => simp [intOf]; omega
    case rest =>
      obtain ⟨wF, hwF⟩ : ∃ wF, wF = wc := ⟨_, rfl⟩
      subst hwF
      obtain ⟨R, AO, cO, hRk, hRn, hR, hOW, hNK, hKO, hGR⟩ := hcut
      have hRl : R.length ≤ 200 := by have := HLA.out; have := HLB.out; omega
      have HRN := Lib.hid hRn
      have HRX : Hid (R.map Psn.x = refP pa.ps pb.ps) := by
        show _ = _
        rw [hR, List.take_length]; rfl
      have HOW := Lib.hid hOW
      have HNK := Lib.hid hNK
      have HKO := Lib.hid hKO
      have HGR := Lib.hid hGR
      have HBW := Lib.hid (HBG.out wF hGR)
      have hz5F : w5.heap.size ≤ wF.heap.size := hGR.size
      clear hRk hRn hR hOW hNK hKO hGR HQ0 HBC b0
      have HMM : Hid ((M1.map Clm.k).Nodup ∧ (M2.map Clm.k).Nodup ∧ SrC M1) := by
        have h1 := HPA0.out.cs
        have h2 := HPB0.out.cs
        rw [HPA.out] at h1
        rw [HPB.out] at h2
        exact ⟨h1.nodup, h2.nodup, h1.sr⟩
      have hm1 : M1.length ≤ 200 := by have := HPA0.out.m; rw [HPA.out] at this; simpa using this
      have hm2 : M2.length ≤ 200 := by have := HPB0.out.m; rw [HPB.out] at this; simpa using this
      have x1 : wF.cell? ⟨w.heap.size, 1, none⟩ = some (.slice A2 M1.length c2) := HBW.out.2.1.cell 1
      have HCLC := Lib.hid (clone_Clm A2 M1.length c2 (M1.flatMap Clm.cs) wF (HOA.out.cr.below HBW.out.1) (flat_len Clm.cs 3 (fun _ => rfl) M1) (fun u hu => by obtain ⟨x, _, hx⟩ := List.mem_flatMap.1 hu; simp [Clm.cs] at hx; rcases hx with rfl | rfl | rfl <;> rfl) (by omega))
      go_upto_region 31 with (fail)
      go_wp2_with fail
      refine HCLC.out.mono ?_
      rintro e w8 ⟨A8, c8, rfl, hown8, hb8⟩
      have HO8 := Lib.hid (blkGq HKO.out hb8)
      have HRC0 : Hid (RC M1 M2 (.slice AO R.length cO) w2.heap.size wF 0 (w8.setCell ⟨w2.heap.size, 1, none⟩ (.slice A8 M1.length c8))) := rc_start hown8 HO8.out hb8 (by omega)
      have s80 : w8.cell? ⟨w2.heap.size, 1, none⟩ = some (.slice none 0 0) := HO8.out.cell 1
      have s81 : w8.frozen? ⟨w2.heap.size, 1, none⟩ = false := HO8.out.frozen 1
      have HCG : Hid (∀ W, wF.grownBy W (some w2.heap.size) → Below w.heap.size w W ∧ Blk W w.heap.size 25 [.slice A1 L1.length c1, .slice A2 M1.length c2] ∧ Blk W (w.heap.size + 1) 25 [.slice B1 L2.length d1, .slice B2 M2.length d2] ∧ Blk W (w.heap.size + 2) 25 [.slice none 0 0, .slice none 0 0]) := fun W hW => HBG.out W (HGR.out.trans hW)
      obtain ⟨w9, hw9⟩ : ∃ w9, w9 = w8.setCell ⟨w2.heap.size, 1, none⟩ (.slice A8 M1.length c8) := ⟨_, rfl⟩
      rw [← hw9] at HRC0
      have HW9 := Lib.hid hw9
      have HBW9 := Lib.hid (HCG.out w9 (by obtain ⟨_, _, _, _, _, _, _, _, h⟩ := HRC0.out; exact h))
      have x2 : w9.cell? ⟨w.heap.size + 1, 1, none⟩ = some (.slice B2 M2.length d2) := HBW9.out.2.2.1.cell 1
      have HRB2 := Lib.hid (fun (W : World) (hW : Below w.heap.size w W) => HOB.out.cr.below hW)
      clear hw9 hown8 hb8 HO8 HCLC x1
      go_upto_region 32 with (fail)
      rw [← HW9.out]
      go_wp2_with fail
      clear x2 s80 s81
      go_loopw [139] (fun kv wr => ∃ k : Nat, k ≤ M2.length ∧ kv = .int .i64 (k : Int) ∧ Hid (RC M1 M2 (.slice AO R.length cO) w2.heap.size wF k wr)) (fun kv _ => M2.length - (intOf kv).toNat)
      case atStart => exact ⟨0, Nat.zero_le _, rfl, HRC0⟩
      case round =>
        clear HRC0 HBW9
        obtain ⟨k, hk, rfl, HRC⟩ := hrel
        obtain ⟨C, A, c, hC1, hC2, hC3, hC4, hC5, hC6⟩ := HRC.out
        have hCl : C.length ≤ 400 := by omega
        have HC1 := Lib.hid hC1
        have HC2 := Lib.hid hC2
        have HC3 := Lib.hid hC3
        have HC4 := Lib.hid hC4
        have HC5 := Lib.hid hC5
        have HC6 := Lib.hid hC6
        have HBK2 := Lib.hid (HCG.out wr hC6)
        clear hC1 hC2 hC3 hC4 hC5 hC6
        have hzFr : wF.heap.size ≤ wr.heap.size := HC6.out.size
        by_cases hlt : k < M2.length
        case neg =>
          have hd1 : decide (k < M2.length) = false := by simpa using hlt
          have hkM : k = M2.length := by omega
          subst hkM
          have HCX2 : Hid (C = refC M1 M2) := by
            show _ = _
            have := HC2.out
            rwa [List.take_length] at this
          have HCB : Hid (badC [] (M1 ++ M2) = false) := by
            show _ = _
            have := HC3.out
            rw [List.take_length] at this
            rw [← badI_all HMM.out.1 HMM.out.2.2]; exact this
          have HOKX : Hid (∀ (W : World), wr.grownBy W (some (w.heap.size + 2)) → PeoOk W ⟨⟨AO, cO, R⟩, ⟨A, c, C⟩⟩) := fun W hW =>
            ref_end (w := w) (w5 := w5) (O := w2.heap.size) (L2 := L2) (M1 := M1) (M2 := M2) (a := pa.ps) (b := pb.ps) (by omega) HRN.out HRX.out HOW.out HNK.out HKO.out (by omega) (by omega) HBW.out.1 hz5F (fun y hy => HOB.out.po y hy)
              (fun y hy => by
                rw [HPA.out] at hy
                obtain ⟨z, hz, rfl⟩ := List.mem_map.1 hy
                exact ⟨(HOA.out.po z hz).1.1, (HOA.out.po z hz).2.2.2⟩)
              (fun y hy => by
                rw [HPB.out] at hy
                obtain ⟨z, hz, rfl⟩ := List.mem_map.1 hy
                exact ⟨(HOB.out.po z hz).1.1, (HOB.out.po z hz).2.2.2⟩)
              (fun y hy => HOA.out.co y hy) (fun y hy => HOB.out.co y hy) (by omega) HCX2.out HC4.out HC6.out hW (by omega) (by omega) (fun r _ B h => blk_own_ne h HBW.out.2.2.2 (by decide))
          have HCK := Lib.hid (HCX.out ⟨⟨AO, cO, R⟩, ⟨A, c, C⟩⟩ wr (HOKX.out wr (World.grownBy.refl _ _)) HBK2.out.1)
          have HXE : Hid (∀ x : Peo, x = ⟨⟨AO, cO, R⟩, ⟨A, c, C⟩⟩ → x.x.ps.Perm (joiP pa.ps pb.ps) ∧ x.x.cs.Perm (joiC pa.cs pb.cs) ∧ (x.x.ps.Pairwise fun x y => decide (sLt y.id x.id) = false) ∧ (x.x.cs.Pairwise fun x y => clLt y x = false)) := fun x hx => by
            subst hx
            have h1 := refC_perm HMM.out.1 HMM.out.2.1 HMM.out.2.2
            have h2 := refP_spec HPA0.out.ps HPB0.out.ps HPA0.out.ps.sr
            refine ⟨?_, ?_, ?_, ?_⟩
            · show (R.map Psn.x).Perm _
              rw [HRX.out]
              exact refP_perm HPA0.out.ps HPB0.out.ps HPA0.out.ps.sr
            · show C.Perm _
              rw [HCX2.out, HPA.out, HPB.out]; exact h1.2
            · show (R.map Psn.x).Pairwise _
              rw [HRX.out]; exact srP_le h2.1
            · show C.Pairwise _
              rw [HCX2.out]; exact srC_le h1.1
          obtain ⟨fx, hfx⟩ : ∃ f, peoF (Peo.x ⟨⟨AO, cO, R⟩, ⟨A, c, C⟩⟩) = f := ⟨_, rfl⟩
          have HFX := Lib.hid hfx
          rw [hfx] at HCK
          have o0 : wr.cell? ⟨w2.heap.size, 0, none⟩ = some (.slice AO R.length cO) := HC5.out.cell 0
          have o1 : wr.cell? ⟨w2.heap.size, 1, none⟩ = some (.slice A C.length c) := HC5.out.cell 1
          clear hfx hlt HRC HNK HMM
          go_wp2_with fail
          refine HCK.out.mono ?_
          rintro e w10 ⟨rfl, hq10⟩
          have HG10 : Hid (Gq wr w10) := hq10
          have HR10 : Hid (Below w.heap.size w w10 ∧ Blk w10 (w.heap.size + 2) 25 [.slice none 0 0, .slice none 0 0]) := ⟨HBK2.out.1.trans (hq10.mono HBK2.out.1.size), blkGq HBK2.out.2.2.2 hq10⟩
          have HB10 := Lib.hid (blkGq HC5.out hq10)
          clear hq10 o0 o1 HCK
          by_cases hfx0 : fx = 0
          case neg =>
            obtain ⟨r0, r1, f0, f1, f2, r2, s0, s1⟩ := res2 HR10.out.2 (.slice none 0 0) (.slice none 0 0)
            have HE : Hid (JoiR pa pb ((w10.setCell ⟨w.heap.size + 2, 0, none⟩ (.slice none 0 0)).setCell ⟨w.heap.size + 2, 1, none⟩ (.slice none 0 0)) (.returned (.tuple #[.agg #[.slice none 0 0, .slice none 0 0], .int .i64 fx]))) := by
              obtain ⟨q1, q2, q3, q4⟩ := HXE.out _ rfl
              have := JoiR.badR (a := pa) (b := pb) (w' := (w10.setCell ⟨w.heap.size + 2, 0, none⟩ (.slice none 0 0)).setCell ⟨w.heap.size + 2, 1, none⟩ (.slice none 0 0)) HFA.out HFB.out (by rw [HPA.out, HPB.out]; exact HCB.out) _ _ q1 q2 q3 q4 (by
                show peoF (Peo.x ⟨⟨AO, cO, R⟩, ⟨A, c, C⟩⟩) ≠ 0
                rw [HFX.out]; exact hfx0)
              have e9 : peoF ⟨(Peo.x ⟨⟨AO, cO, R⟩, ⟨A, c, C⟩⟩).ps, (Peo.x ⟨⟨AO, cO, R⟩, ⟨A, c, C⟩⟩).cs⟩ = fx := HFX.out
              rw [e9] at this
              exact this
            go_wp2_with fail
            refine bodyPost_ret (v := .tuple #[.agg #[.slice none 0 0, .slice none 0 0], .int .i64 fx]) (by simp [results, Tryz.results5, go_sem, s0, s1]) rfl ⟨HE.out, (HR10.out.1.setCell (p := ⟨w.heap.size + 2, 0, none⟩) (Nat.le_add_right w.heap.size 2) _).setCell (p := ⟨w.heap.size + 2, 1, none⟩) (Nat.le_add_right w.heap.size 2) _⟩
          subst hfx0
          obtain ⟨r0, r1, f0, f1, f2, r2, s0, s1⟩ := res2 HR10.out.2 (.slice AO R.length cO) (.slice A C.length c)
          have o0 : w10.cell? ⟨w2.heap.size, 0, none⟩ = some (.slice AO R.length cO) := HB10.out.cell 0
          have o1 : w10.cell? ⟨w2.heap.size, 1, none⟩ = some (.slice A C.length c) := HB10.out.cell 1
          have HE : Hid (JoiR pa pb ((w10.setCell ⟨w.heap.size + 2, 0, none⟩ (.slice AO R.length cO)).setCell ⟨w.heap.size + 2, 1, none⟩ (.slice A C.length c)) (.returned (.tuple #[.agg #[.slice AO R.length cO, .slice A C.length c], .int .i64 0]))) := by
            obtain ⟨q1, q2, q3, q4⟩ := HXE.out _ rfl
            have h9 : wr.grownBy ((w10.setCell ⟨w.heap.size + 2, 0, none⟩ (.slice AO R.length cO)).setCell ⟨w.heap.size + 2, 1, none⟩ (.slice A C.length c)) (some (w.heap.size + 2)) :=
              ((grown_gq HG10.out _).trans (grown_set w10 (w.heap.size + 2) 0 _)).trans (grown_set _ (w.heap.size + 2) 1 _)
            exact JoiR.ok (a := pa) (b := pb) HFA.out HFB.out (by rw [HPA.out, HPB.out]; exact HCB.out) ⟨⟨AO, cO, R⟩, ⟨A, c, C⟩⟩ q1 q2 q3 q4 HFX.out (HOKX.out _ h9)
          go_wp2_with fail
          refine bodyPost_ret (v := .tuple #[.agg #[.slice AO R.length cO, .slice A C.length c], .int .i64 0]) (by simp [results, Tryz.results5, go_sem, s0, s1]) rfl ⟨HE.out, (HR10.out.1.setCell (p := ⟨w.heap.size + 2, 0, none⟩) (Nat.le_add_right w.heap.size 2) _).setCell (p := ⟨w.heap.size + 2, 1, none⟩) (Nat.le_add_right w.heap.size 2) _⟩
        have hd1 : decide (k < M2.length) = true := by simpa using hlt
        obtain ⟨bC, oC, rfl, hbC, hcs⟩ := clm_at (HRB2.out wr HBK2.out.1) (by omega)
        obtain ⟨e0, e1, e2⟩ := hcs k hlt
        clear hcs
        have HSR : Hid (SrC C) := by show SrC _; rw [HC2.out]; exact srC_fold _ _ HMM.out.2.2
        obtain ⟨m, hm⟩ : ∃ m, M2[k] = m := ⟨_, rfl⟩
        rw [hm] at e0 e1 e2
        have HMJ := Lib.hid hm
        clear hm
        obtain ⟨ma, mb, ms⟩ := m
        simp only at e0 e1 e2
        obtain ⟨wB, hwB⟩ : ∃ wB, wB = wr.alloc (.cells #[.string ma, .string mb, .bool ms] 49) := ⟨_, rfl⟩
        have hzB : wB.heap.size = wr.heap.size + 1 := by rw [hwB]; simp
        have HGB : Hid (Gq wr wB) := by rw [hwB]; exact (Gq.refl _).alloc _
        have HKB : Hid (Blk wB wr.heap.size 49 [.string ma, .string mb, .bool ms]) := by rw [hwB]; exact Blk.new wr _ _
        have HWB := Lib.hid hwB
        have HOWB := Lib.hid (own_belowL HC4.out HGB.out)
        have HOB2 := Lib.hid (blkGq HC5.out HGB.out)
        clear hwB
        go_upto_region 35 with (fail)
        rw [← HWB.out]
        go_upto_block 10 with (fail)
        clear e0 e1 e2
        obtain ⟨wo, hwo⟩ : ∃ wo, wo = wr := ⟨_, rfl⟩
        subst hwo
        go_cut [20] (fun av wx => ∃ i : Nat, i ≤ C.length ∧ av = .int .i64 (i : Int) ∧ Hid (atC C ⟨ma, mb, ms⟩ = i) ∧ Hid (Gq wB wx))
        case first =>
          go_wp2_with fail
          go_loopw [20] (fun av wx => ∃ i : Nat, i ≤ C.length ∧ av = .int .i64 (i : Int) ∧ Hid (∀ j (hj : j < C.length), j < i → clLt C[j] ⟨ma, mb, ms⟩ = true) ∧ Hid (Gq wB wx)) (fun av _ => C.length - (intOf av).toNat)
          case atStart => exact ⟨0, Nat.zero_le _, rfl, fun j _ hj => by omega, Gq.refl _⟩
          case round =>
            obtain ⟨i, hi, rfl, HAL, HGX⟩ := hrel
            have HOX := Lib.hid (blkGq HOB2.out HGX.out)
            have o1 : wr.cell? ⟨w2.heap.size, 1, none⟩ = some (.slice A C.length c) := HOX.out.cell 1
            by_cases hiR : i < C.length
            · have hdi : decide (i < C.length) = true := by simpa using hiR
              have HKX := Lib.hid (blkGq HKB.out HGX.out)
              obtain ⟨bR, oR, rfl, hbR, hcR⟩ := clm_at (Rd.of_own (own_belowL HOWB.out HGX.out)) (by omega)
              have j0 : (0 : Int) ≤ (i : Int) := by omega
              have j1 : (i : Int) < (C.length : Int) := by omega
              obtain ⟨r0, r1, r2⟩ := hcR i hiR
              clear hcR
              obtain ⟨⟨ya, yb, ys⟩, hy⟩ : ∃ y, C[i] = y := ⟨_, rfl⟩
              rw [hy] at r0 r1 r2
              simp only at r0 r1 r2
              obtain ⟨bt, hbt⟩ : ∃ b, clLt ⟨ya, yb, ys⟩ ⟨ma, mb, ms⟩ = b := ⟨_, rfl⟩
              have HBT : Hid (clLt C[i] ⟨ma, mb, ms⟩ = bt) := by show _ = _; rw [hy]; exact hbt
              have HLS : Hid (∀ W, Gq wr W → Calls Tryz.prog 28 #[.agg #[.string ya, .string yb, .bool ys], .agg #[.string ma, .string mb, .bool ms]] W fun e W' => e = Ending.returned (.bool bt) ∧ Gq wr W') := fun W hW => by
                refine (less_any ⟨ya, yb, ys⟩ ⟨ma, mb, ms⟩ W).mono ?_
                rintro e W' ⟨he, hb⟩
                exact ⟨by rw [he, hbt], Below.trans hW (Below.mono hb (Below.size hW))⟩
              clear hbt hy
              have HS : Hid (∀ W, Gq wr W → W.cell? ⟨w2.heap.size, 1, none⟩ = some (.slice (some ⟨bR, oR, none⟩) C.length c) ∧ W.cell? ⟨bR, oR + i * 3, none⟩ = some (.string ya) ∧ W.cell? ⟨bR, oR + i * 3 + 1, none⟩ = some (.string yb) ∧ W.cell? ⟨bR, oR + i * 3 + 2, none⟩ = some (.bool ys) ∧ W.cell? ⟨wo.heap.size, 0, none⟩ = some (.string ma) ∧ W.cell? ⟨wo.heap.size, 1, none⟩ = some (.string mb) ∧ W.cell? ⟨wo.heap.size, 2, none⟩ = some (.bool ms) ∧ Gq wr W) := fun W hW => by
                have hlt2 : ∀ i : Nat, W.cell? ⟨bR, i, none⟩ = wr.cell? ⟨bR, i, none⟩ := fun i => Below.cell hW (by exact hbR)
                rw [hlt2, hlt2, hlt2]
                exact ⟨(blkGq HOX.out hW).cell 1, r0, r1, r2, (blkGq HKX.out hW).cell 0, (blkGq HKX.out hW).cell 1, (blkGq HKX.out hW).cell 2, hW⟩
              have hBR : Gq wr wr := Gq.refl _
              have hBD : Gq wr wr.drew := (Gq.refl _).drew
              clear o1 HOX HKX
              cases bt with
              | true =>
                go_wp2_with fail
                go_region_held3 (fun W => W.cell? ⟨w2.heap.size, 1, none⟩ = some (.slice (some ⟨bR, oR, none⟩) C.length c) ∧ W.cell? ⟨bR, oR + i * 3, none⟩ = some (.string ya) ∧ W.cell? ⟨bR, oR + i * 3 + 1, none⟩ = some (.string yb) ∧ W.cell? ⟨bR, oR + i * 3 + 2, none⟩ = some (.bool ys) ∧ W.cell? ⟨wo.heap.size, 0, none⟩ = some (.string ma) ∧ W.cell? ⟨wo.heap.size, 1, none⟩ = some (.string mb) ∧ W.cell? ⟨wo.heap.size, 2, none⟩ = some (.bool ms) ∧ Gq wr W)
                  (first | exact HS.out _ hBD | exact HS.out _ hqB | exact HS.out _ hBR | exact HS.out _ (Gq.drew hqB))
                  (first | (go_at_call 28; with_reducible refine (HLS.out _ (by first | exact hqB | exact hBD | exact hBR)).mono ?_; rintro e wA ⟨rfl, hqB⟩))
                have HGA : Hid (Gq wB wA) := Below.trans HGX.out (Below.mono hqB (Below.size HGX.out))
                clear hqB HS HLS hBR hBD r0 r1 r2
                have HAL2 : Hid (∀ j (hj : j < C.length), j < i + 1 → clLt C[j] ⟨ma, mb, ms⟩ = true) := fun j hj hji => by
                  by_cases e : j = i
                  · subst e; exact HBT.out
                  · exact HAL.out j hj (by omega)
                go_wp2_with fail
                go_roundw
                case rel => exact ⟨i + 1, by omega, by go_num, HAL2, HGA⟩
                case measure => simp [intOf]; omega
              | false =>
                go_wp2_with fail
                go_region_held3 (fun W => W.cell? ⟨w2.heap.size, 1, none⟩ = some (.slice (some ⟨bR, oR, none⟩) C.length c) ∧ W.cell? ⟨bR, oR + i * 3, none⟩ = some (.string ya) ∧ W.cell? ⟨bR, oR + i * 3 + 1, none⟩ = some (.string yb) ∧ W.cell? ⟨bR, oR + i * 3 + 2, none⟩ = some (.bool ys) ∧ W.cell? ⟨wo.heap.size, 0, none⟩ = some (.string ma) ∧ W.cell? ⟨wo.heap.size, 1, none⟩ = some (.string mb) ∧ W.cell? ⟨wo.heap.size, 2, none⟩ = some (.bool ms) ∧ Gq wr W)
                  (first | exact HS.out _ hBD | exact HS.out _ hqB | exact HS.out _ hBR | exact HS.out _ (Gq.drew hqB))
                  (first | (go_at_call 28; with_reducible refine (HLS.out _ (by first | exact hqB | exact hBD | exact hBR)).mono ?_; rintro e wA ⟨rfl, hqB⟩))
                have HGA : Hid (Gq wB wA) := Below.trans HGX.out (Below.mono hqB (Below.size HGX.out))
                clear hqB HS HLS hBR hBD r0 r1 r2
                have HAT : Hid (atC C ⟨ma, mb, ms⟩ = i) := atC_eq hi HAL.out (fun h => HBT.out)
                go_wp2_with fail
                go_meet
                case rel => exact ⟨i, hi, rfl, HAT, HGA⟩
            · have hdi : decide (i < C.length) = false := by simpa using hiR
              have HAT : Hid (atC C ⟨ma, mb, ms⟩ = i) := atC_eq hi HAL.out (fun h => absurd h hiR)
              go_wp2_with fail
              go_quiet (fail)
              go_wp2_with fail
              go_meet
              case rel => exact ⟨i, hi, rfl, HAT, below_drewN HGX.out _⟩
        case rest =>
          obtain ⟨i, hi, rfl, HAT, HGC⟩ := hcut
          have HGOC : Hid (Gq wo wc) := Below.trans HGB.out (Below.mono HGC.out (Below.size HGB.out))
          have HOWC := Lib.hid (own_belowL HOWB.out HGC.out)
          have HOC := Lib.hid (blkGq HOB2.out HGC.out)
          have HKC := Lib.hid (blkGq HKB.out HGC.out)
          have hzc := Below.size HGC.out
          clear HOWB HOB2 HKB
          obtain ⟨wp, hwp⟩ : ∃ wp, wp = wc := ⟨_, rfl⟩
          subst hwp
          obtain ⟨ins, hins⟩ : ∃ b : Bool, (if h : i < C.length then clLt ⟨ma, mb, ms⟩ C[i] else true) = b := ⟨_, rfl⟩
          have HINB := Lib.hid hins
          clear hins
          go_upto_region 38 with (fail)
          go_cut [159] (fun v wx => v = .bool ins ∧ Hid (Gq wp wx))
          case first =>
            have o1 : wp.cell? ⟨w2.heap.size, 1, none⟩ = some (.slice A C.length c) := HOC.out.cell 1
            by_cases hiR : i < C.length
            · have hdi : ((i : Int) == (C.length : Int)) = false := by simpa using (show ¬ (i : Int) = (C.length : Int) by omega)
              obtain ⟨bR, oR, rfl, hbR, hcR⟩ := clm_at (Rd.of_own HOWC.out) (by omega)
              have j0 : (0 : Int) ≤ (i : Int) := by omega
              have j1 : (i : Int) < (C.length : Int) := by omega
              obtain ⟨r0, r1, r2⟩ := hcR i hiR
              clear hcR
              have hie : clLt ⟨ma, mb, ms⟩ C[i] = ins := by have := HINB.out; rwa [dif_pos hiR] at this
              obtain ⟨⟨ya, yb, ys⟩, hy⟩ : ∃ y, C[i] = y := ⟨_, rfl⟩
              rw [hy] at r0 r1 r2 hie
              simp only at r0 r1 r2
              have HLS : Hid (∀ W, Gq wp W → Calls Tryz.prog 28 #[.agg #[.string ma, .string mb, .bool ms], .agg #[.string ya, .string yb, .bool ys]] W fun e W' => e = Ending.returned (.bool ins) ∧ Gq wp W') := fun W hW => by
                refine (less_any ⟨ma, mb, ms⟩ ⟨ya, yb, ys⟩ W).mono ?_
                rintro e W' ⟨he, hb⟩
                exact ⟨by rw [he, hie], Below.trans hW (Below.mono hb (Below.size hW))⟩
              clear hie hy
              have HS : Hid (∀ W, Gq wp W → W.cell? ⟨w2.heap.size, 1, none⟩ = some (.slice (some ⟨bR, oR, none⟩) C.length c) ∧ W.cell? ⟨bR, oR + i * 3, none⟩ = some (.string ya) ∧ W.cell? ⟨bR, oR + i * 3 + 1, none⟩ = some (.string yb) ∧ W.cell? ⟨bR, oR + i * 3 + 2, none⟩ = some (.bool ys) ∧ W.cell? ⟨wo.heap.size, 0, none⟩ = some (.string ma) ∧ W.cell? ⟨wo.heap.size, 1, none⟩ = some (.string mb) ∧ W.cell? ⟨wo.heap.size, 2, none⟩ = some (.bool ms) ∧ Gq wp W) := fun W hW => by
                have hlt2 : ∀ i : Nat, W.cell? ⟨bR, i, none⟩ = wp.cell? ⟨bR, i, none⟩ := fun i => Below.cell hW (by exact hbR)
                rw [hlt2, hlt2, hlt2]
                exact ⟨(blkGq HOC.out hW).cell 1, r0, r1, r2, (blkGq HKC.out hW).cell 0, (blkGq HKC.out hW).cell 1, (blkGq HKC.out hW).cell 2, hW⟩
              have hBR : Gq wp wp := Gq.refl _
              have hBD : Gq wp wp.drew := (Gq.refl _).drew
              clear o1
              cases ins with
              | true =>
                go_region_held3 (fun W => W.cell? ⟨w2.heap.size, 1, none⟩ = some (.slice (some ⟨bR, oR, none⟩) C.length c) ∧ W.cell? ⟨bR, oR + i * 3, none⟩ = some (.string ya) ∧ W.cell? ⟨bR, oR + i * 3 + 1, none⟩ = some (.string yb) ∧ W.cell? ⟨bR, oR + i * 3 + 2, none⟩ = some (.bool ys) ∧ W.cell? ⟨wo.heap.size, 0, none⟩ = some (.string ma) ∧ W.cell? ⟨wo.heap.size, 1, none⟩ = some (.string mb) ∧ W.cell? ⟨wo.heap.size, 2, none⟩ = some (.bool ms) ∧ Gq wp W)
                  (first | exact HS.out _ hBD | exact HS.out _ hqB | exact HS.out _ hBR | exact HS.out _ (Gq.drew hqB))
                  (first | (go_at_call 28; with_reducible refine (HLS.out _ (by first | exact hqB | exact hBD | exact hBR)).mono ?_; rintro e wA ⟨rfl, hqB⟩))
                have HGA : Hid (Gq wp wA) := hqB
                clear hqB HS HLS hBR hBD r0 r1 r2
                go_wp2_with fail
                go_meet
                case rel => exact ⟨rfl, HGA⟩
              | false =>
                go_region_held3 (fun W => W.cell? ⟨w2.heap.size, 1, none⟩ = some (.slice (some ⟨bR, oR, none⟩) C.length c) ∧ W.cell? ⟨bR, oR + i * 3, none⟩ = some (.string ya) ∧ W.cell? ⟨bR, oR + i * 3 + 1, none⟩ = some (.string yb) ∧ W.cell? ⟨bR, oR + i * 3 + 2, none⟩ = some (.bool ys) ∧ W.cell? ⟨wo.heap.size, 0, none⟩ = some (.string ma) ∧ W.cell? ⟨wo.heap.size, 1, none⟩ = some (.string mb) ∧ W.cell? ⟨wo.heap.size, 2, none⟩ = some (.bool ms) ∧ Gq wp W)
                  (first | exact HS.out _ hBD | exact HS.out _ hqB | exact HS.out _ hBR | exact HS.out _ (Gq.drew hqB))
                  (first | (go_at_call 28; with_reducible refine (HLS.out _ (by first | exact hqB | exact hBD | exact hBR)).mono ?_; rintro e wA ⟨rfl, hqB⟩))
                have HGA : Hid (Gq wp wA) := hqB
                clear hqB HS HLS hBR hBD r0 r1 r2
                go_wp2_with fail
                go_meet
                case rel => exact ⟨rfl, HGA⟩
            · have hz : ins = true := by have := HINB.out; rw [dif_neg hiR] at this; exact this.symm
              have hie : i = C.length := by omega
              have hdi : ((i : Int) == (C.length : Int)) = true := by rw [hie]; simp
              subst hz
              clear hie
              go_quiet (fail)
              go_wp2_with fail
              go_meet
              case rel => exact ⟨rfl, below_drewN (Gq.refl _) _⟩
          case rest =>
            obtain ⟨rfl, HG9⟩ := hcut
            have HG9O : Hid (Gq wo wc) := Below.trans HGOC.out (Below.mono HG9.out (Below.size HGOC.out))
            have HOW9 := Lib.hid (own_belowL HOWC.out HG9.out)
            have HO9 := Lib.hid (blkGq HOC.out HG9.out)
            have HK9 := Lib.hid (blkGq HKC.out HG9.out)
            have hz9 := Below.size HG9O.out
            clear HOWC HOC HKC
            have o1 : wc.cell? ⟨w2.heap.size, 1, none⟩ = some (.slice A C.length c) := HO9.out.cell 1
            have t0 : wc.cell? ⟨wo.heap.size, 0, none⟩ = some (.string ma) := HK9.out.cell 0
            have t1 : wc.cell? ⟨wo.heap.size, 1, none⟩ = some (.string mb) := HK9.out.cell 1
            have t2 : wc.cell? ⟨wo.heap.size, 2, none⟩ = some (.bool ms) := HK9.out.cell 2
            cases ins with
            | true =>
              have HCO : Hid (∀ h : atC C ⟨ma, mb, ms⟩ < C.length, clLt ⟨ma, mb, ms⟩ C[atC C ⟨ma, mb, ms⟩] = true) := fun h => by
                have hat := HAT.out
                have hin := HINB.out
                subst hat
                rwa [dif_pos h] at hin
              have HIO : Hid (insC C ⟨ma, mb, ms⟩ = C.take i ++ ⟨ma, mb, ms⟩ :: C.drop i) := by
                show _ = _
                rw [insC_out C ⟨ma, mb, ms⟩ HCO.out, HAT.out]
              have HOT : Hid (oth C ⟨ma, mb, ms⟩ = false) := by
                show _ = _
                rw [oth_at HSR.out]
                split
                · rename_i h; rw [HCO.out h]; rfl
                · rfl
              have HINS := Lib.hid (insert_Clm (wc.alloc (.cells #[.string ma, .string mb, .bool ms] 49)) (wc.alloc (.cells #[.string ma, .string mb, .bool ms] 49)) 0 wF.heap.size C.length wc.heap.size (C.flatMap Clm.cs) [.string ma, .string mb, .bool ms] i (.slice A C.length c)
                (Below.refl _ _) (Nat.zero_le _) (by simp; omega) (HOW9.out.alloc _) (heap_alloc_new wc _) (fun e => by have := (HOW9.out.lt _ e).2; omega) rfl (by simp [Value.oneCell']) (fun u hu => by obtain ⟨x, _, hx⟩ := List.mem_flatMap.1 hu; simp [Clm.cs] at hx; rcases hx with rfl | rfl | rfl <;> rfl) hi (by omega))
              have HPV : Hid (∀ (A8 : Option Addr) (c8 : Nat) (w8 : World), w8.ownsRow wF.heap.size 49 3 (.slice A8 (C.length + 1) c8) (C.length + 1) ((C.flatMap Clm.cs).take (i * 3) ++ [.string ma, .string mb, .bool ms] ++ (C.flatMap Clm.cs).drop (i * 3)) → (wc.alloc (.cells #[.string ma, .string mb, .bool ms] 49)).grownBy w8 (Value.slice A C.length c).ownBlock →
                  Hid (RC M1 M2 (.slice AO R.length cO) w2.heap.size wF (k + 1) (w8.setCell ⟨w2.heap.size, 1, none⟩ (.slice A8 (C.length + 1) c8))) ∧ w8.cell? ⟨w2.heap.size, 1, none⟩ = some (.slice A C.length c) ∧ w8.frozen? ⟨w2.heap.size, 1, none⟩ = false) := fun A8 c8 w8 h1 h2 => by
                obtain ⟨k1, k2⟩ := rc_put (i := i) HC1.out HC2.out HC3.out HC4.out HC5.out HC6.out hlt HMJ.out HOT.out (by omega) (Gq.alloc HG9O.out _) HIO.out h1 h2
                exact ⟨k1, k2.cell 1, k2.frozen 1⟩
              go_upto_region 39 with (fail)
              go_wp2_with fail
              refine HINS.out.mono ?_
              rintro e w8 ⟨v8, rfl, hown8, hb8, hoth⟩
              obtain ⟨A8, c8, rfl⟩ := slice_of_own hown8
              obtain ⟨HF8, s80, s81⟩ := HPV.out A8 c8 w8 hown8 (ins_grown (row := (Value.slice A C.length c).ownBlock) hb8 hoth)
              clear hown8 hb8 hoth HPV HINS o1 t0 t1 t2
              go_wp2_with fail
              go_roundw
              case rel => exact ⟨k + 1, by omega, by go_num, HF8⟩
              case measure => simp [intOf]; omega
            | false =>
              have hiR : i < C.length := by
                by_cases h : i < C.length
                · exact h
                · have := HINB.out; rw [dif_neg h] at this; cases this
              have HCF : Hid (clLt ⟨ma, mb, ms⟩ C[i] = false) := by have := HINB.out; rwa [dif_pos hiR] at this
              obtain ⟨bR, oR, rfl, hbR, hcR⟩ := clm_at (Rd.of_own HOW9.out) (by omega)
              obtain ⟨_, _, r2⟩ := hcR i hiR
              have j0 : (0 : Int) ≤ (i : Int) := by omega
              have j1 : (i : Int) < (C.length : Int) := by omega
              obtain ⟨s1, hs1⟩ : ∃ s, C[i].s = s := ⟨_, rfl⟩
              rw [hs1] at r2
              obtain ⟨ne, hne⟩ : ∃ b, (!(s1 == ms)) = b := ⟨_, rfl⟩
              have HOT : Hid (oth C ⟨ma, mb, ms⟩ = ne) := by
                show _ = _
                have hat := HAT.out
                have hcf := HCF.out
                subst hat
                rw [oth_at HSR.out, dif_pos hiR, hcf, hs1]
                exact hne
              have HII : Hid (insC C ⟨ma, mb, ms⟩ = C) := by
                have hat := HAT.out
                have hcf := HCF.out
                subst hat
                exact insC_in C _ hiR hcf
              clear hcR hs1 t0 t1
              obtain ⟨wp9, hwp9⟩ : ∃ wp9, wp9 = wc := ⟨_, rfl⟩
              subst hwp9
              go_upto_region 40 with (fail)
              go_cut [181] (fun v wx => v = .bool ne ∧ ∃ n, wx = wp9.drewN n)
              case first =>
                go_wp2_with fail
                go_quiet (fail)
                go_wp2_with fail
                go_meet
                case rel => exact ⟨rfl, _, rfl⟩
              case rest =>
                obtain ⟨rfl, n9, hwc9⟩ := hcut
                have HGJ : Hid (Gq wo wc) := by show Gq _ _; rw [hwc9]; exact below_drewN HG9O.out n9
                have HRI := Lib.hid (HCG.out wc (HC6.out.trans (grown_gq HGJ.out _)))
                clear hwc9 o1 r2 t2 hne
                cases ne with
                | false =>
                  have HF8 : Hid (RC M1 M2 (.slice AO R.length cO) w2.heap.size wF (k + 1) wc) := rc_in HRC.out hlt HGJ.out (by rw [← HC2.out, HMJ.out]; exact HOT.out) (by rw [← HC2.out, HMJ.out]; exact HII.out)
                  go_wp2_with fail
                  go_roundw
                  case rel => exact ⟨k + 1, by omega, by go_num, HF8⟩
                  case measure => simp [intOf]; omega
                | true =>
                  have HB9 : Hid (badC [] (M1 ++ M2) = true) := by
                    show _ = _
                    rw [← badI_all HMM.out.1 HMM.out.2.2]
                    refine badI_take (k := k + 1) ?_
                    rw [badI_succ _ _ _ hlt, ← HC2.out, HMJ.out, HOT.out]; simp
                  obtain ⟨r0, r1, f0, f1, f2, r2, s0, s1⟩ := res2 HRI.out.2.2.2 (.slice none 0 0) (.slice none 0 0)
                  have HE : Hid (JoiR pa pb ((wc.setCell ⟨w.heap.size + 2, 0, none⟩ (.slice none 0 0)).setCell ⟨w.heap.size + 2, 1, none⟩ (.slice none 0 0)) (.returned (.tuple #[.agg #[.slice none 0 0, .slice none 0 0], .int .i64 12]))) :=
                    JoiR.clash HFA.out HFB.out (by rw [HPA.out, HPB.out]; exact HB9.out)
                  go_wp2_with fail
                  refine bodyPost_ret (v := .tuple #[.agg #[.slice none 0 0, .slice none 0 0], .int .i64 12]) (by simp [results, Tryz.results5, go_sem, s0, s1]) rfl ⟨HE.out, (HRI.out.1.setCell (p := ⟨w.heap.size + 2, 0, none⟩) (Nat.le_add_right w.heap.size 2) _).setCell (p := ⟨w.heap.size + 2, 1, none⟩) (Nat.le_add_right w.heap.size 2) _⟩
end Go.Proofs.YtnlnaglaipjlfaaGreatDoor
