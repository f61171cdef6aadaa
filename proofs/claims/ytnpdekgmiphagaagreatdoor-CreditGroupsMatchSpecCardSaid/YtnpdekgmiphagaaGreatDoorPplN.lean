/- The contract of the reference's Groups. -/
import Derived.Test.YtnpdekgmiphagaaGreatDoorPplM
import Derived.Deep.RegionLaw
namespace Go.Proofs.YtnpdekgmiphagaaGreatDoor
open Go.RowKit Go.Dw Go.Maps

/-- groups, as they can be read -/
def RGrps (w : World) (p : Ppl) (f : Int) (e : Ending) (w' : World) : Prop :=
  ∃ (A : Option Addr) (c : Nat) (G : List Rw), e = .returned (.tuple #[.slice A G.length c, .int .i64 f]) ∧ Rd w' A (G.map Rw.v) ∧ (∀ s ∈ G, Rd w' s.a s.cs) ∧ G.map Rw.cs = (if f = 0 then grpsF p p.ps.length else []).map sb ∧ Below w.heap.size w w'
theorem rgrps_bad {w w' : World} {p : Ppl} {f : Int} {e : Ending} (hf : f ≠ 0) (hb : Below w.heap.size w w') (he : e = .returned (.tuple #[.slice none 0 0, .int .i64 f])) : RGrps w p f e w' :=
  ⟨none, 0, [], he, .inl rfl, (fun s hs => by cases hs), by rw [if_neg hf]; rfl, hb⟩
set_option maxRecDepth 100000 in
set_option maxHeartbeats 8000000 in
theorem groupsR_any (x : Peo) (w : World) (h : PeoOk w x) (hmx : HasMax w) :
    Calls Tryz.prog 5 #[x.v] w (RGrps w x.x (peoF x.x)) := by
  have HOK := Lib.hid h
  have HCK := Lib.hid (fun (W : World) (hW : Below w.heap.size w W) => peopleR_any x W (h.below hW) (hmx.below hW))
  have HLD := Lib.hid (fun (W : World) (hW : Below w.heap.size w W) hcs hn hm => leaders_any x W (h.below hW) hcs hn hm)
  obtain ⟨⟨A, c, L⟩, ⟨B, d, C⟩⟩ := x
  have hpl : L.length ≤ 9223372036854775807 := h.pl
  obtain ⟨p, hp⟩ : ∃ p : Ppl, p = Peo.x ⟨⟨A, c, L⟩, ⟨B, d, C⟩⟩ := ⟨_, rfl⟩
  have HPP : Hid (p.ps = L.map Psn.x) := by rw [hp]; rfl
  have HLN : Hid (p.ps.length = L.length) := by show _ = _; rw [HPP.out]; simp
  have HID : Hid (∀ k (hk : k < L.length), idAt p.ps k = L[k].id) := fun k hk => by
    rw [idAt_at (by rw [HLN.out]; exact hk)]
    simp only [HPP.out, List.getElem_map]; rfl
  rw [← hp] at HLD HCK ⊢
  clear h hmx hp
  unfold Peo.v at *
  simp only [Slc.v] at *
  obtain ⟨w0, hw0⟩ : ∃ w0, w0 = w.alloc (.cells #[.slice A L.length c, .slice B C.length d] 25) := ⟨_, rfl⟩
  have HB0 : Hid (Below w.heap.size w w0) := by rw [hw0]; exact (Below.refl _ _).alloc (Nat.le_refl _) _
  have HX0 : Hid (w0.cell? ⟨w.heap.size, 0, none⟩ = some (.slice A L.length c) ∧ w0.cell? ⟨w.heap.size, 1, none⟩ = some (.slice B C.length d)) := by rw [hw0]; exact peoBox
  have hz0 : w.heap.size < w0.heap.size := by rw [hw0]; simp
  have HW0 := Lib.hid hw0
  have HPX : Hid (∀ W, Gq w0 W → Below w.heap.size w W ∧ W.cell? ⟨w.heap.size, 0, none⟩ = some (.slice A L.length c) ∧ W.cell? ⟨w.heap.size, 1, none⟩ = some (.slice B C.length d)) := fun W hW => by
    have hb : Below w.heap.size w W := HB0.out.trans (Below.mono hW HB0.out.size)
    exact ⟨hb, by rw [Below.cell hW (by exact hz0)]; exact HX0.out.1, by rw [Below.cell hW (by exact hz0)]; exact HX0.out.2⟩
  obtain ⟨_, z0, z1⟩ := HPX.out w0 (Gq.refl _)
  obtain ⟨pf, hpf⟩ : ∃ pf, peoF p = pf := ⟨_, rfl⟩
  have HPF := Lib.hid hpf
  simp only [hpf] at HCK
  rw [hpf]
  clear hw0 HX0 hpf
  have HC0 := Lib.hid (HCK.out w0 HB0.out)
  obtain ⟨ir, hir0, hir1, hir2, hir3⟩ := info_parts info_ss
  obtain ⟨is, his0, his1, his2, his3⟩ := info_parts info_st
  have HIR := Lib.hid (And.intro hir0 (And.intro hir1 (And.intro hir2 hir3)))
  have HIS := Lib.hid (And.intro his0 (And.intro his1 (And.intro his2 his3)))
  clear hir0 hir1 hir2 hir3 his0 his1 his2 his3
  go_enter Tryz.func5, Tryz.ntmps5
  go_upto_region 1 with (fail)
  rw [← HW0.out]
  go_wp2_with fail
  refine HC0.out.mono ?_
  rintro e w1 ⟨rfl, hq1⟩
  have HG1 : Hid (Gq w0 w1) := hq1
  clear hq1 z0 z1
  obtain ⟨hbw1, z0, z1⟩ := HPX.out w1 HG1.out
  have HBW1 := Lib.hid hbw1
  clear hbw1
  by_cases hz : pf = 0
  case neg =>
    have hzb : (pf != 0) = true := by simpa using hz
    have HR := Lib.hid (fun e he => rgrps_bad (p := p) (e := e) hz HBW1.out he)
    clear hz
    go_wp2_with fail
    go_ret2
    exact HR.out _ rfl
  subst hz
  have HPR := Lib.hid (pplR_of HPF.out)
  have HM := Lib.hid (HLD.out w1 HBW1.out HPR.out.cs HPR.out.n HPR.out.m)
  have hn' : L.length ≤ 100 := by rw [← HLN.out]; exact HPR.out.n
  clear HC0
  go_wp2_with fail
  refine HM.out.mono ?_
  rintro e w3 ⟨A3, c3, rfl, hr3, hq3⟩
  rw [HLN.out] at hr3
  have HRL := Lib.hid hr3
  have HG3 : Hid (Gq w0 w3) := Below.trans HG1.out (hq3.mono (Below.size HG1.out))
  clear hr3 hq3 z0 z1
  have HBW3 := Lib.hid (HPX.out w3 HG3.out).1
  rw [HLN.out]
  go_wp2_with fail
  go_loopw [6, 20] (fun ov qv wr => ∃ (q : Nat) (G : List Rw), q ≤ L.length ∧ qv = .int .i64 (q : Int) ∧ G.length ≤ q ∧ Hid (wr.ownsRow w3.heap.size 44 1 ov G.length (G.map Rw.v)) ∧ Hid (Rws wr ov.ownBlock G) ∧ Hid (G.map Rw.cs = ((ledF p q).map (grpF p L.length)).map sb) ∧ Hid (Below w3.heap.size w3 wr)) (fun _ qv _ => L.length - (intOf qv).toNat)
  case atStart => exact ⟨0, [], by omega, rfl, by simp, World.ownsRow_nil _ _ _ _, (fun s hs => by cases hs), rfl, Below.refl _ _⟩
  case round =>
    obtain ⟨q, G, hq, rfl, hGl, HO, HR2, HE, HB⟩ := hrel
    obtain ⟨Ao, co, rfl⟩ := slice_of_own HO.out
    obtain ⟨wo, hwo⟩ : ∃ wo, wo = wr := ⟨_, rfl⟩
    subst hwo
    by_cases hqn : q < L.length
    case neg =>
      have hqe : q = L.length := by omega
      have hd0 : decide (q < L.length) = false := by simpa using hqn
      have HP : Hid (RGrps w p 0 (.returned (.tuple #[.slice Ao G.length co, .int .i64 0])) wo) := ⟨Ao, co, G, rfl, Rd.of_own HO.out, HR2.out.rd, by rw [HE.out, hqe, if_pos rfl, HLN.out]; rfl, HBW3.out.trans (HB.out.mono HBW3.out.size)⟩
      clear hqe
      go_wp2_with fail
      go_ret2
      exact HP.out
    have hd0 : decide (q < L.length) = true := by simpa using hqn
    obtain ⟨g, goff, rfl, hg, hgc⟩ := HRL.out.at_ (by rw [nc_len]; simp; omega)
    have HGC : Hid (∀ (W : World), Below w3.heap.size w3 W → ∀ i, i < L.length → W.cell? ⟨g, goff + i, none⟩ = some (.int .i64 ((lab p i : Nat) : Int))) := fun W hW i hi => by
      rw [hW.cell (by exact hg)]
      exact hgc i _ (by rw [nc_at _ _ (by simpa using hi)]; simp)
    clear hgc
    have hszo := HB.out.size
    have yq := HGC.out wo HB.out q hqn
    have HLS := Lib.hid (ledF_succ p q)
    obtain ⟨lq, hlq⟩ : ∃ lq, lab p q = lq := ⟨_, rfl⟩
    rw [hlq] at yq HLS
    clear hlq
    have q0 : (0 : Int) ≤ (q : Int) := by omega
    have q1 : (q : Int) < (L.length : Int) := by omega
    by_cases hlead : lq = q
    case neg =>
      have hne : ((lq : Int) != (q : Int)) = true := by simp; omega
      have HNX : Hid (ledF p (q + 1) = ledF p q) := by show _ = _; rw [HLS.out, if_neg hlead]
      clear hlead
      go_wp2_with fail
      go_roundw
      case rel => exact ⟨q + 1, G, by omega, by go_num, by omega, HO, HR2, by rw [HNX.out]; exact HE, HB⟩
      case measure => simp [intOf]; omega
    have hne : ((lq : Int) != (q : Int)) = false := by simp [hlead]
    have HNX : Hid (ledF p (q + 1) = ledF p q ++ [q]) := by show _ = _; rw [HLS.out, if_pos hlead]
    have hlead' := hlead.symm
    subst hlead'
    clear HLS hlead
    obtain ⟨_, z0, z1⟩ := HPX.out wo (Below.trans HG3.out (Below.mono HB.out (Below.size HG3.out)))
    go_wp2_with fail
    go_loopw [8, 32] (fun nv iv wr => ∃ (i : Nat) (N : List ByteArray), i ≤ L.length ∧ iv = .int .i64 (i : Int) ∧ N.length ≤ i ∧ Hid (N = grpF p i q) ∧ Hid (wr.ownsRow wo.heap.size 9 1 nv N.length (sb N)) ∧ Hid (Below wo.heap.size wo wr)) (fun _ iv _ => L.length - (intOf iv).toNat)
    case atStart => exact ⟨0, [], by omega, rfl, by simp, rfl, World.ownsRow_nil _ _ _ _, Below.refl _ _⟩
    case round =>
      clear z0 z1
      obtain ⟨i, N, hi, rfl, hNl, HN, HNO, HNB⟩ := hrel
      obtain ⟨A4, c4, rfl⟩ := slice_of_own HNO.out
      have hszr := HNB.out.size
      by_cases hil : i < L.length
      case neg =>
        have hie : i = L.length := by omega
        have hd1 : decide (i < L.length) = false := by simpa using hil
        have HNE : Hid (N = grpF p L.length q) := by show _ = _; rw [HN.out, hie]
        clear hie
        have HOA : Hid ((wr.alloc (.cells #[.slice A4 N.length c4] 44)).ownsRow w3.heap.size 44 1 (.slice Ao G.length co) G.length (G.map Rw.v)) := (own_belowL HO.out HNB.out).alloc _
        have HRA : Hid (Rws (wr.alloc (.cells #[.slice A4 N.length c4] 44)) (Value.slice Ao G.length co).ownBlock (G ++ [⟨A4, c4, sb N⟩])) := by
          refine Rws.below (Rws.snoc (HR2.out.below HNB.out) ?_) ((Below.refl _ _).alloc (Nat.le_refl _) _)
          exact rds_own HNO.out (fun k hk => (HO.out.lt k hk).2)
        have HBA2 : Hid (Below w3.heap.size w3 (wr.alloc (.cells #[.slice A4 N.length c4] 44))) := (HB.out.trans (HNB.out.mono hszo)).alloc (by omega) _
        have hGl2 : G.length ≤ 100 := by omega
        go_wp2_with (at_builtin; refine wpList_append_lies _ rfl _ _ 26 rfl w3.heap.size 44 ir _ 1 24 Tryz.underlying26 HIR.out.1 HIR.out.2.1 HIR.out.2.2.1 HIR.out.2.2.2 rfl (by decide) _ _ _ rfl HOA.out ⟨wr.heap.size, 0, none⟩ 1 1 [.slice A4 N.length c4] (by rfl) (by rfl) (World.news_of_block (cs := #[.slice A4 N.length c4]) (t := 44) (fr := (0, 0)) (heap_alloc_new wr _)) (by simp [Value.oneCell']) (by decide) (by unfold maxLen; omega) (by omega) (by simp; omega) (wr.heap.size + 1) (by simp) ?_; intro g2 cap2 w5 hown2 hgrow2 hat2 hlt2)
        have HO2 : Hid (w5.ownsRow w3.heap.size 44 1 (.slice (some ⟨g2, 0, none⟩) (G ++ [(⟨A4, c4, sb N⟩ : Rw)]).length cap2) (G ++ [(⟨A4, c4, sb N⟩ : Rw)]).length ((G ++ [(⟨A4, c4, sb N⟩ : Rw)]).map Rw.v)) := by
          show World.ownsRow _ _ _ _ _ _ _
          rw [List.length_append, List.map_append]
          have e1 : Rw.v ⟨A4, c4, sb N⟩ = .slice A4 N.length c4 := by unfold Rw.v; rw [sb_len]
          rw [List.map_cons, e1]
          exact hown2
        have HR3 : Hid (Rws w5 (some g2) (G ++ [⟨A4, c4, sb N⟩])) := HRA.out.app hgrow2 (by rw [show (wr.alloc (.cells #[.slice A4 N.length c4] 44)).heap.size = wr.heap.size + 1 by simp]; exact hat2)
        have HB3 : Hid (Below w3.heap.size w3 w5) := HBA2.out.grown hgrow2 (by simp; omega) (fun k hk => (HO.out.lt k hk).1)
        have HE3 : Hid ((G ++ [(⟨A4, c4, sb N⟩ : Rw)]).map Rw.cs = ((ledF p (q + 1)).map (grpF p L.length)).map sb) := by show _ = _; rw [List.map_append, HE.out, HNX.out, List.map_append, List.map_append, HNE.out]; rfl
        have hl3 : (G ++ [(⟨A4, c4, sb N⟩ : Rw)]).length = G.length + 1 := by simp
        have hl4 : (G ++ [(⟨A4, c4, sb N⟩ : Rw)]).length ≤ q + 1 := by omega
        generalize G ++ [(⟨A4, c4, sb N⟩ : Rw)] = G3 at *
        have HL3 := Lib.hid hl3
        clear hown2 hgrow2 hat2 HOA HRA HBA2 hl3
        go_wp2_with fail
        go_roundw
        case rel => exact ⟨q + 1, G3, by omega, by go_num, hl4, by rw [← HL3.out]; exact HO2, HR3, HE3, HB3⟩
        case measure => simp [intOf]; omega
      have hd1 : decide (i < L.length) = true := by simpa using hil
      have HBR : Hid (Below w3.heap.size w3 wr) := HB.out.trans (HNB.out.mono hszo)
      obtain ⟨b, off, hAB, hb, hcs⟩ := psn_at (HOK.out.pr.below (HBW3.out.trans (HBR.out.mono HBW3.out.size))) (by show 0 < L.length; omega)
      simp only at hAB hcs
      subst hAB
      obtain ⟨d0, d1⟩ := hcs i hil
      have HIK := Lib.hid (HID.out i hil)
      clear hcs
      generalize L[i] = xx at *
      obtain ⟨nm, ⟨sa, sc, sl⟩⟩ := xx
      simp only at d0 d1 HIK
      obtain ⟨wA, hwA⟩ : ∃ wA, wA = wr.alloc (.cells #[.string nm, .slice sa sl.length sc] 46) := ⟨_, rfl⟩
      have HPA : Hid (Below wr.heap.size wr wA) := by rw [hwA]; exact (Below.refl _ _).alloc (Nat.le_refl _) _
      have k0 : wA.cell? ⟨wr.heap.size, 0, none⟩ = some (.string nm) := by rw [hwA]; exact new_cell (cs := [_, _]) rfl rfl
      have hszA := HPA.out.size
      have HNA : Hid (wA.ownsRow wo.heap.size 9 1 (.slice A4 N.length c4) N.length (sb N)) := own_belowL HNO.out HPA.out
      have HBA : Hid (Below wo.heap.size wo wA) := HNB.out.trans (HPA.out.mono hszr)
      have yi := HGC.out wA (HBR.out.trans (HPA.out.mono HBR.out.size)) i hil
      have HGS := Lib.hid (grpF_succ p i q)
      obtain ⟨u, hu⟩ : ∃ u, lab p i = u := ⟨_, rfl⟩
      rw [hu] at yi HGS
      rw [HIK.out, ← HN.out] at HGS
      have HWA := Lib.hid hwA
      clear hu hwA
      have i0 : (0 : Int) ≤ (i : Int) := by omega
      have i1 : (i : Int) < (L.length : Int) := by omega
      go_upto_region 14 with (fail)
      rw [← HWA.out]
      clear d0 d1
      by_cases huq : u = q
      · have HN2 : Hid (N ++ [nm] = grpF p (i + 1) q) := by show _ = _; rw [HGS.out, if_pos huq]
        have HLA : Hid ((wA.alloc (.cells #[.string nm] 9)).ownsRow wo.heap.size 9 1 (.slice A4 N.length c4) N.length (sb N)) := HNA.out.alloc _
        have hub : ((u : Int) == (q : Int)) = true := by simp [huq]
        have hub2 : (u == q) = true := by simp [huq]
        have hNl2 : N.length ≤ 100 := by omega
        have hszA2 := HBA.out.size
        clear huq
        go_wp2_with (at_builtin; refine wpList_append_own _ rfl _ _ 44 rfl wo.heap.size 9 is _ 1 16 Tryz.underlying44 HIS.out.1 HIS.out.2.1 HIS.out.2.2.1 HIS.out.2.2.2 rfl (by decide) _ _ _ rfl HLA.out ⟨wA.heap.size, 0, none⟩ 1 1 [.string nm] (by rfl) (by rfl) (World.news_of_block (cs := #[.string nm]) (t := 9) (fr := (0, 0)) (heap_alloc_new wA _)) (by simp [Value.oneCell']) (by unfold maxLen; omega) (by omega) (by simp; omega) ?_; intro v1 w5 hown2 hgrow2 _)
        have HB5 : Hid (Below wo.heap.size wo w5) := (HBA.out.alloc hszA2 _).grown hgrow2 (by simp; omega) (fun g hg => (HNO.out.lt g hg).1)
        have HO5 : Hid (w5.ownsRow wo.heap.size 9 1 v1 (N ++ [nm]).length (sb (N ++ [nm]))) := by
          show World.ownsRow _ _ _ _ _ _ _
          rw [sb_snoc, List.length_append]
          exact hown2
        clear hown2 hgrow2 HLA
        have hl5 : (N ++ [nm]).length ≤ i + 1 := by simp; omega
        generalize N ++ [nm] = N2 at *
        go_wp2_with fail
        go_roundw
        case rel => exact ⟨i + 1, N2, by omega, by go_num, hl5, HN2, HO5, HB5⟩
        case measure => simp [intOf]; omega
      · have hub : ((u : Int) == (q : Int)) = false := by simp; omega
        have hub2 : (u == q) = false := by simp [huq]
        have HN2 : Hid (N = grpF p (i + 1) q) := by show _ = _; rw [HGS.out, if_neg huq]
        go_wp2_with fail
        go_roundw
        case rel => exact ⟨i + 1, N, by omega, by go_num, by omega, HN2, HNA, HBA⟩
        case measure => simp [intOf]; omega
end Go.Proofs.YtnpdekgmiphagaaGreatDoor
