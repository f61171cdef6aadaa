/- The contract of credit.Groups. -/
import Derived.Test.YtnlnaglaipjlfaaGreatDoorPplF
import Derived.Test.YtnlnaglaipjlfaaGreatDoorPplS
import Derived.Deep.RegionLaw
import Derived.Deep.CutRange
namespace Go.Proofs.YtnlnaglaipjlfaaGreatDoor
open Go.RowKit Go.Dw Go.Maps

theorem zeroInt : ∀ w, (zeroValue 3).run Tryz.prog w = .ok (.int .i64 0) w := fun w => Tryz.zeroValue3 w
theorem info_ss : (Tryz.prog.info? 35).map (fun i => (i.zero, i.size, i.bytes)) = some (some (.slice none 0 0), 1, 24) := by kernel_rfl
theorem info_st : (Tryz.prog.info? 9).map (fun i => (i.zero, i.size, i.bytes)) = some (some (.string ByteArray.empty), 1, 16) := by kernel_rfl
abbrev GIx (w : World) (B : Nat) (ov : Value) (R : List (Value × List ByteArray)) : Prop := GI 35 9 w B ov R
/-- groups as rows -/
def GrpsPost (w : World) (p : Ppl) (f : Int) (e : Ending) (w' : World) : Prop :=
  Below w.heap.size w w' ∧ ∃ A c, ∃ R : List (Value × List ByteArray), e = .returned (.tuple #[.slice A R.length c, .int .i64 f]) ∧ R.map Prod.snd = (if f = 0 then grpsF p p.ps.length else []) ∧ GIx w' w.heap.size (.slice A R.length c) R
theorem grpsPost_bad {w w' : World} {p : Ppl} {f : Int} {e : Ending} (hf : f ≠ 0) (hb : Below w.heap.size w w') (he : e = .returned (.tuple #[.slice none 0 0, .int .i64 f])) : GrpsPost w p f e w' :=
  ⟨hb, none, 0, [], he, by rw [if_neg hf]; rfl, GI.nil _ _ _ _⟩
theorem own_base {w : World} {base B' e size n : Nat} {v : Value} {xs : List Value} (h : w.ownsRow base e size v n xs) (hb : B' ≤ base) : w.ownsRow B' e size v n xs :=
  ⟨h.1, h.2.imp id (fun ⟨g, cap, cur, e1, e2, r⟩ => ⟨g, cap, cur, e1, Nat.le_trans hb e2, r⟩)⟩
theorem GI.keep {T S : TypeId} {w w' : World} {B : Nat} {ov : Value} {R : List (Value × List ByteArray)} {row : Option Nat} (h : GI T S w B ov R) (hg : w.grownBy w' row) (hne : ∀ b, B ≤ b → b < w.heap.size → row ≠ some b) : GI T S w' B ov R :=
  ⟨own_keep h.o hg (fun b hb => hne b (h.o.lt b hb).1 (h.o.lt b hb).2), fun i hi => own_keep (h.r i hi) hg (fun b hb => hne b ((h.r i hi).lt b hb).1 ((h.r i hi).lt b hb).2), h.d, h.p⟩
theorem blk_grown {w w' : World} {g : Nat} {t : TypeId} {cs : List Value} {row : Option Nat} (h : Blk w g t cs) (hg : w.grownBy w' row) (hne : some g ≠ row) : Blk w' g t cs := (hg.block g h.lt hne).trans h
theorem GI.drew {T S : TypeId} {w : World} {B : Nat} {ov : Value} {R : List (Value × List ByteArray)} (h : GI T S w B ov R) : GI T S w.drew B ov R := ⟨h.o, h.r, h.d, h.p⟩
theorem GI.mono {T S : TypeId} {w : World} {B B' : Nat} {ov : Value} {R : List (Value × List ByteArray)} (h : GI T S w B ov R) (hb : B' ≤ B) : GI T S w B' ov R :=
  ⟨own_base h.o hb, fun i hi => own_base (h.r i hi) hb, h.d, h.p⟩
set_option maxRecDepth 100000 in
set_option maxHeartbeats 8000000 in
theorem groups_any (x : Peo) (w : World) (h : PeoOk w x) (hmx : HasMax w) :
    Calls Tryz.prog 8 #[x.v] w (GrpsPost w x.x (peoF x.x)) := by
  have HOK := Lib.hid h
  have HCK := Lib.hid (fun (W : World) (hW : Below w.heap.size w W) => people_any x W (h.below hW) (hmx.below hW))
  have HMN := Lib.hid (fun (W : World) (hW : Below w.heap.size w W) hps hcs hn hm => mains_any x W (h.below hW) hps hcs hn hm)
  obtain ⟨⟨A, c, L⟩, ⟨B, d, C⟩⟩ := x
  have hpl : L.length ≤ 9223372036854775807 := h.pl
  obtain ⟨p, hp⟩ : ∃ p : Ppl, p = Peo.x ⟨⟨A, c, L⟩, ⟨B, d, C⟩⟩ := ⟨_, rfl⟩
  have HPP : Hid (p.ps = L.map Psn.x) := by rw [hp]; rfl
  have HLN : Hid (p.ps.length = L.length) := by show _ = _; rw [HPP.out]; simp
  have HID : Hid (∀ k (hk : k < L.length), idAt p.ps k = L[k].id) := fun k hk => by
    rw [idAt_at (by rw [HLN.out]; exact hk)]
    simp only [HPP.out, List.getElem_map]; rfl
  have HSZ : Hid (∀ k (hk : k < L.length), (idAt p.ps k).size ≤ 9223372036854775807) := fun k hk => by
    rw [HID.out k hk]; exact (HOK.out.po _ (List.getElem_mem hk)).1.1
  rw [← hp] at HMN HCK ⊢
  clear h hmx hp
  unfold Peo.v at *
  simp only [Slc.v] at *
  obtain ⟨w0, hw0⟩ : ∃ w0, w0 = w.alloc (.cells #[.slice A L.length c, .slice B C.length d] 25) := ⟨_, rfl⟩
  have HB0 : Hid (Below w.heap.size w w0) := by rw [hw0]; exact (Below.refl _ _).alloc (Nat.le_refl _) _
  have HX0 : Hid (w0.cell? ⟨w.heap.size, 0, none⟩ = some (.slice A L.length c) ∧ w0.cell? ⟨w.heap.size, 1, none⟩ = some (.slice B C.length d)) := by rw [hw0]; exact peoBox
  have hz0 : w.heap.size < w0.heap.size := by rw [hw0]; simp
  have HW0 := Lib.hid hw0
  have HPX : Hid (∀ W, Gq w0 W → Below w.heap.size w W ∧ W.cell? ⟨w.heap.size, 0, none⟩ = some (.slice A L.length c) ∧ W.cell? ⟨w.heap.size, 1, none⟩ = some (.slice B C.length d)) := fun W hW => by
    have hb : Below w.heap.size w W := HB0.out.trans (Below.mono hW HB0.out.size)
    exact ⟨hb, by rw [Below.cell hW (by exact hz0)]; exact HX0.out.1, by rw [Below.cell hW (by exact hz0)]; exact HX0.out.2⟩
  obtain ⟨_, z0, z1⟩ := HPX.out w0 (Gq.refl _)
  obtain ⟨pf, hpf⟩ : ∃ pf, peoF p = pf := ⟨_, rfl⟩
  have HPF := Lib.hid hpf
  simp only [hpf] at HCK
  rw [hpf]
  clear hw0 HX0 hpf
  have HC0 := Lib.hid (HCK.out w0 HB0.out)
  obtain ⟨ir, hir0, hir1, hir2, hir3⟩ := info_parts info_ss
  obtain ⟨is, his0, his1, his2, his3⟩ := info_parts info_st
  have HIR := Lib.hid (And.intro hir0 (And.intro hir1 (And.intro hir2 hir3)))
  have HIS := Lib.hid (And.intro his0 (And.intro his1 (And.intro his2 his3)))
  have hmm := @run_makeMap Tryz.prog
  clear hir0 hir1 hir2 hir3 his0 his1 his2 his3
  go_enter Tryz.func8, Tryz.ntmps8
  go_upto_region 1 with (fail)
  rw [← HW0.out]
  go_wp2_with fail
  refine HC0.out.mono ?_
  rintro e w1 ⟨rfl, hq1⟩
  have HG1 : Hid (Gq w0 w1) := hq1
  clear hq1 z0 z1
  obtain ⟨hbw1, z0, z1⟩ := HPX.out w1 HG1.out
  have HB1 := Lib.hid hbw1
  clear hbw1
  by_cases hz : pf = 0
  case neg =>
    have hzb : (pf != 0) = true := by simpa using hz
    have HNZ : Hid (pf ≠ 0) := hz
    clear hz
    go_wp2_with fail
    go_ret2
    exact grpsPost_bad HNZ.out HB1.out rfl
  subst hz
  have HPR := Lib.hid (pplR_of HPF.out)
  have hn100 : L.length ≤ 100 := by have := HPR.out.n; rw [HLN.out] at this; exact this
  have HM := Lib.hid (HMN.out w1 HB1.out HPR.out.ps HPR.out.cs HPR.out.n HPR.out.m)
  go_wp2_with fail
  refine HM.out.mono ?_
  rintro e w2 ⟨mb, hmb, rfl, hof, hq2⟩
  have HOF := Lib.hid hof
  have hmbl : mb < w2.heap.size := OMap.lt hof
  have HG2 : Hid (Gq w0 w2) := Below.trans HG1.out (hq2.mono (Below.size HG1.out))
  clear hq2 hof z0 z1
  obtain ⟨w3, hw3⟩ : ∃ w3, w3 = w2.alloc (.map #[] 0) := ⟨_, rfl⟩
  have HA3 : Hid (OMap Tryz.prog 9 w3 w2.heap.size 0 (atK p 0)) := by rw [hw3, atK_zero]; exact OMap.made w2 _ _
  have HG3 : Hid (Gq w2 w3) := by rw [hw3]; exact (Gq.refl _).alloc _
  have hz3 : w3.heap.size = w2.heap.size + 1 := by rw [hw3]; simp
  have HZ3 := Lib.hid hz3
  have HW3 := Lib.hid hw3
  clear hw3 hz3
  obtain ⟨_, z0, z1⟩ := HPX.out w3 (Below.trans HG2.out (Below.mono HG3.out (Below.size HG2.out)))
  go_upto_region 6 with (fail)
  rw [← HW3.out]
  go_wp2_with fail
  go_loopw [7, 22] (fun ov kv wr => ∃ (k : Nat) (R : List (Value × List ByteArray)), k ≤ L.length ∧ kv = .int .i64 (k : Int) ∧ Hid (R.map Prod.snd = grpsF p k) ∧ Hid (GIx wr (w2.heap.size + 1) ov R) ∧ Hid (OMap Tryz.prog 9 wr w2.heap.size k (atK p k)) ∧ Hid (Gq w2 wr) ∧ w2.heap.size + 1 ≤ wr.heap.size) (fun _ kv _ => L.length - (intOf kv).toNat)
  case atStart => exact ⟨0, [], Nat.zero_le _, rfl, rfl, GI.nil _ _ _ _, HA3, HG3, by rw [HZ3.out]; exact Nat.le_refl _⟩
  case round =>
    obtain ⟨k, R, hk, rfl, HGR, HGI, HAT, HG, hszr⟩ := hrel
    obtain ⟨wo, hwo⟩ : ∃ wo, wo = wr := ⟨_, rfl⟩
    subst hwo
    obtain ⟨AO, cO, rfl⟩ := slice_of_own HGI.out.o
    have HGW : Hid (Gq w0 wo) := Below.trans HG2.out (Below.mono HG.out (Below.size HG2.out))
    have HBW := Lib.hid (HPX.out wo HGW.out).1
    clear z0 z1
    have HRL : Hid (R.length = (ledF p k).length) := by show _ = _; rw [← grps_len, ← HGR.out]; simp
    by_cases hlt : k < L.length
    case neg =>
      have hd1 : decide (k < L.length) = false := by simpa using hlt
      have hke : k = p.ps.length := by rw [HLN.out]; omega
      have HF : Hid (R.map Prod.snd = grpsF p p.ps.length) := by show _ = _; rw [HGR.out, hke]
      clear hke
      go_wp2_with fail
      go_ret2
      exact ⟨HBW.out, AO, cO, R, rfl, by rw [if_pos rfl]; exact HF.out, HGI.out.mono (by have := Below.size HG2.out; omega)⟩
    have hd1 : decide (k < L.length) = true := by simpa using hlt
    have hkp : k < p.ps.length := by rw [HLN.out]; exact hlt
    obtain ⟨b, off, hAB, hb, hcs⟩ := psn_at (HOK.out.pr.below HBW.out) (by show 0 < L.length; omega)
    simp only at hAB hcs
    subst hAB
    obtain ⟨d0, d1⟩ := hcs k hlt
    have hll := lab_lt (p := p) hkp
    have hle := lab_le p k
    have HLV : Hid (ofK p.ps (lab p) p.ps.length (.string (idAt p.ps k)) = some (.string (idAt p.ps (lab p k)))) := by
      show _ = _
      rw [ofK_at (by rw [HPR.out.ps.ixAt hkp]; exact hkp), HPR.out.ps.ixAt hkp]
    have HKY := Lib.hid (strKey (HSZ.out k hlt))
    have HKM := Lib.hid (strKey (HSZ.out (lab p k) (by rw [← HLN.out]; exact hll)))
    have HEQ : Hid (idAt p.ps (lab p k) = idAt p.ps k ↔ lab p k = k) := HPR.out.ps.idInj hll hkp
    have hidk := HID.out k hlt
    clear hcs
    obtain ⟨idk, hidk2⟩ : ∃ s, idAt p.ps k = s := ⟨_, rfl⟩
    have HIDK := Lib.hid hidk2
    rw [hidk2] at HLV HKY HEQ hidk
    obtain ⟨sa, hsa⟩ : ∃ s, L[k].s = s := ⟨_, rfl⟩
    rw [← hidk] at d0
    rw [hsa] at d1
    have hag : L[k].cs = [.string idk, sa.v] := by unfold Psn.cs; rw [← hidk, hsa]
    obtain ⟨sa1, sc1, sl1⟩ := sa
    simp only at d1
    obtain ⟨mk, hmk⟩ : ∃ s, idAt p.ps (lab p k) = s := ⟨_, rfl⟩
    have HMK := Lib.hid hmk
    rw [hmk] at HLV HKM HEQ
    clear hidk2 hsa hidk hag hmk
    obtain ⟨wB, hwB⟩ : ∃ wB, wB = wo.alloc (.cells #[.string idk, .slice sa1 sl1.length sc1] 41) := ⟨_, rfl⟩
    have HPB : Hid (Gq wo wB) := by rw [hwB]; exact (Gq.refl _).alloc _
    have HGB : Hid (Gq w2 wB) := Below.trans HG.out (Below.mono HPB.out (Below.size HG.out))
    have HKB : Hid (Blk wB wo.heap.size 41 [.string idk, .slice sa1 sl1.length sc1]) := by rw [hwB]; exact Blk.new wo _ _
    have k0 : wB.cell? ⟨wo.heap.size, 0, none⟩ = some _ := HKB.out.cell 0
    have hszB : wB.heap.size = wo.heap.size + 1 := by rw [hwB]; simp
    have HMB : OMap Tryz.prog 9 wB mb 30000 (ofK p.ps (lab p) p.ps.length) := OMap.below HOF.out HGB.out
    have hrun := HMB.look strKeyed Tryz.underlying65 zeroStr HKY.out
    rw [HLV.out, Option.getD_some] at hrun
    have HGIB := Lib.hid (HGI.out.below HPB.out)
    have HATB := Lib.hid (HAT.out.below HPB.out)
    have HWB := Lib.hid hwB
    clear hwB HMB HLV
    go_upto_region 10 with (fail)
    rw [← HWB.out]
    clear d0 d1
    obtain ⟨qb, hqb⟩ : ∃ qb, (mk.toList == idk.toList) = qb := ⟨_, rfl⟩
    have HQB := Lib.hid hqb
    go_upto_region 11 with (fail)
    go_upto_if 33 with (fail)
    clear hrun hqb
    have hkR : R.length ≤ k := by rw [HRL.out]; unfold ledF; have := List.length_filter_le (fun i => decide (lab p i = i)) (List.range k); simp at this; exact this
    go_cut [7] (fun ov wx => ∃ (g cap : Nat) (R2 : List (Value × List ByteArray)), ov = .slice (some ⟨g, 0, none⟩) R2.length cap ∧ R2.length ≤ k + 1 ∧ Hid (R2[posF p (lab p k)]? = some (R2.getD (posF p (lab p k)) (.bool false, []))) ∧ Hid ((R2.map Prod.snd).set (posF p (lab p k)) ((R2.getD (posF p (lab p k)) (.bool false, [])).2 ++ [idk]) = grpsF p (k + 1)) ∧ Hid (GIx wx (w2.heap.size + 1) ov R2) ∧ Hid (OMap Tryz.prog 9 wx w2.heap.size (k + 1) (atK p (k + 1))) ∧ Hid (Gq w2 wx) ∧ Hid (Blk wx wo.heap.size 41 [.string idk, .slice sa1 sl1.length sc1]) ∧ w2.heap.size + 1 ≤ wx.heap.size)
    case first =>
      by_cases hlead : lab p k = k
      · have hse : qb = true := by rw [← HQB.out]; exact seq_t (HEQ.out.2 hlead)
        subst hse
        have hpk : posF p k = R.length := by unfold posF; exact HRL.out.symm
        have HMI : Hid (mk = idAt p.ps k) := by show _ = _; rw [← HMK.out, hlead]
        have HP1 : Hid (atK p (k + 1) (.string mk) = some (.int .i64 (R.length : Int))) := by show _ = _; rw [HMI.out, atK_at HPR.out.ps hkp (by omega) hlead, hpk]
        have HP2 : Hid (∀ x, x ≠ .string mk → atK p (k + 1) x = atK p k x) := by
          have := atK_put2 (p := p) hkp
          rw [← HMI.out] at this; exact this
        have HPL : Hid (posF p (lab p k) = R.length) := by show _ = _; rw [hlead, hpk]
        have HGL : Hid (grpsF p (k + 1) = grpsF p k ++ [[idk]]) := by show _ = _; rw [grps_lead hlead, HIDK.out]
        have hszB2 := hszB
        clear hlead hpk hszB
        go_upto_region 13 with (at_mapUpdate; refine wpList_omap _ rfl _ _ _ 67 rfl 9 3 strKeyed Tryz.underlying67 w2.heap.size k (atK p k) (by rfl) HATB.out (by unfold maxLen; omega) (.string mk) (.int .i64 (R.length : Int)) (by rfl) (by rfl) _ HKM.out (atK p (k + 1)) HP1.out HP2.out ?_; intro w5 ho5 hg5)
        have HA5 := Lib.hid ho5
        have HGI5 : Hid (GIx w5 (w2.heap.size + 1) (.slice AO R.length cO) R) := HGIB.out.keep hg5 (fun b hb _ e => by injection e with e; omega)
        have HG5 : Hid (Gq w2 w5) := Below.grown HGB.out hg5 (Below.size HGB.out) (fun j hj => by injection hj with hj; omega)
        have HK5 : Hid (Blk w5 wo.heap.size 41 [.string idk, .slice sa1 sl1.length sc1]) := blk_grown HKB.out hg5 (fun e => by injection e with e; omega)
        have hsz5 : wo.heap.size + 1 ≤ w5.heap.size := by have := hg5.size; omega
        clear ho5 hg5
        have HAL : Hid (Gq w5 (w5.alloc (.cells #[.slice none 0 0] 35))) := (Gq.refl _).alloc _
        have HOA : Hid ((w5.alloc (.cells #[.slice none 0 0] 35)).ownsRow (w2.heap.size + 1) 35 1 (.slice AO R.length cO) R.length (R.map Prod.fst)) := HGI5.out.o.alloc _
        go_wp2_with (at_builtin; refine wpList_append_lies _ rfl _ _ 32 rfl (w2.heap.size + 1) 35 ir _ 1 24 Tryz.underlying32 HIR.out.1 HIR.out.2.1 HIR.out.2.2.1 HIR.out.2.2.2 rfl (by decide) _ _ _ rfl HOA.out ⟨w5.heap.size, 0, none⟩ 1 1 [.slice none 0 0] (by rfl) (by rfl) (World.news_of_block (cs := #[.slice none 0 0]) (t := 35) (fr := (0, 0)) (heap_alloc_new w5 _)) (by simp [Value.oneCell']) (by decide) (by unfold maxLen; omega) (by omega) (by simp; omega) (w5.heap.size + 1) (by simp) ?_; intro g2 cap2 w6 hown2 hgrow2 hat2 hlt2)
        have HGIA := Lib.hid (HGI5.out.below HAL.out)
        have HGI6 : Hid (GIx w6 (w2.heap.size + 1) (.slice (some ⟨g2, 0, none⟩) (R.length + 1) cap2) (R ++ [(.slice none 0 0, [])])) := GI.snoc HGIA.out rfl hown2 hgrow2 (by rw [show (w5.alloc (.cells #[.slice none 0 0] 35)).heap.size = w5.heap.size + 1 by simp]; exact hat2)
        have HROW : Hid (∀ b, (Value.slice AO R.length cO).ownBlock = some b → w2.heap.size + 1 ≤ b ∧ b < wo.heap.size) := fun b hb => HGI.out.o.lt b hb
        have HA6 : Hid (OMap Tryz.prog 9 w6 w2.heap.size (k + 1) (atK p (k + 1))) := (HA5.out.below HAL.out).kept hgrow2 (fun e => by have := (HROW.out _ e.symm).1; omega)
        have HG6 : Hid (Gq w2 w6) := Below.grown (Below.trans HG5.out (Below.mono HAL.out (Below.size HG5.out))) hgrow2 (by have := Below.size HG5.out; simp; omega) (fun b hb => by have := (HROW.out b hb).1; omega)
        have HK6 : Hid (Blk w6 wo.heap.size 41 [.string idk, .slice sa1 sl1.length sc1]) := blk_grown (HK5.out.same (Same.of_below (S := fun _ => True) HAL.out) trivial) hgrow2 (fun e => by have := (HROW.out _ e.symm).2; omega)
        have hsz6 : w2.heap.size + 1 ≤ w6.heap.size := by have := hgrow2.size; simp at this; omega
        clear hown2 hgrow2 hat2 hlt2 HOA
        go_wp2_with fail
        go_meet
        case rel =>
          refine ⟨g2, cap2, R ++ [(.slice none 0 0, [])], by rw [List.length_append]; rfl, by simp; omega, ?_, ?_, HGI6, HA6, HG6, HK6, hsz6⟩
          · show _ = _
            rw [HPL.out, List.getD_eq_getElem?_getD]
            simp
          · show _ = _
            rw [HPL.out, HGL.out, List.map_append, HGR.out]
            have hl : R.length = (grpsF p k).length := by rw [← HGR.out]; simp
            rw [hl, List.set_append_right _ _ (Nat.le_refl _), List.getD_eq_getElem?_getD, ← hl]
            simp
      · have hse : qb = false := by rw [← HQB.out]; exact seq_f (fun e => hlead (HEQ.out.1 e))
        subst hse
        have hmlt : lab p k < k := by omega
        have hpos := pos_lt hmlt (lab_idem p k)
        have HGA := Lib.hid (grps_at (p := p) hmlt (lab_idem p k))
        have HGM := Lib.hid (grps_more (p := p) hlead)
        have HSK := Lib.hid (atK_skip (p := p) hlead)
        rw [← HRL.out] at hpos
        have HAS : Hid (∃ g, AO = some ⟨g, 0, none⟩) := by
          rcases HGIB.out.o.2 with ⟨_, e⟩ | ⟨g, cc, cur, e, _⟩
          · omega
          · injection e with e _ _; exact ⟨g, e⟩
        obtain ⟨gA, rfl⟩ := HAS.out
        have HA6 : Hid (OMap Tryz.prog 9 wB w2.heap.size (k + 1) (atK p (k + 1))) := by rw [HSK.out]; exact HATB.out.mono (by omega)
        have hsz6 : w2.heap.size + 1 ≤ wB.heap.size := by omega
        clear hlead hmlt
        go_wp2_with fail
        go_meet
        case rel =>
          have hgd : R.getD (posF p (lab p k)) (.bool false, []) = R[posF p (lab p k)] := by rw [List.getD_eq_getElem?_getD, List.getElem?_eq_getElem hpos]; rfl
          have h2 : R[posF p (lab p k)].2 = grpF p k (lab p k) := by
            have h3 := HGA.out
            rw [← HGR.out, List.getElem?_map, List.getElem?_eq_getElem hpos] at h3
            simpa using h3
          refine ⟨gA, cO, R, rfl, by omega, ?_, ?_, HGIB, HA6, HGB, HKB, hsz6⟩
          · show _ = _
            rw [hgd, List.getElem?_eq_getElem hpos]
          · show _ = _
            rw [hgd, h2, HGR.out, HGM.out, HIDK.out]
    case rest =>
      obtain ⟨gO, cO2, R2, rfl, hR2, HR2, HGS, HGI2, HAT2, HGX, HKX, hszx⟩ := hcut
      clear k0 HQB HGIB HATB HKB HGB HPB hszB HWB HEQ HRL HGR HGI HAT
      have HMI : Hid (lab p k < p.ps.length ∧ lab p (lab p k) = lab p k ∧ lab p k < k + 1) := ⟨hll, lab_idem p k, by omega⟩
      obtain ⟨ix, hix⟩ : ∃ ix, posF p (lab p k) = ix := ⟨_, rfl⟩
      have HLK : Hid (atK p (k + 1) (.string mk) = some (.int .i64 (ix : Int))) := by
        show _ = _
        rw [← HMK.out, atK_at HPR.out.ps HMI.out.1 HMI.out.2.2 HMI.out.2.1, hix]
      rw [hix] at HR2 HGS
      clear hix hll hle
      have hiR : ix < R2.length := (List.getElem?_eq_some_iff.1 HR2.out).1
      have hgd : R2.getD ix (.bool false, []) = R2[ix] := by rw [List.getD_eq_getElem?_getD, List.getElem?_eq_getElem hiR]; rfl
      rw [hgd] at HGS
      obtain ⟨rr, hrr⟩ : ∃ rr, R2[ix] = rr := ⟨_, rfl⟩
      have HRR := Lib.hid hrr
      have how := HGI2.out.r ix hiR
      rw [hrr] at how HGS
      obtain ⟨rv, rl⟩ := rr
      simp only at how HGS
      obtain ⟨A5, c5, rfl⟩ := slice_of_own how
      have hcO : wc.cell? ⟨gO, ix, none⟩ = some (.slice A5 rl.length c5) := by
        have h1 := HGI2.out.o.cells (g := gO) rfl ix (.slice A5 rl.length c5) (by rw [List.getElem?_map, List.getElem?_eq_getElem hiR, hrr]; rfl)
        have hadd : (⟨gO, 0, none⟩ : Addr).add ix = ⟨gO, 0 + ix, none⟩ := by unfold Addr.add; split <;> simp_all
        rw [hadd, Nat.zero_add] at h1
        exact h1
      have hcK : wc.cell? ⟨wo.heap.size, 0, none⟩ = some _ := HKX.out.cell 0
      have hrll : rl.length ≤ 200 := by
        have h1 : (grpsF p (k + 1))[ix]? = some (rl ++ [idk]) := by
          rw [← HGS.out, List.getElem?_set_self (by simpa using hiR)]
        have h2 : rl ++ [idk] ∈ grpsF p (k + 1) := List.mem_of_getElem? h1
        unfold grpsF at h2
        obtain ⟨m, _, hm⟩ := List.mem_map.1 h2
        have h3 : (grpF p (k + 1) m).length ≤ k + 1 := by
          unfold grpF
          rw [List.length_map]
          have := List.length_filter_le (fun k_1 => decide (lab p k_1 = m)) (List.range (k + 1))
          simpa using this
        rw [hm, List.length_append] at h3
        simp at h3
        omega
      have HOW := Lib.hid how
      have hgO : gO < wc.heap.size := (HGI2.out.o.lt gO rfl).2
      have hboxl : wo.heap.size < wc.heap.size := HKX.out.lt
      have HROW : Hid (∀ b, (Value.slice A5 rl.length c5).ownBlock = some b → w2.heap.size + 1 ≤ b ∧ b ≠ gO) := fun b hb => ⟨(HOW.out.lt b hb).1, fun e => HGI2.out.d ix hiR b (by rw [HRR.out]; exact hb) (by rw [e]; rfl)⟩
      clear hgd hrr how HR2
      have HFIN : Hid (∀ W g3 cap3 w7, Gq wc W → W.heap.size = wc.heap.size + 1 → w7.ownsRow (w2.heap.size + 1) 9 1 (.slice (some ⟨g3, 0, none⟩) (rl.length + 1) cap3) (rl.length + 1) (sb rl ++ [.string idk]) → W.grownBy w7 (Value.slice A5 rl.length c5).ownBlock → ((Value.slice A5 rl.length c5).ownBlock = some g3 ∨ g3 = wc.heap.size + 1) →
          GIx (w7.setCell ⟨gO, ix, none⟩ (.slice (some ⟨g3, 0, none⟩) (rl.length + 1) cap3)) (w2.heap.size + 1) (.slice (some ⟨gO, 0, none⟩) R2.length cO2) (R2.set ix (.slice (some ⟨g3, 0, none⟩) (rl.length + 1) cap3, rl ++ [idk])) ∧ OMap Tryz.prog 9 (w7.setCell ⟨gO, ix, none⟩ (.slice (some ⟨g3, 0, none⟩) (rl.length + 1) cap3)) w2.heap.size (k + 1) (atK p (k + 1)) ∧ Gq w2 (w7.setCell ⟨gO, ix, none⟩ (.slice (some ⟨g3, 0, none⟩) (rl.length + 1) cap3)) ∧ w2.heap.size + 1 ≤ (w7.setCell ⟨gO, ix, none⟩ (.slice (some ⟨g3, 0, none⟩) (rl.length + 1) cap3)).heap.size) := fun W g3 cap3 w7 hW hsz ho hg hat => by
        have hGW := HGI2.out.below hW
        have hsW := Below.size hW
        have hs7 := hg.size
        have hgO2 : w2.heap.size + 1 ≤ gO := (HGI2.out.o.lt gO rfl).1
        have hA7 : OMap Tryz.prog 9 w7 w2.heap.size (k + 1) (atK p (k + 1)) := (HAT2.out.below hW).kept hg (fun e => by have := (HROW.out _ e.symm).1; omega)
        have hG7 : Gq w2 w7 := Below.grown (Below.trans HGX.out (Below.mono hW (Below.size HGX.out))) hg (by omega) (fun b hb => by have := (HROW.out b hb).1; omega)
        refine ⟨?_, hA7.set (by show w2.heap.size ≠ gO; omega) _, hG7.set (by show w2.heap.size ≤ gO; omega) _, by simp [World.setCell]; omega⟩
        have h1 := GI.push (T := 35) (S := 9) (x := idk) hGW hiR (g' := g3) (m := rl.length + 1) (cap' := cap3) (w1 := w7) (by rw [HRR.out]) (by rw [HRR.out]; rw [sb_snoc]; exact ho) (by rw [HRR.out]; exact hg) (by rw [HRR.out, hsz]; exact hat) trivial
        rw [HRR.out] at h1
        exact h1
      have HKP : Hid (∀ W w7, Gq wc W → W.grownBy w7 (Value.slice A5 rl.length c5).ownBlock → w7.cell? ⟨gO, ix, none⟩ = some (.slice A5 rl.length c5) ∧ w7.frozen? ⟨gO, ix, none⟩ = false ∧ OMap Tryz.prog 9 w7 w2.heap.size (k + 1) (atK p (k + 1))) := fun W w7 hW hg => by
        have hne : (Value.slice A5 rl.length c5).ownBlock ≠ some gO := fun e => (HROW.out gO e).2 rfl
        have h7 : w7.ownsRow (w2.heap.size + 1) 35 1 (.slice (some ⟨gO, 0, none⟩) R2.length cO2) R2.length (R2.map Prod.fst) := own_keep (own_belowL HGI2.out.o hW) hg (fun b hb e => by injection hb with hb; subst hb; exact hne e)
        refine ⟨?_, h7.frozenAt ix, (HAT2.out.below hW).kept hg (fun e => by have := (HROW.out _ e.symm).1; omega)⟩
        rw [hg.cell_far _ (by have := Below.size hW; show gO < _; omega) (fun e => hne e.symm), Below.cell hW (by exact hgO)]
        exact hcO
      have hr44 : ∀ W, Gq wc W → (Instr.lookup 67 (.map (some w2.heap.size)) (.string mk) false).run Tryz.prog W = .ok (.int .i64 (ix : Int)) W := fun W hW => by
        have h1 := (HAT2.out.below hW).look strKeyed Tryz.underlying67 zeroInt HKM.out
        rw [HLK.out, Option.getD_some] at h1
        exact h1
      have HR7 : Hid (∀ w7, OMap Tryz.prog 9 w7 w2.heap.size (k + 1) (atK p (k + 1)) → (Instr.lookup 67 (.map (some w2.heap.size)) (.string mk) false).run Tryz.prog w7 = .ok (.int .i64 (ix : Int)) w7) := fun w7 h => by
        have h1 := h.look strKeyed Tryz.underlying67 zeroInt HKM.out
        rw [HLK.out, Option.getD_some] at h1
        exact h1
      have hc50 : ∀ W, Gq wc W → W.cell? ⟨gO, ix, none⟩ = some (.slice A5 rl.length c5) := fun W hW => by rw [Below.cell hW (by exact hgO)]; exact hcO
      have hc52 : ∀ W, Gq wc W → W.cell? ⟨wo.heap.size, 0, none⟩ = some (.string idk) := fun W hW => by rw [Below.cell hW (by exact hboxl)]; exact hcK
      have hG0 : Gq wc wc := Gq.refl _
      have hGd : ∀ W, Gq wc W → Gq wc W.drew := fun W hW => hW.drew
      have hGa : ∀ W o, Gq wc W → Gq wc (W.alloc o) := fun W o hW => hW.alloc o
      have hGx : ∀ o, Gq wc (wc.alloc o).drew := fun o => hGd _ (hGa _ o hG0)
      have hGy : Gq wc wc.drew := hGd _ hG0
      have HOA : Hid (∀ W, Gq wc W → W.ownsRow (w2.heap.size + 1) 9 1 (.slice A5 rl.length c5) rl.length (sb rl)) := fun W hW => own_belowL HOW.out hW
      have i0 : (0 : Int) ≤ (ix : Int) := by omega
      have i1 : (ix : Int) < (R2.length : Int) := by omega
      clear hcO hcK
      go_upto_region 14 with (fail)
      obtain ⟨wN, hwN⟩ : ∃ wN, wN = (wc.alloc (.cells #[.string idk] 9)).drew := ⟨_, rfl⟩
      have a1 : wN.heap.size = wc.heap.size + 1 := by rw [hwN]; show (wc.alloc (.cells #[.string idk] 9)).heap.size = _; simp
      have a2 : w2.heap.size + 1 ≤ wN.heap.size := by omega
      have a3 : Gq wc wN := by rw [hwN]; exact hGd _ (hGa _ _ hG0)
      have a4 := HOA.out wN a3
      have a5 := World.news_of_block (w := wN) (B := wc.heap.size) (cs := #[.string idk]) (t := 9) (fr := (0, 0)) (by rw [hwN]; exact heap_alloc_new wc _)
      have a6 : ∀ u ∈ [Value.string idk], u.oneCell' = true := by simp [Value.oneCell']
      have a7 : rl.length + 1 ≤ maxLen := by unfold maxLen; omega
      have a8 : (rl.length + 1) * 16 ≤ 140737488355328 := by omega
      have AA := Lib.hid (And.intro a1 (And.intro a2 (And.intro a3 (And.intro a4 (And.intro a5 (And.intro a6 (And.intro a7 a8)))))))
      clear a1 a2 a3 a4 a5 a6 a7 a8
      subst hwN
      go_region_law (refine step_append_lies _ ?_ (.tmp 50) (.tmp 53) 35 ?_ (w2.heap.size + 1) 9 is _ 1 16 Tryz.underlying35 HIS.out.1 HIS.out.2.1 HIS.out.2.2.1 HIS.out.2.2.2 rfl ?_ (.slice A5 rl.length c5) rl.length (sb rl) ?_ AA.out.2.2.2.1 ⟨wc.heap.size, 0, none⟩ 1 1 [.string idk] ?_ ?_ AA.out.2.2.2.2.1 AA.out.2.2.2.2.2.1 ?_ AA.out.2.2.2.2.2.2.1 AA.out.2.2.2.2.2.2.2 AA.out.2.1 (wc.heap.size + 1) AA.out.1 ?_; rfl; rfl; decide; rfl; rfl; rfl; decide; intro g3 cap3 w7 hown7 hgrow7 hat7 hlt7; obtain ⟨y0, y1, y2⟩ := HKP.out _ _ AA.out.2.2.1 hgrow7; have y3 := HR7.out w7 y2; have HF7 := Lib.hid (HFIN.out _ g3 cap3 w7 AA.out.2.2.1 AA.out.1 hown7 hgrow7 hat7); clear y2 hown7 hgrow7 hat7 hlt7)
      all_goals
        clear y0 y1 y3 hr44 hc50 hc52 hG0 hGd hGa hGx hGy
        go_wp2_with fail
        go_roundw
        case rel =>
          refine ⟨k + 1, R2.set ix (.slice (some ⟨g3, 0, none⟩) (rl.length + 1) cap3, rl ++ [idk]), by omega, by go_num, ?_, ?_, ?_, ?_, ?_⟩
          · show _ = _
            rw [List.map_set]; exact HGS.out
          · show GI _ _ _ _ _ _
            repeat (first | exact HF7.out.1 | refine GI.drew ?_)
          · exact HF7.out.2.1
          · exact HF7.out.2.2.1
          · exact HF7.out.2.2.2
        case measure => simp [intOf]; omega
end Go.Proofs.YtnlnaglaipjlfaaGreatDoor
