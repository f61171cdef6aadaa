/- The contract of credit.CheckPeople. -/
import Derived.Test.YtnlnaglaipjlfaaGreatDoorPplA
import Derived.Test.YtnlnaglaipjlfaaGreatDoorPplC
import Derived.Test.YtnlnaglaipjlfaaGreatDoorPplD
import Derived.Test.YtnlnaglaipjlfaaGreatDoorPplE
import Derived.Deep.DeepCutAuto
namespace Go.Proofs.YtnlnaglaipjlfaaGreatDoor
open Go.RowKit Go.Dw Go.Maps

theorem clF_at (ps : List Psp) (cs : List Clm) (k : Nat) (h : k < cs.length) : clF ps cs k = if ps.length ≤ ixP ps cs[k].a ∨ ps.length ≤ ixP ps cs[k].b then 9 else if ¬ sLt cs[k].a cs[k].b ∨ (0 < k ∧ clLt (cs.getD (k - 1) dClm) cs[k] = false) then 8 else 0 := by
  unfold clF; rw [getD_at _ _ k h]
theorem clash_at (p : Ppl) (k : Nat) (h : k < p.cs.length) : clash p k = if p.cs[k].s = false ∧ lab p (ixP p.ps p.cs[k].a) = lab p (ixP p.ps p.cs[k].b) then 12 else 0 := by
  unfold clash; rw [getD_at _ _ k h]
theorem peoF_big {p : Ppl} (h : 100 < p.ps.length ∨ 200 < p.cs.length) : peoF p = 2 := by unfold peoF; rw [if_pos h]
theorem peoF_ps {p : Ppl} {v : Int} (h : ¬ (100 < p.ps.length ∨ 200 < p.cs.length)) (h1 : firstNZ (psF p.ps) p.ps.length = v) (h2 : v ≠ 0) : peoF p = v := by
  unfold peoF; rw [if_neg h, if_pos (by rw [h1]; exact h2), h1]
theorem peoF_cl {p : Ppl} {v : Int} (h : ¬ (100 < p.ps.length ∨ 200 < p.cs.length)) (h1 : firstNZ (psF p.ps) p.ps.length = 0) (h2 : firstNZ (clF p.ps p.cs) p.cs.length = v) (h3 : v ≠ 0) : peoF p = v := by
  unfold peoF; rw [if_neg h, if_neg (by rw [h1]; simp), if_pos (by rw [h2]; exact h3), h2]
theorem peoF_end {p : Ppl} {v : Int} (h : ¬ (100 < p.ps.length ∨ 200 < p.cs.length)) (h1 : firstNZ (psF p.ps) p.ps.length = 0) (h2 : firstNZ (clF p.ps p.cs) p.cs.length = 0) (h3 : firstNZ (clash p) p.cs.length = v) : peoF p = v := by
  unfold peoF; rw [if_neg h, if_neg (by rw [h1]; simp), if_neg (by rw [h2]; simp), h3]
set_option maxRecDepth 100000 in
set_option maxHeartbeats 8000000 in
theorem people_any (x : Peo) (w : World) (h : PeoOk w x) (hmx : HasMax w) :
    Calls Tryz.prog 10 #[x.v] w fun e w' => e = .returned (.int .i64 (peoF x.x)) ∧ Below w.heap.size w w' := by
  have HOK := Lib.hid h
  have HMX := Lib.hid hmx
  have HHAS := Lib.hid (fun (q : ByteArray) (W : World) (hW : Below w.heap.size w W) => has_any x q W (h.below hW))
  have HMN := Lib.hid (fun (W : World) (hW : Below w.heap.size w W) hps hcs hn hm => mains_any x W (h.below hW) hps hcs hn hm)
  obtain ⟨⟨A, c, L⟩, ⟨B, d, C⟩⟩ := x
  have HPSN := Lib.hid (fun (W : World) (hW : Below w.heap.size w W) => persons_any A c L W (h.pr.below hW) h.pl (fun y hy => (h.po y hy).below hW) (hmx.below hW))
  have hpl : L.length ≤ 9223372036854775807 := h.pl
  have hcl : C.length ≤ 9223372036854775807 := h.cl
  obtain ⟨p, hp⟩ : ∃ p : Ppl, p = Peo.x ⟨⟨A, c, L⟩, ⟨B, d, C⟩⟩ := ⟨_, rfl⟩
  have HPP : Hid (p.ps = L.map Psn.x) := by rw [hp]; rfl
  have HPC : Hid (p.cs = C) := by rw [hp]; rfl
  have HLN : Hid (p.ps.length = L.length) := by show _ = _; rw [HPP.out]; simp
  rw [← hp] at HHAS HMN ⊢
  unfold Peo.v at *
  simp only [Slc.v] at *
  clear h hmx hp
  obtain ⟨w0, hw0⟩ : ∃ w0, w0 = w.alloc (.cells #[.slice A L.length c, .slice B C.length d] 25) := ⟨_, rfl⟩
  have HB0 : Hid (Below w.heap.size w w0) := by rw [hw0]; exact (Below.refl _ _).alloc (Nat.le_refl _) _
  have HX0 : Hid (w0.cell? ⟨w.heap.size, 0, none⟩ = some (.slice A L.length c) ∧ w0.cell? ⟨w.heap.size, 1, none⟩ = some (.slice B C.length d)) := by rw [hw0]; exact peoBox
  have hz0 : w.heap.size < w0.heap.size := by rw [hw0]; simp
  have HW0 := Lib.hid hw0
  have HPX : Hid (∀ W, Gq w0 W → Below w.heap.size w W ∧ W.cell? ⟨w.heap.size, 0, none⟩ = some (.slice A L.length c) ∧ W.cell? ⟨w.heap.size, 1, none⟩ = some (.slice B C.length d)) := fun W hW => by
    have hb : Below w.heap.size w W := HB0.out.trans (Below.mono hW HB0.out.size)
    exact ⟨hb, by rw [Below.cell hW (by exact hz0)]; exact HX0.out.1, by rw [Below.cell hW (by exact hz0)]; exact HX0.out.2⟩
  obtain ⟨_, z0, z1⟩ := HPX.out w0 (Gq.refl _)
  clear hw0 HX0
  go_enter Tryz.func10, Tryz.ntmps10
  go_upto_region 1 with (fail)
  rw [← HW0.out]
  by_cases hb1 : 100 < L.length
  · have HR : Hid (peoF p = 2) := peoF_big (.inl (by rw [HLN.out]; exact hb1))
    go_wp2_with fail
    go_ret
    exact ⟨ret_int HR.out.symm, HB0.out⟩
  by_cases hb2 : 200 < C.length
  · have HR : Hid (peoF p = 2) := peoF_big (.inr (by rw [HPC.out]; exact hb2))
    go_wp2_with fail
    go_ret
    exact ⟨ret_int HR.out.symm, HB0.out⟩
  have HNB : Hid (¬ (100 < p.ps.length ∨ 200 < p.cs.length)) := by rw [Hid, HLN.out, HPC.out]; omega
  have HPS0 := Lib.hid (HPSN.out w0 HB0.out)
  rw [← HPP.out, ← HLN.out] at HPS0
  obtain ⟨fp, hfp⟩ : ∃ fp, firstNZ (psF p.ps) p.ps.length = fp := ⟨_, rfl⟩
  rw [hfp] at HPS0
  have HFP := Lib.hid hfp
  rw [HLN.out] at HPS0
  clear hfp HPSN
  go_wp2_with fail
  refine HPS0.out.mono ?_
  rintro e w1 ⟨rfl, hq1⟩
  have HG1 : Hid (Gq w0 w1) := hq1
  clear hq1 z0 z1
  obtain ⟨hbw1, z0, z1⟩ := HPX.out w1 HG1.out
  have HBW1 := Lib.hid hbw1
  clear hbw1
  by_cases hz : fp = 0
  case neg =>
    have hzb : (fp != 0) = true := by simpa using hz
    have HR := Lib.hid (peoF_ps HNB.out HFP.out hz)
    clear hz
    go_wp2_with fail
    go_ret
    exact ⟨ret_int HR.out.symm, HBW1.out⟩
  subst hz
  have HPSR := Lib.hid (psR_of HFP.out)
  go_wp2_with fail
  go_loopw [28] (fun kv wr => ∃ k : Nat, k ≤ C.length ∧ kv = .int .i64 (k : Int) ∧ Hid (∀ j, j < k → clF p.ps p.cs j = 0) ∧ Hid (Gq w0 wr)) (fun kv _ => C.length - (intOf kv).toNat)
  case atStart => exact ⟨0, Nat.zero_le _, rfl, by intro j hj; omega, HG1⟩
  case round =>
    obtain ⟨k, hk, rfl, HALL, HG⟩ := hrel
    obtain ⟨w2, hw2⟩ : ∃ w2, w2 = wr := ⟨_, rfl⟩
    subst hw2
    obtain ⟨hbw, y0, y1⟩ := HPX.out w2 HG.out
    have HBW := Lib.hid hbw
    clear hbw z0 z1
    by_cases hlt : k < C.length
    case neg =>
      have hd1 : decide (k < C.length) = false := by simpa using hlt
      have HCZ : Hid (firstNZ (clF p.ps p.cs) p.cs.length = 0) := by show _ = _; rw [firstNZ_ok (fun j hj => HALL.out j (by rw [HPC.out] at hj; omega))]
      have HCLR := Lib.hid (clR_of HCZ.out)
      have HM := Lib.hid (HMN.out w2 HBW.out HPSR.out HCLR.out (by have := HNB.out; omega) (by have := HNB.out; omega))
      go_wp2_with fail
      refine HM.out.mono ?_
      rintro e w3 ⟨mb, hmb, rfl, hof, hq3⟩
      have HOF := Lib.hid hof
      have HG3 : Hid (Gq w0 w3) := Below.trans HG.out (hq3.mono (Below.size HG.out))
      clear hq3 hof y0 y1
      obtain ⟨hb3, y0, y1⟩ := HPX.out w3 HG3.out
      have HB3 := Lib.hid hb3
      clear hb3
      have hz3 : w.heap.size < w3.heap.size := Nat.lt_of_lt_of_le hz0 (Below.size HG3.out)
      have HX3 : Hid (w3.cell? ⟨w.heap.size, 1, none⟩ = some (.slice B C.length d)) := y1
      go_wp2_with fail
      go_loopw [71] (fun kv wr => ∃ i : Nat, i ≤ C.length ∧ kv = .int .i64 (i : Int) ∧ Hid (∀ j, j < i → clash p j = 0) ∧ Hid (Gq w3 wr)) (fun kv _ => C.length - (intOf kv).toNat)
      case atStart => exact ⟨0, Nat.zero_le _, rfl, by intro j hj; omega, Gq.refl _⟩
      case round =>
        obtain ⟨i, hi, rfl, HAL, HGI⟩ := hrel
        obtain ⟨w5, hw5⟩ : ∃ w5, w5 = wr := ⟨_, rfl⟩
        subst hw5
        have HB5 := Lib.hid (HB3.out.trans (Below.mono HGI.out HB3.out.size))
        clear y0 y1
        by_cases hil : i < C.length
        case neg =>
          have hd2 : decide (i < C.length) = false := by simpa using hil
          have HR : Hid (peoF p = 0) := peoF_end HNB.out HFP.out HCZ.out (firstNZ_ok (fun j hj => HAL.out j (by rw [HPC.out] at hj; omega)))
          go_wp2_with fail
          go_ret
          exact ⟨ret_int HR.out.symm, HB5.out⟩
        have hd2 : decide (i < C.length) = true := by simpa using hil
        have HBADI : Hid (clash p i = 12 → peoF p = 12) := fun hv =>
          peoF_end HNB.out HFP.out HCZ.out (by rw [firstNZ_bad (f := clash p) HAL.out (by rw [hv]; decide) (by rw [HPC.out]; exact hil), hv])
        have HNXI : Hid (clash p i = 0 → ∀ j, j < i + 1 → clash p j = 0) := fun hz => step_all HAL.out hz
        obtain ⟨b, off, hAB, hb, hcs⟩ := clm_at (HOK.out.cr.below HB5.out) (by show 0 < C.length; omega)
        simp only at hAB hcs
        subst hAB
        obtain ⟨d0, d1, d2⟩ := hcs i hil
        have hip : i < p.cs.length := by rw [HPC.out]; exact hil
        have hci : p.cs[i] = C[i] := by simp only [HPC.out]
        have hmem : C[i] ∈ p.cs := by rw [HPC.out]; exact List.getElem_mem hil
        have ia := HCLR.out.ia _ hmem
        have ib := HCLR.out.ib _ hmem
        obtain ⟨sza, szb⟩ := HOK.out.co C[i] (List.getElem_mem hil)
        have HMK := clash_at p i hip
        rw [hci] at HMK
        replace HMK := Lib.hid HMK
        have HLA := Lib.hid (ofK_at (f := lab p) ia)
        have HLB := Lib.hid (ofK_at (f := lab p) ib)
        have HKA := Lib.hid (strKey sza)
        have HKB := Lib.hid (strKey szb)
        have HIJ : Hid (idAt p.ps (lab p (ixP p.ps C[i].a)) = idAt p.ps (lab p (ixP p.ps C[i].b)) ↔ lab p (ixP p.ps C[i].a) = lab p (ixP p.ps C[i].b)) := HPSR.out.idInj (lab_lt ia) (lab_lt ib)
        clear hcs hci hmem ia ib sza szb
        generalize clash p i = ck at *
        generalize lab p (ixP p.ps C[i].a) = la at *
        generalize lab p (ixP p.ps C[i].b) = lb at *
        generalize C[i] = cc at *
        obtain ⟨ca, cb, cs⟩ := cc
        simp only at d0 d1 d2 HLA HLB HKA HKB
        replace HMK : Hid (ck = if cs = false ∧ la = lb then 12 else 0) := HMK
        obtain ⟨wB, hwB⟩ : ∃ wB, wB = w5.alloc (.cells #[.string ca, .string cb, .bool cs] 49) := ⟨_, rfl⟩
        have HGB : Hid (Gq w3 wB) := by rw [hwB]; exact HGI.out.alloc _
        have HBB := Lib.hid (HB3.out.trans (Below.mono HGB.out HB3.out.size))
        have k0 : wB.cell? ⟨w5.heap.size, 0, none⟩ = some (.string ca) := by rw [hwB]; exact new_cell (cs := [_, _, _]) rfl rfl
        have k1 : wB.cell? ⟨w5.heap.size, 1, none⟩ = some (.string cb) := by rw [hwB]; exact new_cell (cs := [_, _, _]) rfl rfl
        have k2 : wB.cell? ⟨w5.heap.size, 2, none⟩ = some (.bool cs) := by rw [hwB]; exact new_cell (cs := [_, _, _]) rfl rfl
        have HMB : OMap Tryz.prog 9 wB mb 30000 (ofK p.ps (lab p) p.ps.length) := OMap.below HOF.out HGB.out
        have hrA := HMB.look strKeyed Tryz.underlying65 zeroStr HKA.out
        have hrB := HMB.look strKeyed Tryz.underlying65 zeroStr HKB.out
        rw [HLA.out, Option.getD_some] at hrA
        rw [HLB.out, Option.getD_some] at hrB
        have HWB := Lib.hid hwB
        clear hwB HMB HLA HLB
        go_upto_region 18 with (fail)
        rw [← HWB.out]
        clear d0 d1 d2
        cases cs with
        | true =>
          have HN := Lib.hid (HNXI.out (by rw [HMK.out, if_neg (by simp)]))
          go_wp2_with fail
          go_roundw
          case rel => exact ⟨i + 1, by omega, by go_num, HN.out, HGB⟩
          case measure => simp [intOf]; omega
        | false =>
          by_cases he : la = lb
          · have hse := seq_t (HIJ.out.2 he)
            have HR := Lib.hid (HBADI.out (by rw [HMK.out, if_pos ⟨rfl, he⟩]))
            clear he
            go_wp2_with fail
            go_ret
            exact ⟨ret_int HR.out.symm, HBB.out⟩
          · have hse := seq_f (fun e => he (HIJ.out.1 e))
            have HN := Lib.hid (HNXI.out (by rw [HMK.out, if_neg (fun h => he h.2)]))
            clear he
            go_wp2_with fail
            go_roundw
            case rel => exact ⟨i + 1, by omega, by go_num, HN.out, HGB⟩
            case measure => simp [intOf]; omega
    have hd1 : decide (k < C.length) = true := by simpa using hlt
    have HBAD : Hid (∀ v, clF p.ps p.cs k = v → v ≠ 0 → peoF p = v) := fun v hv hv0 =>
      peoF_cl HNB.out HFP.out (by rw [firstNZ_bad (f := clF p.ps p.cs) HALL.out (by rw [hv]; exact hv0) (by rw [HPC.out]; exact hlt), hv]) hv0
    have HNEXT : Hid (clF p.ps p.cs k = 0 → ∀ j, j < k + 1 → clF p.ps p.cs j = 0) := fun hz => step_all HALL.out hz
    obtain ⟨b, off, hAB, hb, hcs⟩ := clm_at (HOK.out.cr.below HBW.out) (by show 0 < C.length; omega)
    simp only at hAB hcs
    subst hAB
    obtain ⟨d0, d1, d2⟩ := hcs k hlt
    have HPV : Hid (0 < k → w2.cell? ⟨b, off + (k - 1) * 3, none⟩ = some (.string (p.cs.getD (k - 1) dClm).a) ∧ w2.cell? ⟨b, off + (k - 1) * 3 + 1, none⟩ = some (.string (p.cs.getD (k - 1) dClm).b) ∧ w2.cell? ⟨b, off + (k - 1) * 3 + 2, none⟩ = some (.bool (p.cs.getD (k - 1) dClm).s)) := fun hk0 => by
      rw [getD_at _ _ (k - 1) (by rw [HPC.out]; omega)]
      simp only [HPC.out]
      exact hcs (k - 1) (by omega)
    have HMK := clF_at p.ps p.cs k (by rw [HPC.out]; exact hlt)
    obtain ⟨pk, hpk⟩ : ∃ pk, clF p.ps p.cs k = pk := ⟨_, rfl⟩
    rw [hpk] at HMK HBAD HNEXT
    clear hpk
    simp only [HPC.out] at HMK
    rw [show C.getD (k - 1) dClm = p.cs.getD (k - 1) dClm by rw [HPC.out]] at HMK
    replace HMK := Lib.hid HMK
    clear hcs
    generalize p.cs.getD (k - 1) dClm = pc at *
    generalize C[k] = cc at *
    obtain ⟨ca, cb, cs⟩ := cc
    simp only at d0 d1 d2
    replace HMK : Hid (pk = if p.ps.length ≤ ixP p.ps ca ∨ p.ps.length ≤ ixP p.ps cb then 9 else if ¬ sLt ca cb ∨ (0 < k ∧ clLt pc ⟨ca, cb, cs⟩ = false) then 8 else 0) := HMK
    obtain ⟨wB, hwB⟩ : ∃ wB, wB = w2.alloc (.cells #[.string ca, .string cb, .bool cs] 49) := ⟨_, rfl⟩
    have HGB : Hid (Gq w0 wB) := by rw [hwB]; exact HG.out.alloc _
    have HPB : Hid (Gq w2 wB) := by rw [hwB]; exact (Gq.refl _).alloc _
    have HKB : Hid (Blk wB w2.heap.size 49 [.string ca, .string cb, .bool cs]) := by rw [hwB]; exact Blk.new w2 _ _
    have k0 : wB.cell? ⟨w2.heap.size, 0, none⟩ = some _ := HKB.out.cell 0
    have k1 : wB.cell? ⟨w2.heap.size, 1, none⟩ = some _ := HKB.out.cell 1
    obtain ⟨hbB, x0, x1⟩ := HPX.out wB HGB.out
    have HBB := Lib.hid hbB
    have HWB := Lib.hid hwB
    have HH1 := Lib.hid (HHAS.out ca wB hbB)
    obtain ⟨hA, hhA⟩ : ∃ v, decide (ixP p.ps ca < p.ps.length) = v := ⟨_, rfl⟩
    obtain ⟨hB, hhB⟩ : ∃ v, decide (ixP p.ps cb < p.ps.length) = v := ⟨_, rfl⟩
    rw [hhA] at HH1
    have HHA := Lib.hid hhA
    have HHB := Lib.hid hhB
    have hb2w : b < w2.heap.size := hb
    clear hwB hbB hhA hhB
    go_upto_region 9 with (fail)
    rw [← HWB.out]
    clear d0 d1 d2 y0 y1
    go_wp2_with fail
    refine HH1.out.mono ?_
    rintro e w3 ⟨rfl, hq3⟩
    have HG3 : Hid (Gq w0 w3) := Below.trans HGB.out (hq3.mono (Below.size HGB.out))
    have HP3 : Hid (Gq w2 w3) := Below.trans HPB.out (hq3.mono (Below.size HPB.out))
    have HK3 : Hid (Blk w3 w2.heap.size 49 [.string ca, .string cb, .bool cs]) := HKB.out.same (Same.of_below (S := fun _ => True) hq3) trivial
    clear hq3 k0 k1 x0 x1
    have k0 : w3.cell? ⟨w2.heap.size, 0, none⟩ = some _ := HK3.out.cell 0
    have k1 : w3.cell? ⟨w2.heap.size, 1, none⟩ = some _ := HK3.out.cell 1
    obtain ⟨hb3, x0, x1⟩ := HPX.out w3 HG3.out
    have HB3 := Lib.hid hb3
    clear hb3
    cases hA with
    | false =>
      have HR := Lib.hid (HBAD.out 9 (by rw [HMK.out, if_pos (.inl (by have := HHA.out; simp at this; exact this))]) (by decide))
      go_wp2_with fail
      go_ret
      exact ⟨ret_int HR.out.symm, HB3.out⟩
    | true =>
    have HH2 := Lib.hid (HHAS.out cb w3 HB3.out)
    rw [HHB.out] at HH2
    go_wp2_with fail
    refine HH2.out.mono ?_
    rintro e w4 ⟨rfl, hq4⟩
    have HG4 : Hid (Gq w0 w4) := Below.trans HG3.out (hq4.mono (Below.size HG3.out))
    have HP4 : Hid (Gq w2 w4) := Below.trans HP3.out (hq4.mono (Below.size HP3.out))
    have HK4 : Hid (Blk w4 w2.heap.size 49 [.string ca, .string cb, .bool cs]) := HK3.out.same (Same.of_below (S := fun _ => True) hq4) trivial
    clear hq4 k0 k1 x0 x1
    have k0 : w4.cell? ⟨w2.heap.size, 0, none⟩ = some _ := HK4.out.cell 0
    have k1 : w4.cell? ⟨w2.heap.size, 1, none⟩ = some _ := HK4.out.cell 1
    have k2 : w4.cell? ⟨w2.heap.size, 2, none⟩ = some _ := HK4.out.cell 2
    obtain ⟨hb4, x0, x1⟩ := HPX.out w4 HG4.out
    have HB4 := Lib.hid hb4
    clear hb4
    cases hB with
    | false =>
      have HR := Lib.hid (HBAD.out 9 (by rw [HMK.out, if_pos (.inr (by have := HHB.out; simp at this; exact this))]) (by decide))
      go_wp2_with fail
      go_ret
      exact ⟨ret_int HR.out.symm, HB4.out⟩
    | true =>
    have HMK2 : Hid (pk = if ¬ sLt ca cb ∨ (0 < k ∧ clLt pc ⟨ca, cb, cs⟩ = false) then 8 else 0) := by
      show _ = _
      rw [HMK.out, if_neg]
      have h1 := HHA.out
      have h2 := HHB.out
      simp at h1 h2
      omega
    have HPV4 : Hid (0 < k → w4.cell? ⟨b, off + (k - 1) * 3, none⟩ = some (.string pc.a) ∧ w4.cell? ⟨b, off + (k - 1) * 3 + 1, none⟩ = some (.string pc.b) ∧ w4.cell? ⟨b, off + (k - 1) * 3 + 2, none⟩ = some (.bool pc.s)) := fun hk0 => by
      rw [Below.cell HP4.out (by exact hb2w), Below.cell HP4.out (by exact hb2w), Below.cell HP4.out (by exact hb2w)]
      exact HPV.out hk0
    clear HMK HHA HHB HH1 HH2 HPV HGB HPB HKB HBB HG3 HP3 HK3 HB3
    go_upto_region 11 with (fail)
    obtain ⟨ob, hob⟩ : ∃ ob, decide (¬ sLt ca cb ∨ (0 < k ∧ clLt pc ⟨ca, cb, cs⟩ = false)) = ob := ⟨_, rfl⟩
    have HOB := Lib.hid hob
    have HOT : Hid (ob = true → pk = 8) := fun h => by rw [HMK2.out, if_pos (of_decide_eq_true (by rw [HOB.out]; exact h))]
    have HOF : Hid (ob = false → pk = 0) := fun h => by rw [HMK2.out, if_neg (of_decide_eq_false (by rw [HOB.out]; exact h))]
    clear hob HMK2
    go_cut [64] (fun v wx => v = .bool ob ∧ Hid (Gq w4 wx))
    case first =>
      rcases sLt_tri cb ca with hl | hl | hl
      · have s1 := bLe_lt hl
        have HE : Hid (ob = true) := by show _ = _; rw [← HOB.out]; simp [sLt_asymm hl]
        clear hl
        go_quiet (fail)
        go_wp2_with fail
        go_meet
        case rel => exact ⟨by rw [HE.out], below_drewN (Gq.refl w4) _⟩
      · subst hl
        obtain ⟨s1, s2⟩ := bLe_eq cb
        have HE : Hid (ob = true) := by show _ = _; rw [← HOB.out]; simp [sLt_irr]
        go_quiet (fail)
        go_wp2_with fail
        go_meet
        case rel => exact ⟨by rw [HE.out], below_drewN (Gq.refl w4) _⟩
      · obtain ⟨s1, s2⟩ := bLe_gt hl
        by_cases hk0 : 0 < k
        case neg =>
          have hd : decide (0 < k) = false := by simpa using hk0
          have hd' : decide ((0 : Int) < (k : Int)) = false := by simp; omega
          have HE : Hid (ob = false) := by show _ = _; rw [← HOB.out]; simp [hl, hk0]
          clear hl hk0
          go_quiet (fail)
          go_wp2_with fail
          go_meet
          case rel => exact ⟨by rw [HE.out], below_drewN (Gq.refl w4) _⟩
        have hd : decide (0 < k) = true := by simpa using hk0
        have hd' : decide ((0 : Int) < (k : Int)) = true := by simp; omega
        have hw : IntKind.i64.wrap ((k : Int) - 1) = (k : Int) - 1 := IntWalk.i64_in _ (by omega)
        have j0 : (0 : Int) ≤ (k : Int) - 1 := by omega
        have j0' : (1 : Int) ≤ (k : Int) := by omega
        have j1 : (k : Int) - 1 < (C.length : Int) := by omega
        have j2 : ((k : Int) - 1).toNat = k - 1 := by omega
        obtain ⟨q0, q1, q2⟩ := HPV4.out hk0
        obtain ⟨pa, pb, psm⟩ := pc
        simp only at q0 q1 q2
        have HCM := Lib.hid (fun (W : World) => cmpC_any ⟨pa, pb, psm⟩ ⟨ca, cb, cs⟩ W)
        have HCL := Lib.hid (cmpC_lt (x := ⟨pa, pb, psm⟩) (y := ⟨ca, cb, cs⟩))
        obtain ⟨cv, hcv⟩ : ∃ cv, cmpC ⟨pa, pb, psm⟩ ⟨ca, cb, cs⟩ = cv := ⟨_, rfl⟩
        simp only [hcv] at HCM
        rw [hcv] at HCL
        have HE : Hid (ob = decide ((0 : Int) ≤ cv)) := by
          show _ = _
          rw [← HOB.out]
          cases hcl : clLt ⟨pa, pb, psm⟩ ⟨ca, cb, cs⟩ with
          | true => have := HCL.out.2 hcl; simp [hl, hk0]; omega
          | false =>
            have : ¬ cv < 0 := fun h => by have := HCL.out.1 h; rw [hcl] at this; cases this
            simp [hl, hk0]; omega
        have HCG : Hid (∀ W, Gq w4 W → Calls Tryz.prog 19 #[.agg #[.string pa, .string pb, .bool psm], .agg #[.string ca, .string cb, .bool cs]] W fun e w' => e = .returned (.int .i64 cv) ∧ Gq w4 w') := fun W hW =>
          (HCM.out W).mono fun e w' h => ⟨h.1, Below.trans hW ((Grw.below h.2).mono (Below.size hW))⟩
        have hb4w : b < w4.heap.size := Nat.lt_of_lt_of_le hb2w (Below.size HP4.out)
        have h2w4 : w2.heap.size < w4.heap.size := HK4.out.lt
        have hw4 : w.heap.size < w4.heap.size := Nat.lt_of_lt_of_le hz0 (Below.size HG4.out)
        have HS : Hid (∀ W, Gq w4 W → W.cell? ⟨w2.heap.size, 0, none⟩ = some (.string ca) ∧ W.cell? ⟨w2.heap.size, 1, none⟩ = some (.string cb) ∧ W.cell? ⟨w2.heap.size, 2, none⟩ = some (.bool cs) ∧ W.cell? ⟨w.heap.size, 1, none⟩ = some (.slice (some ⟨b, off, none⟩) C.length d)
            ∧ W.cell? ⟨b, off + (k - 1) * 3, none⟩ = some (.string pa) ∧ W.cell? ⟨b, off + (k - 1) * 3 + 1, none⟩ = some (.string pb) ∧ W.cell? ⟨b, off + (k - 1) * 3 + 2, none⟩ = some (.bool psm)) := fun W hW => by
          rw [Below.cell hW (by exact h2w4), Below.cell hW (by exact h2w4), Below.cell hW (by exact h2w4), Below.cell hW (by exact hw4), Below.cell hW (by exact hb4w), Below.cell hW (by exact hb4w), Below.cell hW (by exact hb4w)]
          exact ⟨k0, k1, k2, x1, q0, q1, q2⟩
        have hBR : Gq w4 w4 := Gq.refl _
        have hBD : Gq w4 w4.drew := (Gq.refl _).drew
        clear hl hcv HCL hk0
        go_region_held3 (fun W => W.cell? ⟨w2.heap.size, 0, none⟩ = some (.string ca) ∧ W.cell? ⟨w2.heap.size, 1, none⟩ = some (.string cb) ∧ W.cell? ⟨w2.heap.size, 2, none⟩ = some (.bool cs) ∧ W.cell? ⟨w.heap.size, 1, none⟩ = some (.slice (some ⟨b, off, none⟩) C.length d)
            ∧ W.cell? ⟨b, off + (k - 1) * 3, none⟩ = some (.string pa) ∧ W.cell? ⟨b, off + (k - 1) * 3 + 1, none⟩ = some (.string pb) ∧ W.cell? ⟨b, off + (k - 1) * 3 + 2, none⟩ = some (.bool psm))
          (first | exact HS.out _ hBD | exact HS.out _ hBR | exact HS.out _ hqB)
          (first | (go_at_call 19; with_reducible refine (HCG.out _ (by first | exact hBD | exact hBR)).mono ?_; rintro e wC ⟨rfl, hqB⟩))
        all_goals
          have HQ := Lib.hid hqB
          clear hqB
          go_wp2_with fail
          go_meet
          case rel => exact ⟨by rw [HE.out], HQ⟩
    case rest =>
      obtain ⟨rfl, HGC⟩ := hcut
      have HGC0 : Hid (Gq w0 wc) := Below.trans HG4.out (Below.mono HGC.out (Below.size HG4.out))
      have HBC := Lib.hid (HPX.out wc HGC0.out).1
      cases ob with
      | true =>
        have HR := Lib.hid (HBAD.out 8 (HOT.out (by first | rfl | trivial)) (by decide))
        go_wp2_with fail
        go_ret
        exact ⟨ret_int HR.out.symm, HBC.out⟩
      | false =>
        have HN := Lib.hid (HNEXT.out (HOF.out (by first | rfl | trivial)))
        go_wp2_with fail
        go_roundw
        case rel => exact ⟨k + 1, by omega, by go_num, HN.out, HGC0⟩
        case measure => simp [intOf]; omega
end Go.Proofs.YtnlnaglaipjlfaaGreatDoor
