/- The contract of the reference's CheckPeople. -/
import Derived.Test.YtnlnaglaipjlfaaGreatDoorPplL
import Derived.Test.YtnlnaglaipjlfaaGreatDoorPplF
import Derived.Test.YtnlnaglaipjlfaaGreatDoorNameR5
import Derived.Test.YtnlnaglaipjlfaaGreatDoorPplB
namespace Go.Proofs.YtnlnaglaipjlfaaGreatDoor
open Go.RowKit Go.Dw Go.Maps

set_option maxRecDepth 100000 in
set_option maxHeartbeats 8000000 in
theorem peopleR_any (x : Peo) (w : World) (h : PeoOk w x) (hmx : HasMax w) :
    Calls Tryz.prog 24 #[x.v] w fun e w' => e = .returned (.int .i64 (peoF x.x)) ∧ Below w.heap.size w w' := by
  have HOK := Lib.hid h
  have HMX := Lib.hid hmx
  have HPN := Lib.hid (fun (q : ByteArray) (W : World) (hW : Below w.heap.size w W) => personR_any x q W (h.below hW))
  have HLD := Lib.hid (fun (W : World) (hW : Below w.heap.size w W) hcs hn hm => leaders_any x W (h.below hW) hcs hn hm)
  obtain ⟨⟨A, c, L⟩, ⟨B, d, C⟩⟩ := x
  have hpl : L.length ≤ 9223372036854775807 := h.pl
  have hcl : C.length ≤ 9223372036854775807 := h.cl
  obtain ⟨p, hp⟩ : ∃ p : Ppl, p = Peo.x ⟨⟨A, c, L⟩, ⟨B, d, C⟩⟩ := ⟨_, rfl⟩
  have HPP : Hid (p.ps = L.map Psn.x) := by rw [hp]; rfl
  have HPC : Hid (p.cs = C) := by rw [hp]; rfl
  have HLN : Hid (p.ps.length = L.length) := by show _ = _; rw [HPP.out]; simp
  rw [← hp] at HPN HLD ⊢
  unfold Peo.v at *
  simp only [Slc.v] at *
  clear h hmx hp
  obtain ⟨w0, hw0⟩ : ∃ w0, w0 = w.alloc (.cells #[.slice A L.length c, .slice B C.length d] 25) := ⟨_, rfl⟩
  have HB0 : Hid (Below w.heap.size w w0) := by rw [hw0]; exact (Below.refl _ _).alloc (Nat.le_refl _) _
  have HX0 : Hid (w0.cell? ⟨w.heap.size, 0, none⟩ = some (.slice A L.length c) ∧ w0.cell? ⟨w.heap.size, 1, none⟩ = some (.slice B C.length d)) := by rw [hw0]; exact peoBox
  have hz0 : w.heap.size < w0.heap.size := by rw [hw0]; simp
  have HW0 := Lib.hid hw0
  have HPX : Hid (∀ W, Gq w0 W → Below w.heap.size w W ∧ W.cell? ⟨w.heap.size, 0, none⟩ = some (.slice A L.length c) ∧ W.cell? ⟨w.heap.size, 1, none⟩ = some (.slice B C.length d)) := fun W hW => by
    have hb : Below w.heap.size w W := HB0.out.trans (Below.mono hW HB0.out.size)
    exact ⟨hb, by rw [Below.cell hW (by exact hz0)]; exact HX0.out.1, by rw [Below.cell hW (by exact hz0)]; exact HX0.out.2⟩
  obtain ⟨_, z0, z1⟩ := HPX.out w0 (Gq.refl _)
  clear hw0 HX0
  go_enter Tryz.func24, Tryz.ntmps24
  go_upto_region 1 with (fail)
  rw [← HW0.out]
  by_cases hb1 : 100 < L.length
  · have HR : Hid (peoF p = 2) := peoF_big (.inl (by rw [HLN.out]; exact hb1))
    go_wp2_with fail
    go_ret
    exact ⟨ret_int HR.out.symm, HB0.out⟩
  by_cases hb2 : 200 < C.length
  · have HR : Hid (peoF p = 2) := peoF_big (.inr (by rw [HPC.out]; exact hb2))
    go_wp2_with fail
    go_ret
    exact ⟨ret_int HR.out.symm, HB0.out⟩
  have HNB : Hid (¬ (100 < p.ps.length ∨ 200 < p.cs.length)) := by rw [Hid, HLN.out, HPC.out]; omega
  have HPSF : Hid (∀ v, firstNZ (psF p.ps) p.ps.length = v → v ≠ 0 → peoF p = v) := fun v h1 h2 => peoF_ps HNB.out h1 h2
  have HNM := Lib.hid (fun (s : ByteArray) (W : World) (hs : s.size ≤ 9223372036854775807) => isNameR_any s W hs)
  go_wp2_with fail
  go_loopw [24] (fun kv wr => ∃ k : Nat, k ≤ L.length ∧ kv = .int .i64 (k : Int) ∧ Hid (∀ j, j < k → psF p.ps j = 0) ∧ Hid (Gq w0 wr)) (fun kv _ => L.length - (intOf kv).toNat)
  case atStart => exact ⟨0, Nat.zero_le _, rfl, by intro j hj; omega, Gq.refl _⟩
  case round =>
    clear z0 z1
    obtain ⟨k, hk, rfl, HALL, HG⟩ := hrel
    obtain ⟨wo, hwo⟩ : ∃ wo, wo = wr := ⟨_, rfl⟩
    subst hwo
    obtain ⟨hbw, z0, z1⟩ := HPX.out wo HG.out
    have HBW := Lib.hid hbw
    clear hbw
    by_cases hlt : k < L.length
    case neg =>
      have hd1 : decide (k < L.length) = false := by simpa using hlt
      have HFP : Hid (firstNZ (psF p.ps) p.ps.length = 0) := by show _ = _; rw [firstNZ_ok (fun j hj => HALL.out j (by rw [HLN.out] at hj; omega))]
      have HPSR := Lib.hid (psR_of HFP.out)
      clear HALL hlt
      go_wp2_with fail
      go_loopw [57] (fun kv wr => ∃ k : Nat, k ≤ C.length ∧ kv = .int .i64 (k : Int) ∧ Hid (∀ j, j < k → clF p.ps p.cs j = 0) ∧ Hid (Gq w0 wr)) (fun kv _ => C.length - (intOf kv).toNat)
      case atStart => exact ⟨0, Nat.zero_le _, rfl, by intro j hj; omega, HG⟩
      case round =>
        clear z0 z1
        obtain ⟨k, hk, rfl, HALL, HG2⟩ := hrel
        obtain ⟨w2, hw2⟩ : ∃ w2, w2 = wr := ⟨_, rfl⟩
        subst hw2
        obtain ⟨hbw, y0, y1⟩ := HPX.out w2 HG2.out
        have HBW2 := Lib.hid hbw
        clear hbw
        by_cases hlt : k < C.length
        case neg =>
          have hd2 : decide (k < C.length) = false := by simpa using hlt
          have HCZ : Hid (firstNZ (clF p.ps p.cs) p.cs.length = 0) := by show _ = _; rw [firstNZ_ok (fun j hj => HALL.out j (by rw [HPC.out] at hj; omega))]
          have HCLR := Lib.hid (clR_of HCZ.out)
          have HM := Lib.hid (HLD.out w2 HBW2.out HCLR.out (by have := HNB.out; omega) (by have := HNB.out; omega))
          clear HALL hlt
          go_upto_region 22 with (fail)
          go_wp2_with fail
          refine HM.out.mono ?_
          rintro e w3 ⟨A3, c3, rfl, hr3, hq3⟩
          have HRL := Lib.hid hr3
          have HG3 : Hid (Gq w0 w3) := Below.trans HG2.out (hq3.mono (Below.size HG2.out))
          clear hr3 hq3 y0 y1
          obtain ⟨hb3, y0, y1⟩ := HPX.out w3 HG3.out
          have HB3 := Lib.hid hb3
          clear hb3
          have hz3 : w.heap.size < w3.heap.size := Nat.lt_of_lt_of_le hz0 (Below.size HG3.out)
          have hnl : p.ps.length ≤ 100 := by have := HNB.out; omega
          go_wp2_with fail
          go_loopw [100] (fun kv wr => ∃ i : Nat, i ≤ C.length ∧ kv = .int .i64 (i : Int) ∧ Hid (∀ j, j < i → clash p j = 0) ∧ Hid (Gq w3 wr)) (fun kv _ => C.length - (intOf kv).toNat)
          case atStart => exact ⟨0, Nat.zero_le _, rfl, by intro j hj; omega, Gq.refl _⟩
          case round =>
            obtain ⟨i, hi, rfl, HAL, HGI⟩ := hrel
            obtain ⟨w5, hw5⟩ : ∃ w5, w5 = wr := ⟨_, rfl⟩
            subst hw5
            have HG5 : Hid (Gq w0 w5) := Below.trans HG3.out (Below.mono HGI.out (Below.size HG3.out))
            have HB5 := Lib.hid (HPX.out w5 HG5.out).1
            clear y0 y1
            by_cases hil : i < C.length
            case neg =>
              have hd3 : decide (i < C.length) = false := by simpa using hil
              have HR : Hid (peoF p = 0) := peoF_end HNB.out HFP.out HCZ.out (firstNZ_ok (fun j hj => HAL.out j (by rw [HPC.out] at hj; omega)))
              go_wp2_with fail
              go_ret
              exact ⟨ret_int HR.out.symm, HB5.out⟩
            have hd3 : decide (i < C.length) = true := by simpa using hil
            have HBADI : Hid (clash p i = 12 → peoF p = 12) := fun hv =>
              peoF_end HNB.out HFP.out HCZ.out (by rw [firstNZ_bad (f := clash p) HAL.out (by rw [hv]; decide) (by rw [HPC.out]; exact hil), hv])
            have HNXI : Hid (clash p i = 0 → ∀ j, j < i + 1 → clash p j = 0) := fun hz => step_all HAL.out hz
            obtain ⟨b, off, hAB, hb, hcs⟩ := clm_at (HOK.out.cr.below HB5.out) (by show 0 < C.length; omega)
            simp only at hAB hcs
            subst hAB
            obtain ⟨d0, d1, d2⟩ := hcs i hil
            have hip : i < p.cs.length := by rw [HPC.out]; exact hil
            have hci : p.cs[i] = C[i] := by simp only [HPC.out]
            have hmem : C[i] ∈ p.cs := by rw [HPC.out]; exact List.getElem_mem hil
            have ia := HCLR.out.ia _ hmem
            have ib := HCLR.out.ib _ hmem
            have HMK := clash_at p i hip
            rw [hci] at HMK
            replace HMK := Lib.hid HMK
            have HPA := Lib.hid (fun (W : World) (hW : Below w.heap.size w W) => HPN.out C[i].a W hW)
            have HPB := Lib.hid (fun (W : World) (hW : Below w.heap.size w W) => HPN.out C[i].b W hW)
            simp only [pix_in ia] at HPA
            simp only [pix_in ib] at HPB
            obtain ⟨g, goff, rfl, hg, hgc⟩ := HRL.out.at_ (by rw [nc_len]; simp; omega)
            have gA : w3.cell? ⟨g, goff + ixP p.ps C[i].a, none⟩ = some (.int .i64 ((lab p (ixP p.ps C[i].a) : Nat) : Int)) := hgc _ _ (by rw [nc_at _ _ (by simpa using ia)]; simp)
            have gB : w3.cell? ⟨g, goff + ixP p.ps C[i].b, none⟩ = some (.int .i64 ((lab p (ixP p.ps C[i].b) : Nat) : Int)) := hgc _ _ (by rw [nc_at _ _ (by simpa using ib)]; simp)
            clear hgc hcs hci hmem hip
            generalize clash p i = ck at *
            generalize lab p (ixP p.ps C[i].a) = la at *
            generalize lab p (ixP p.ps C[i].b) = lb at *
            generalize ixP p.ps C[i].a = ea at *
            generalize ixP p.ps C[i].b = eb at *
            generalize C[i] = cc at *
            obtain ⟨ca, cb, cs⟩ := cc
            simp only at d0 d1 d2 HPA HPB
            replace HMK : Hid (ck = if cs = false ∧ la = lb then 12 else 0) := HMK
            obtain ⟨wB, hwB⟩ : ∃ wB, wB = w5.alloc (.cells #[.string ca, .string cb, .bool cs] 49) := ⟨_, rfl⟩
            have HGB3 : Hid (Gq w3 wB) := by rw [hwB]; exact HGI.out.alloc _
            have HGB : Hid (Gq w0 wB) := by rw [hwB]; exact HG5.out.alloc _
            have HKB : Hid (Blk wB w5.heap.size 49 [.string ca, .string cb, .bool cs]) := by rw [hwB]; exact Blk.new w5 _ _
            have HWB := Lib.hid hwB
            have hg3 : g < w3.heap.size := hg
            clear hwB
            go_upto_region 26 with (fail)
            rw [← HWB.out]
            clear d0 d1 d2
            obtain ⟨ob, hob⟩ : ∃ ob, (!cs && (la == lb)) = ob := ⟨_, rfl⟩
            have HOB := Lib.hid hob
            have HOT : Hid (ob = true → ck = 12) := fun h => by
              rw [HMK.out, if_pos]
              have h2 := HOB.out.trans h
              simpa using h2
            have HOF : Hid (ob = false → ck = 0) := fun h => by
              rw [HMK.out, if_neg]
              have h2 := HOB.out.trans h
              intro ⟨h3, h4⟩
              subst h3 h4
              simp at h2
            clear hob
            go_cut [123] (fun v wx => v = .bool ob ∧ Hid (Gq w3 wx))
            case first =>
              have k2 : wB.cell? ⟨w5.heap.size, 2, none⟩ = some _ := HKB.out.cell 2
              cases cs with
              | true =>
                have HE : Hid (ob = false) := by show _ = _; rw [← HOB.out]; rfl
                go_quiet (fail)
                go_wp2_with fail
                go_meet
                case rel => exact ⟨by rw [HE.out], below_drewN HGB3.out _⟩
              | false =>
                have HE : Hid (ob = ((la : Int) == (lb : Int))) := by
                  show _ = _
                  rw [← HOB.out, Bool.eq_iff_iff]
                  simp only [Bool.not_false, Bool.true_and, beq_iff_eq]
                  omega
                have HCA := Lib.hid (call_gq (w := wB) fun W hW => HPA.out W (HPX.out W (Below.trans HGB.out (Below.mono hW (Below.size HGB.out)))).1)
                have HCB := Lib.hid (call_gq (w := wB) fun W hW => HPB.out W (HPX.out W (Below.trans HGB.out (Below.mono hW (Below.size HGB.out)))).1)
                have hBR : Gq wB wB := Gq.refl _
                have hBD : Gq wB wB.drew := (Gq.refl _).drew
                have HS : Hid (∀ W, Gq wB W → W.cell? ⟨w.heap.size, 0, none⟩ = some (.slice A L.length c) ∧ W.cell? ⟨w.heap.size, 1, none⟩ = some (.slice (some ⟨b, off, none⟩) C.length d) ∧ W.cell? ⟨w5.heap.size, 0, none⟩ = some (.string ca) ∧ W.cell? ⟨w5.heap.size, 1, none⟩ = some (.string cb) ∧ W.cell? ⟨w5.heap.size, 2, none⟩ = some (.bool false)
                    ∧ W.cell? ⟨g, goff + ea, none⟩ = some (.int .i64 (la : Int)) ∧ W.cell? ⟨g, goff + eb, none⟩ = some (.int .i64 (lb : Int)) ∧ Gq wB W) := fun W hW => by
                  obtain ⟨_, x0, x1⟩ := HPX.out W (Below.trans HGB.out (Below.mono hW (Below.size HGB.out)))
                  have hW3 : Gq w3 W := Below.trans HGB3.out (Below.mono hW (Below.size HGB3.out))
                  have hKW : Blk W w5.heap.size 49 [.string ca, .string cb, .bool false] := HKB.out.same (Same.of_below (S := fun _ => True) hW) trivial
                  exact ⟨x0, x1, hKW.cell 0, hKW.cell 1, hKW.cell 2, by rw [Below.cell hW3 (by exact hg3)]; exact gA, by rw [Below.cell hW3 (by exact hg3)]; exact gB, hW⟩
                have a0 : (0 : Int) ≤ (ea : Int) := by omega
                have a1 : (ea : Int) < (p.ps.length : Int) := by omega
                have b0 : (0 : Int) ≤ (eb : Int) := by omega
                have b1 : (eb : Int) < (p.ps.length : Int) := by omega
                clear gA gB k2
                go_region_held3 (fun W => W.cell? ⟨w.heap.size, 0, none⟩ = some (.slice A L.length c) ∧ W.cell? ⟨w.heap.size, 1, none⟩ = some (.slice (some ⟨b, off, none⟩) C.length d) ∧ W.cell? ⟨w5.heap.size, 0, none⟩ = some (.string ca) ∧ W.cell? ⟨w5.heap.size, 1, none⟩ = some (.string cb) ∧ W.cell? ⟨w5.heap.size, 2, none⟩ = some (.bool false)
                    ∧ W.cell? ⟨g, goff + ea, none⟩ = some (.int .i64 (la : Int)) ∧ W.cell? ⟨g, goff + eb, none⟩ = some (.int .i64 (lb : Int)) ∧ Gq wB W)
                  (first | exact HS.out _ hBD | exact HS.out _ hqB | exact HS.out _ hBR | exact HS.out _ (Gq.drew hqB))
                  (first | (go_at_call 25; with_reducible refine (HCA.out _ (by first | exact hqB | exact hBD | exact hBR)).mono ?_; rintro e wA ⟨rfl, hqB⟩) | (go_at_call 25; with_reducible refine (HCB.out _ (by first | exact hqB | exact hBD | exact hBR)).mono ?_; rintro e wA ⟨rfl, hqB⟩))
                all_goals
                  have HQ : Hid (Gq w3 wA) := Below.trans HGB3.out (Below.mono hqB (Below.size HGB3.out))
                  clear hqB
                  go_wp2_with fail
                  go_meet
                  case rel => exact ⟨by rw [HE.out], by first | exact HQ | exact Gq.drew HQ.out⟩
            case rest =>
              obtain ⟨rfl, HGC⟩ := hcut
              have HGC0 : Hid (Gq w0 wc) := Below.trans HG3.out (Below.mono HGC.out (Below.size HG3.out))
              have HBC := Lib.hid (HPX.out wc HGC0.out).1
              cases ob with
              | true =>
                have HR := Lib.hid (HBADI.out (HOT.out (by first | rfl | trivial)))
                go_wp2_with fail
                go_ret
                exact ⟨ret_int HR.out.symm, HBC.out⟩
              | false =>
                have HNN := Lib.hid (HNXI.out (HOF.out (by first | rfl | trivial)))
                go_wp2_with fail
                go_roundw
                case rel => exact ⟨i + 1, by omega, by go_num, HNN.out, HGC⟩
                case measure => simp [intOf]; omega
        have hd2 : decide (k < C.length) = true := by simpa using hlt
        have HBAD : Hid (∀ v, clF p.ps p.cs k = v → v ≠ 0 → peoF p = v) := fun v hv hv0 =>
          peoF_cl HNB.out HFP.out (by rw [firstNZ_bad (f := clF p.ps p.cs) HALL.out (by rw [hv]; exact hv0) (by rw [HPC.out]; exact hlt), hv]) hv0
        have HNEXT : Hid (clF p.ps p.cs k = 0 → ∀ j, j < k + 1 → clF p.ps p.cs j = 0) := fun hz => step_all HALL.out hz
        obtain ⟨b, off, hAB, hb, hcs⟩ := clm_at (HOK.out.cr.below HBW2.out) (by show 0 < C.length; omega)
        simp only at hAB hcs
        subst hAB
        obtain ⟨d0, d1, d2⟩ := hcs k hlt
        have HPV : Hid (0 < k → w2.cell? ⟨b, off + (k - 1) * 3, none⟩ = some (.string (p.cs.getD (k - 1) dClm).a) ∧ w2.cell? ⟨b, off + (k - 1) * 3 + 1, none⟩ = some (.string (p.cs.getD (k - 1) dClm).b) ∧ w2.cell? ⟨b, off + (k - 1) * 3 + 2, none⟩ = some (.bool (p.cs.getD (k - 1) dClm).s)) := fun hk0 => by
          rw [getD_at _ _ (k - 1) (by rw [HPC.out]; omega)]
          simp only [HPC.out]
          exact hcs (k - 1) (by omega)
        have HMK := clF_at p.ps p.cs k (by rw [HPC.out]; exact hlt)
        obtain ⟨pk, hpk⟩ : ∃ pk, clF p.ps p.cs k = pk := ⟨_, rfl⟩
        rw [hpk] at HMK HBAD HNEXT
        clear hpk
        simp only [HPC.out] at HMK
        rw [show C.getD (k - 1) dClm = p.cs.getD (k - 1) dClm by rw [HPC.out]] at HMK
        replace HMK := Lib.hid HMK
        clear hcs
        generalize p.cs.getD (k - 1) dClm = pc at *
        generalize C[k] = cc at *
        obtain ⟨ca, cb, cs⟩ := cc
        simp only at d0 d1 d2
        replace HMK : Hid (pk = if p.ps.length ≤ ixP p.ps ca ∨ p.ps.length ≤ ixP p.ps cb then 9 else if ¬ sLt ca cb ∨ (0 < k ∧ clLt pc ⟨ca, cb, cs⟩ = false) then 8 else 0) := HMK
        obtain ⟨wB, hwB⟩ : ∃ wB, wB = w2.alloc (.cells #[.string ca, .string cb, .bool cs] 49) := ⟨_, rfl⟩
        have HGB : Hid (Gq w0 wB) := by rw [hwB]; exact HG2.out.alloc _
        have HPB : Hid (Gq w2 wB) := by rw [hwB]; exact (Gq.refl _).alloc _
        have HKB : Hid (Blk wB w2.heap.size 49 [.string ca, .string cb, .bool cs]) := by rw [hwB]; exact Blk.new w2 _ _
        have k0 : wB.cell? ⟨w2.heap.size, 0, none⟩ = some _ := HKB.out.cell 0
        have k1 : wB.cell? ⟨w2.heap.size, 1, none⟩ = some _ := HKB.out.cell 1
        obtain ⟨hbB, x0, x1⟩ := HPX.out wB HGB.out
        have HBB := Lib.hid hbB
        have HWB := Lib.hid hwB
        have HH1 := Lib.hid (HPN.out ca wB hbB)
        have hb2w : b < w2.heap.size := hb
        clear hwB hbB
        go_upto_region 17 with (fail)
        rw [← HWB.out]
        clear d0 d1 d2 y0 y1
        by_cases hA : ixP p.ps ca < p.ps.length
        case neg =>
          have HR := Lib.hid (HBAD.out 9 (by rw [HMK.out, if_pos (.inl (by omega))]) (by decide))
          rw [show pix p.ps ca = -1 by unfold pix; rw [if_neg hA]] at HH1
          clear hA
          go_wp2_with fail
          refine HH1.out.mono ?_
          rintro e w3 ⟨rfl, hq3⟩
          have HB3 : Hid (Below w.heap.size w w3) := HBB.out.trans (hq3.mono HBB.out.size)
          clear hq3 k0 k1 x0 x1
          go_wp2_with fail
          go_ret
          exact ⟨ret_int HR.out.symm, HB3.out⟩
        rw [pix_in hA] at HH1
        have hna : decide (((ixP p.ps ca : Nat) : Int) < 0) = false := by simp
        have HHA := Lib.hid hA
        clear hA
        go_wp2_with fail
        refine HH1.out.mono ?_
        rintro e w3 ⟨rfl, hq3⟩
        have HG3 : Hid (Gq w0 w3) := Below.trans HGB.out (hq3.mono (Below.size HGB.out))
        have HP3 : Hid (Gq w2 w3) := Below.trans HPB.out (hq3.mono (Below.size HPB.out))
        have HK3 : Hid (Blk w3 w2.heap.size 49 [.string ca, .string cb, .bool cs]) := HKB.out.same (Same.of_below (S := fun _ => True) hq3) trivial
        clear hq3 k0 k1 x0 x1
        have k0 : w3.cell? ⟨w2.heap.size, 0, none⟩ = some _ := HK3.out.cell 0
        have k1 : w3.cell? ⟨w2.heap.size, 1, none⟩ = some _ := HK3.out.cell 1
        obtain ⟨hb3, x0, x1⟩ := HPX.out w3 HG3.out
        have HB3 := Lib.hid hb3
        have HH2 := Lib.hid (HPN.out cb w3 hb3)
        clear hb3
        by_cases hB : ixP p.ps cb < p.ps.length
        case neg =>
          have HR := Lib.hid (HBAD.out 9 (by rw [HMK.out, if_pos (.inr (by omega))]) (by decide))
          rw [show pix p.ps cb = -1 by unfold pix; rw [if_neg hB]] at HH2
          clear hB
          go_wp2_with fail
          refine HH2.out.mono ?_
          rintro e w4 ⟨rfl, hq4⟩
          have HB4 : Hid (Below w.heap.size w w4) := HB3.out.trans (hq4.mono HB3.out.size)
          clear hq4 k0 k1 x0 x1
          go_wp2_with fail
          go_ret
          exact ⟨ret_int HR.out.symm, HB4.out⟩
        rw [pix_in hB] at HH2
        have hnb : decide (((ixP p.ps cb : Nat) : Int) < 0) = false := by simp
        have HMK2 : Hid (pk = if ¬ sLt ca cb ∨ (0 < k ∧ clLt pc ⟨ca, cb, cs⟩ = false) then 8 else 0) := by
          show _ = _
          rw [HMK.out, if_neg]
          have h1 := HHA.out
          omega
        clear hB HMK HHA
        go_wp2_with fail
        refine HH2.out.mono ?_
        rintro e w4 ⟨rfl, hq4⟩
        have HG4 : Hid (Gq w0 w4) := Below.trans HG3.out (hq4.mono (Below.size HG3.out))
        have HP4 : Hid (Gq w2 w4) := Below.trans HP3.out (hq4.mono (Below.size HP3.out))
        have HK4 : Hid (Blk w4 w2.heap.size 49 [.string ca, .string cb, .bool cs]) := HK3.out.same (Same.of_below (S := fun _ => True) hq4) trivial
        clear hq4 k0 k1 x0 x1 hna
        have k0 : w4.cell? ⟨w2.heap.size, 0, none⟩ = some _ := HK4.out.cell 0
        have k1 : w4.cell? ⟨w2.heap.size, 1, none⟩ = some _ := HK4.out.cell 1
        have k2 : w4.cell? ⟨w2.heap.size, 2, none⟩ = some _ := HK4.out.cell 2
        obtain ⟨hb4, x0, x1⟩ := HPX.out w4 HG4.out
        have HB4 := Lib.hid hb4
        have HPV4 : Hid (0 < k → w4.cell? ⟨b, off + (k - 1) * 3, none⟩ = some (.string pc.a) ∧ w4.cell? ⟨b, off + (k - 1) * 3 + 1, none⟩ = some (.string pc.b) ∧ w4.cell? ⟨b, off + (k - 1) * 3 + 2, none⟩ = some (.bool pc.s)) := fun hk0 => by
          rw [Below.cell HP4.out (by exact hb2w), Below.cell HP4.out (by exact hb2w), Below.cell HP4.out (by exact hb2w)]
          exact HPV.out hk0
        clear HH1 HH2 HPV HGB HPB HKB HBB HG3 HP3 HK3 HB3 hb4
        go_upto_region 19 with (fail)
        obtain ⟨ob, hob⟩ : ∃ ob, decide (¬ sLt ca cb ∨ (0 < k ∧ clLt pc ⟨ca, cb, cs⟩ = false)) = ob := ⟨_, rfl⟩
        have HOB := Lib.hid hob
        have HOT : Hid (ob = true → pk = 8) := fun h => by rw [HMK2.out, if_pos (of_decide_eq_true (by rw [HOB.out]; exact h))]
        have HOF : Hid (ob = false → pk = 0) := fun h => by rw [HMK2.out, if_neg (of_decide_eq_false (by rw [HOB.out]; exact h))]
        clear hob HMK2
        go_cut [93] (fun v wx => v = .bool ob ∧ Hid (Gq w4 wx))
        case first =>
          rcases sLt_tri cb ca with hl | hl | hl
          · have s1 := bLe_lt hl
            have s3 := (bLe_gt hl).1
            have HE : Hid (ob = true) := by show _ = _; rw [← HOB.out]; simp [sLt_asymm hl]
            clear hl
            go_quiet (fail)
            go_wp2_with fail
            go_meet
            case rel => exact ⟨by rw [HE.out], below_drewN (Gq.refl w4) _⟩
          · subst hl
            obtain ⟨s1, s2⟩ := bLe_eq cb
            have HE : Hid (ob = true) := by show _ = _; rw [← HOB.out]; simp [sLt_irr]
            go_quiet (fail)
            go_wp2_with fail
            go_meet
            case rel => exact ⟨by rw [HE.out], below_drewN (Gq.refl w4) _⟩
          · obtain ⟨s1, s2⟩ := bLe_gt hl
            have s3 := bLe_lt hl
            by_cases hk0 : 0 < k
            case neg =>
              have hd : decide (0 < k) = false := by simpa using hk0
              have hd' : decide ((0 : Int) < (k : Int)) = false := by simp; omega
              have HE : Hid (ob = false) := by show _ = _; rw [← HOB.out]; simp [hl, hk0]
              clear hl hk0
              go_quiet (fail)
              go_wp2_with fail
              go_meet
              case rel => exact ⟨by rw [HE.out], below_drewN (Gq.refl w4) _⟩
            have hd : decide (0 < k) = true := by simpa using hk0
            have hd' : decide ((0 : Int) < (k : Int)) = true := by simp; omega
            have hw : IntKind.i64.wrap ((k : Int) - 1) = (k : Int) - 1 := IntWalk.i64_in _ (by omega)
            have j0 : (0 : Int) ≤ (k : Int) - 1 := by omega
            have j0' : (1 : Int) ≤ (k : Int) := by omega
            have j1 : (k : Int) - 1 < (C.length : Int) := by omega
            have j2 : ((k : Int) - 1).toNat = k - 1 := by omega
            obtain ⟨q0, q1, q2⟩ := HPV4.out hk0
            obtain ⟨pa, pb, psm⟩ := pc
            simp only at q0 q1 q2
            have HCM := Lib.hid (fun (W : World) => less_any ⟨pa, pb, psm⟩ ⟨ca, cb, cs⟩ W)
            obtain ⟨cv, hcv⟩ : ∃ cv, clLt ⟨pa, pb, psm⟩ ⟨ca, cb, cs⟩ = cv := ⟨_, rfl⟩
            simp only [hcv] at HCM
            have HE : Hid (ob = !cv) := by
              show _ = _
              rw [← HOB.out, hcv]
              cases cv <;> simp [hl, hk0]
            have HCG := Lib.hid (call_gq (w := w4) fun W hW => HCM.out W)
            have hb4w : b < w4.heap.size := Nat.lt_of_lt_of_le hb2w (Below.size HP4.out)
            have h2w4 : w2.heap.size < w4.heap.size := HK4.out.lt
            have hw4 : w.heap.size < w4.heap.size := Nat.lt_of_lt_of_le hz0 (Below.size HG4.out)
            have HS : Hid (∀ W, Gq w4 W → W.cell? ⟨w2.heap.size, 0, none⟩ = some (.string ca) ∧ W.cell? ⟨w2.heap.size, 1, none⟩ = some (.string cb) ∧ W.cell? ⟨w2.heap.size, 2, none⟩ = some (.bool cs) ∧ W.cell? ⟨w.heap.size, 1, none⟩ = some (.slice (some ⟨b, off, none⟩) C.length d)
                ∧ W.cell? ⟨b, off + (k - 1) * 3, none⟩ = some (.string pa) ∧ W.cell? ⟨b, off + (k - 1) * 3 + 1, none⟩ = some (.string pb) ∧ W.cell? ⟨b, off + (k - 1) * 3 + 2, none⟩ = some (.bool psm)) := fun W hW => by
              rw [Below.cell hW (by exact h2w4), Below.cell hW (by exact h2w4), Below.cell hW (by exact h2w4), Below.cell hW (by exact hw4), Below.cell hW (by exact hb4w), Below.cell hW (by exact hb4w), Below.cell hW (by exact hb4w)]
              exact ⟨k0, k1, k2, x1, q0, q1, q2⟩
            have hBR : Gq w4 w4 := Gq.refl _
            have hBD : Gq w4 w4.drew := (Gq.refl _).drew
            clear hl hcv hk0
            go_region_held3 (fun W => W.cell? ⟨w2.heap.size, 0, none⟩ = some (.string ca) ∧ W.cell? ⟨w2.heap.size, 1, none⟩ = some (.string cb) ∧ W.cell? ⟨w2.heap.size, 2, none⟩ = some (.bool cs) ∧ W.cell? ⟨w.heap.size, 1, none⟩ = some (.slice (some ⟨b, off, none⟩) C.length d)
                ∧ W.cell? ⟨b, off + (k - 1) * 3, none⟩ = some (.string pa) ∧ W.cell? ⟨b, off + (k - 1) * 3 + 1, none⟩ = some (.string pb) ∧ W.cell? ⟨b, off + (k - 1) * 3 + 2, none⟩ = some (.bool psm))
              (first | exact HS.out _ hBD | exact HS.out _ hBR | exact HS.out _ hqB)
              (first | (go_at_call 28; with_reducible refine (HCG.out _ (by first | exact hBD | exact hBR)).mono ?_; rintro e wC ⟨rfl, hqB⟩))
            all_goals
              have HQ := Lib.hid hqB
              clear hqB
              go_wp2_with fail
              go_meet
              case rel => exact ⟨by rw [HE.out], HQ⟩
        case rest =>
          obtain ⟨rfl, HGC⟩ := hcut
          have HGC0 : Hid (Gq w0 wc) := Below.trans HG4.out (Below.mono HGC.out (Below.size HG4.out))
          have HBC := Lib.hid (HPX.out wc HGC0.out).1
          cases ob with
          | true =>
            have HR := Lib.hid (HBAD.out 8 (HOT.out (by first | rfl | trivial)) (by decide))
            go_wp2_with fail
            go_ret
            exact ⟨ret_int HR.out.symm, HBC.out⟩
          | false =>
            have HN := Lib.hid (HNEXT.out (HOF.out (by first | rfl | trivial)))
            go_wp2_with fail
            go_roundw
            case rel => exact ⟨k + 1, by omega, by go_num, HN.out, HGC0⟩
            case measure => simp [intOf]; omega
    have hd1 : decide (k < L.length) = true := by simpa using hlt
    have hltp : k < p.ps.length := by rw [HLN.out]; exact hlt
    have HBAD : Hid (∀ v, psF p.ps k = v → v ≠ 0 → peoF p = v) := fun v hv hv0 =>
      HPSF.out v (by rw [firstNZ_bad (f := psF p.ps) HALL.out (by rw [hv]; exact hv0) hltp, hv]) hv0
    have HNEXT : Hid (psF p.ps k = 0 → ∀ j, j < k + 1 → psF p.ps j = 0) := fun hz => step_all HALL.out hz
    obtain ⟨b, off, hAB, hb, hcs⟩ := psn_at (HOK.out.pr.below HBW.out) (by show 0 < L.length; omega)
    simp only at hAB hcs
    subst hAB
    obtain ⟨d0, d1⟩ := hcs k hlt
    have HPR : Hid (0 < k → wo.cell? ⟨b, off + (k - 1) * 2, none⟩ = some (.string (p.ps.getD (k - 1) dPsp).id)) := fun hk0 => by
      rw [getD_at _ _ (k - 1) (by omega)]
      simp only [HPP.out, List.getElem_map]; exact (hcs (k - 1) (by omega)).1
    have hbo : b < wo.heap.size := hb
    have HMK := psF_at p.ps k hltp
    have hpk : p.ps[k] = L[k].x := by simp only [HPP.out, List.getElem_map]
    rw [hpk] at HMK
    replace HMK := Lib.hid HMK
    obtain ⟨⟨o1, o2⟩, o3, o4, o5⟩ := HOK.out.po L[k] (List.getElem_mem hlt)
    have HRN := Lib.hid (o4.below HBW.out)
    have HSZ := Lib.hid o5
    clear hcs o4 o5 hpk hltp
    generalize (p.ps.getD (k - 1) dPsp).id = pn at *
    generalize psF p.ps k = pk at *
    generalize L[k] = x at *
    obtain ⟨id, ⟨sa, sc, sl⟩⟩ := x
    simp only at d0 d1 o1 o2 o3 HRN HSZ
    replace HMK : Hid (pk = if isNm id = false then 5 else if (decide (0 < k) && decide (¬ sLt pn id)) = true then 8 else nmsF sl) := HMK
    obtain ⟨wA, hwA⟩ : ∃ wA, wA = wo.alloc (.cells #[.string id, .slice sa sl.length sc] 41) := ⟨_, rfl⟩
    have HGA : Hid (Gq w0 wA) := by rw [hwA]; exact HG.out.alloc _
    have HPA : Hid (Below wo.heap.size wo wA) := by rw [hwA]; exact (Below.refl _ _).alloc (Nat.le_refl _) _
    have k0 : wA.cell? ⟨wo.heap.size, 0, none⟩ = some (.string id) := by rw [hwA]; exact new_cell (cs := [_, _]) rfl rfl
    have k1 : wA.cell? ⟨wo.heap.size, 1, none⟩ = some (.slice sa sl.length sc) := by rw [hwA]; exact new_cell (cs := [_, _]) rfl rfl
    have HPRA : Hid (0 < k → wA.cell? ⟨b, off + (k - 1) * 2, none⟩ = some (.string pn)) := fun hk0 => by rw [HPA.out.cell (by exact hbo)]; exact HPR.out hk0
    have HWA := Lib.hid hwA
    have HN3 := Lib.hid (HNM.out id wA o1)
    obtain ⟨bp, hbp⟩ : ∃ v, isNm id = v := ⟨_, rfl⟩
    rw [hbp] at HN3 HMK
    clear hwA hbp HPR
    go_upto_region 6 with (fail)
    rw [← HWA.out]
    clear d0 d1 z0 z1
    obtain ⟨hbA, z0, z1⟩ := HPX.out wA HGA.out
    have HBA := Lib.hid hbA
    clear hbA
    go_wp2_with fail
    refine HN3.out.mono ?_
    rintro e w1 ⟨rfl, rfl⟩
    cases bp with
    | false =>
      have HR := Lib.hid (HBAD.out 5 (by rw [HMK.out]; rfl) (by decide))
      go_wp2_with fail
      go_ret
      exact ⟨ret_int HR.out.symm, HBA.out⟩
    | true =>
    go_upto_region 8 with (fail)
    obtain ⟨ob, hob⟩ : ∃ ob, (decide (0 < k) && decide (¬ sLt pn id)) = ob := ⟨_, rfl⟩
    have HMK2 : Hid (pk = if ob = true then 8 else nmsF sl) := by show _ = _; rw [HMK.out, hob]; rfl
    have HOB := Lib.hid hob
    clear hob HMK
    go_cut [46] (fun v wx => v = .bool ob ∧ ∃ n, wx = wA.drewN n)
    case first =>
      by_cases hk0 : 0 < k
      case neg =>
        have hd : decide (0 < k) = false := by simpa using hk0
        have hd' : decide ((0 : Int) < (k : Int)) = false := by simp; omega
        have HE : Hid (ob = false) := by show _ = _; rw [← HOB.out, hd]; rfl
        clear hk0
        go_quiet (fail)
        go_wp2_with fail
        go_meet
        case rel => exact ⟨by rw [HE.out], _, rfl⟩
      have hd : decide (0 < k) = true := by simpa using hk0
      have hd' : decide ((0 : Int) < (k : Int)) = true := by simp; omega
      have hpr := HPRA.out hk0
      have hw : IntKind.i64.wrap ((k : Int) - 1) = (k : Int) - 1 := IntWalk.i64_in _ (by omega)
      have j0 : (0 : Int) ≤ (k : Int) - 1 := by omega
      have j0' : (1 : Int) ≤ (k : Int) := by omega
      have j1 : (k : Int) - 1 < (L.length : Int) := by omega
      have j2 : ((k : Int) - 1).toNat = k - 1 := by omega
      rcases sLt_tri id pn with hl | hl | hl
      · have s1 := bLe_lt hl
        have s3 := (bLe_gt hl).1
        have HE : Hid (ob = true) := by show _ = _; rw [← HOB.out]; simp [hk0, sLt_asymm hl]
        clear hl
        go_quiet (fail)
        go_wp2_with fail
        go_meet
        case rel => exact ⟨by rw [HE.out], _, rfl⟩
      · subst hl
        obtain ⟨s1, s2⟩ := bLe_eq id
        have HE : Hid (ob = true) := by show _ = _; rw [← HOB.out]; simp [hk0, sLt_irr]
        go_quiet (fail)
        go_wp2_with fail
        go_meet
        case rel => exact ⟨by rw [HE.out], _, rfl⟩
      · obtain ⟨s1, s2⟩ := bLe_gt hl
        have s3 := bLe_lt hl
        have HE : Hid (ob = false) := by show _ = _; rw [← HOB.out]; simp [hl]
        clear hl
        go_quiet (fail)
        go_wp2_with fail
        go_meet
        case rel => exact ⟨by rw [HE.out], _, rfl⟩
    case rest =>
      obtain ⟨rfl, n1, hwc⟩ := hcut
      have HGC : Hid (Gq w0 wc) := by rw [hwc]; exact below_drewN HGA.out n1
      have HPC' : Hid (Below wo.heap.size wo wc) := by rw [hwc]; exact below_drewN HPA.out n1
      have HBC := Lib.hid (HPX.out wc HGC.out).1
      have c1 : wc.cell? ⟨wo.heap.size, 1, none⟩ = some (.slice sa sl.length sc) := by rw [hwc]; exact k1
      clear hwc k0 k1 HOB HPRA z0 z1
      cases ob with
      | true =>
        have HR := Lib.hid (HBAD.out 8 (by rw [HMK2.out]; rfl) (by decide))
        go_wp2_with fail
        go_ret
        exact ⟨ret_int HR.out.symm, HBC.out⟩
      | false =>
      have HMK3 : Hid (pk = nmsF sl) := by show _ = _; rw [HMK2.out]; rfl
      have HNR := Lib.hid (namesR_any sa sc sl wc (HRN.out.below HPC'.out) o3 o2 HSZ.out (HMX.out.below HBC.out))
      obtain ⟨nf, hnf⟩ : ∃ nf, nmsF sl = nf := ⟨_, rfl⟩
      rw [hnf] at HNR HMK3
      clear HMK2 hnf
      go_wp2_with fail
      refine HNR.out.mono ?_
      rintro e w5 ⟨rfl, rfl⟩
      by_cases hz : nf = 0
      · subst hz
        have HN := Lib.hid (HNEXT.out HMK3.out)
        go_wp2_with fail
        go_roundw
        case rel => exact ⟨k + 1, by omega, by go_num, HN.out, HGC⟩
        case measure => simp [intOf]; omega
      · have hzb : (nf != 0) = true := by simpa using hz
        have HR := Lib.hid (HBAD.out nf HMK3.out hz)
        clear hz
        go_wp2_with fail
        go_ret
        exact ⟨ret_int HR.out.symm, HBC.out⟩
end Go.Proofs.YtnlnaglaipjlfaaGreatDoor
