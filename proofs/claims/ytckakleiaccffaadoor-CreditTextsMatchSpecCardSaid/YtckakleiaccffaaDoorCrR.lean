/- The contracts of the reference's checkCredit and CheckCredits. -/
import Derived.Test.YtckakleiaccffaaDoorCrP
import Derived.Test.YtckakleiaccffaaDoorNameR5
import Derived.Deep.DeepCutAuto
import Derived.Deep.CutBlock
namespace Go.Proofs.YtckakleiaccffaaDoor
open Go.RowKit Go.Dw

theorem insR_any (A : Option Addr) (n c : Nat) (w : World) (hn : n ≤ 9223372036854775807) :
    Calls Tryd.prog 38 #[.slice A n c] w fun e w' => e = .returned (.int .i64 (if n = 0 then 9 else if 20 < n then 2 else 0)) ∧ w = w' := by
  by_cases h0 : n = 0
  · subst h0
    go_enter Tryd.func38, Tryd.ntmps38
    go_wp2_with fail
    go_ret
    exact ⟨rfl, rfl⟩
  have hb0 : ((n : Int) == 0) = false := by simp; omega
  have hb0' : (n == 0) = false := by simp; omega
  by_cases hbig : 20 < n
  · rw [if_neg h0, if_pos hbig]
    clear h0
    go_enter Tryd.func38, Tryd.ntmps38
    go_wp2_with fail
    go_ret
    exact ⟨rfl, rfl⟩
  · rw [if_neg h0, if_neg hbig]
    clear h0
    go_enter Tryd.func38, Tryd.ntmps38
    go_wp2_with fail
    go_ret
    exact ⟨rfl, rfl⟩
set_option maxRecDepth 100000 in
set_option maxHeartbeats 4000000 in
theorem creditR_any (c0 : Crd) (w : World) (h : CrOk w c0) (hm : HasMax w) :
    Calls Tryd.prog 25 #[.agg c0.cs.toArray] w fun e w' => e = .returned (.int .i64 (crdF c0.x)) ∧ Below w.heap.size w w' := by
  obtain ⟨o1, o2, o3, o4, o5, o6, o7, o8⟩ := h
  obtain ⟨r, p, nm, ⟨sa, sc, sl⟩, m⟩ := c0
  simp only at o1 o2 o3 o4 o5 o6 o7 o8
  have HCF : Hid (crdF (Crd.x ⟨r, p, nm, ⟨sa, sc, sl⟩, m⟩) = if isLn r = false ∨ isLn nm = false then 3 else if isNm p = false then 5 else if insF sl ≠ 0 then insF sl else if 1 ≤ m ∧ m ≤ 100000 then 0 else 1) := rfl
  obtain ⟨wA, hwA⟩ : ∃ wA, wA = w.alloc (.cells #[.string r, .string p, .string nm, .slice sa sl.length sc, .int .i64 m] 38) := ⟨_, rfl⟩
  have HBA : Hid (Below w.heap.size w wA) := by rw [hwA]; exact (Below.refl _ _).alloc (Nat.le_refl _) _
  have k0 : wA.cell? ⟨w.heap.size, 0, none⟩ = some (.string r) := by rw [hwA]; exact new_cell (cs := [_, _, _, _, _]) rfl rfl
  have k1 : wA.cell? ⟨w.heap.size, 1, none⟩ = some (.string p) := by rw [hwA]; exact new_cell (cs := [_, _, _, _, _]) rfl rfl
  have k2 : wA.cell? ⟨w.heap.size, 2, none⟩ = some (.string nm) := by rw [hwA]; exact new_cell (cs := [_, _, _, _, _]) rfl rfl
  have k3 : wA.cell? ⟨w.heap.size, 3, none⟩ = some (.slice sa sl.length sc) := by rw [hwA]; exact new_cell (cs := [_, _, _, _, _]) rfl rfl
  have k4 : wA.cell? ⟨w.heap.size, 4, none⟩ = some (.int .i64 m) := by rw [hwA]; exact new_cell (cs := [_, _, _, _, _]) rfl rfl
  have HWA := Lib.hid hwA
  have HL1 := Lib.hid (isLineR_any r wA (hm.below HBA.out) o1)
  have HL2 := Lib.hid (isLineR_any nm wA (hm.below HBA.out) o3)
  have HN3 := Lib.hid (isNameR_any p wA o2)
  have HIN := Lib.hid (insR_any sa sl.length sc wA o4)
  have HRD := Lib.hid (o5.below HBA.out)
  have HSZ := Lib.hid o6
  have HNM := Lib.hid (fun (s : ByteArray) (W : World) (hs : s.size ≤ 9223372036854775807) => isNameR_any s W hs)
  obtain ⟨br, hbr⟩ : ∃ v, isLn r = v := ⟨_, rfl⟩
  obtain ⟨bn, hbn⟩ : ∃ v, isLn nm = v := ⟨_, rfl⟩
  obtain ⟨bp, hbp⟩ : ∃ v, isNm p = v := ⟨_, rfl⟩
  rw [hbr] at HL1 HCF
  rw [hbn] at HL2 HCF
  rw [hbp] at HN3 HCF
  clear hwA hbr hbn hbp o5 o6 hm
  simp only [Crd.cs, Slc.v]
  go_enter Tryd.func25, Tryd.ntmps25
  go_upto_region 1 with (fail)
  rw [← HWA.out]
  go_wp2_with fail
  refine HL1.out.mono ?_
  rintro e w1 ⟨rfl, rfl⟩
  cases br with
  | false =>
    have HR : Hid (crdF (Crd.x ⟨r, p, nm, ⟨sa, sc, sl⟩, m⟩) = 3) := by show _ = _; rw [HCF.out]; simp
    go_wp2_with fail
    go_ret
    exact ⟨ret_int HR.out.symm, HBA.out⟩
  | true =>
  go_wp2_with fail
  refine HL2.out.mono ?_
  rintro e w1 ⟨rfl, rfl⟩
  cases bn with
  | false =>
    have HR : Hid (crdF (Crd.x ⟨r, p, nm, ⟨sa, sc, sl⟩, m⟩) = 3) := by show _ = _; rw [HCF.out]; simp
    go_wp2_with fail
    go_ret
    exact ⟨ret_int HR.out.symm, HBA.out⟩
  | true =>
  go_wp2_with fail
  refine HN3.out.mono ?_
  rintro e w1 ⟨rfl, rfl⟩
  cases bp with
  | false =>
    have HR : Hid (crdF (Crd.x ⟨r, p, nm, ⟨sa, sc, sl⟩, m⟩) = 5) := by show _ = _; rw [HCF.out]; simp
    go_wp2_with fail
    go_ret
    exact ⟨ret_int HR.out.symm, HBA.out⟩
  | true =>
  go_wp2_with fail
  refine HIN.out.mono ?_
  rintro e w1 ⟨rfl, rfl⟩
  by_cases h0 : sl.length = 0
  · have HR : Hid (crdF (Crd.x ⟨r, p, nm, ⟨sa, sc, sl⟩, m⟩) = 9) := by
      show _ = _; rw [HCF.out]
      have : insF sl = 9 := by unfold insF; rw [if_pos h0]
      simp [this]
    rw [if_pos h0]
    clear h0
    go_wp2_with fail
    go_ret
    exact ⟨ret_int HR.out.symm, HBA.out⟩
  rw [if_neg h0]
  by_cases hbig : 20 < sl.length
  · have HR : Hid (crdF (Crd.x ⟨r, p, nm, ⟨sa, sc, sl⟩, m⟩) = 2) := by
      show _ = _; rw [HCF.out]
      have : insF sl = 2 := by unfold insF; rw [if_neg h0, if_pos hbig]
      simp [this]
    rw [if_pos hbig]
    clear h0
    go_wp2_with fail
    go_ret
    exact ⟨ret_int HR.out.symm, HBA.out⟩
  rw [if_neg hbig]
  have HS : Hid (insF sl = firstNZ (inF sl) sl.length) := by show _ = _; unfold insF; rw [if_neg h0, if_neg hbig]
  clear h0 k0 k1 k2
  go_wp2_with fail
  go_loop [29] (fun kv => ∃ k : Nat, k ≤ sl.length ∧ kv = .int .i64 (k : Int) ∧ Hid (∀ j, j < k → inF sl j = 0)) (fun kv => sl.length - (intOf kv).toNat)
  case atStart => exact ⟨0, Nat.zero_le _, rfl, by intro j hj; omega⟩
  case round =>
    obtain ⟨k, hk, rfl, HALL⟩ := hrel
    by_cases hlt : k < sl.length
    case neg =>
      have hd1 : decide (k < sl.length) = false := by simpa using hlt
      have HI0 : Hid (insF sl = 0) := by show _ = _; rw [HS.out, firstNZ_ok (fun j hj => HALL.out j (by omega))]
      by_cases hm1 : m < 1
      · have HR : Hid (crdF (Crd.x ⟨r, p, nm, ⟨sa, sc, sl⟩, m⟩) = 1) := by show _ = _; rw [HCF.out]; simp [HI0.out]; omega
        go_wp2_with fail
        go_ret
        exact ⟨ret_int HR.out.symm, HBA.out⟩
      by_cases hm2 : 100000 < m
      · have HR : Hid (crdF (Crd.x ⟨r, p, nm, ⟨sa, sc, sl⟩, m⟩) = 1) := by show _ = _; rw [HCF.out]; simp [HI0.out]; omega
        go_wp2_with fail
        go_ret
        exact ⟨ret_int HR.out.symm, HBA.out⟩
      have HR : Hid (crdF (Crd.x ⟨r, p, nm, ⟨sa, sc, sl⟩, m⟩) = 0) := by show _ = _; rw [HCF.out]; simp [HI0.out]; omega
      go_wp2_with fail
      go_ret
      exact ⟨ret_int HR.out.symm, HBA.out⟩
    have hd1 : decide (k < sl.length) = true := by simpa using hlt
    have HBAD : Hid (∀ v, inF sl k = v → v ≠ 0 → crdF (Crd.x ⟨r, p, nm, ⟨sa, sc, sl⟩, m⟩) = v) := fun v hv hv0 => by
      have h2 : insF sl = v := by rw [HS.out, firstNZ_bad (f := inF sl) HALL.out (by rw [hv]; exact hv0) hlt, hv]
      rw [HCF.out, h2]; simp [hv0]
    have HNEXT : Hid (inF sl k = 0 → ∀ j, j < k + 1 → inF sl j = 0) := fun hz => step_all HALL.out hz
    obtain ⟨b, off, rfl, hb, hcs⟩ := HRD.out.at_ (by rw [sb_len]; omega)
    have hc1 : wA.cell? ⟨b, off + k, none⟩ = some (.string sl[k]) := hcs k _ (sb_at sl k hlt)
    have hs1 := HSZ.out sl[k] (List.getElem_mem hlt)
    have HMK : Hid (inF sl k = if isNm sl[k] = false then 5 else if (decide (0 < k) && decide (¬ sLt (sl.getD (k - 1) ⟨#[]⟩) sl[k])) = true then 8 else 0) := by show _ = _; unfold inF; rw [getD_at sl _ k hlt]
    have HPR : Hid (0 < k → wA.cell? ⟨b, off + (k - 1), none⟩ = some (.string (sl.getD (k - 1) ⟨#[]⟩))) := fun hk0 => by
      rw [getD_at sl _ (k - 1) (by omega)]; exact hcs (k - 1) _ (sb_at sl (k - 1) (by omega))
    generalize sl[k] = nm2 at *
    generalize sl.getD (k - 1) ⟨#[]⟩ = pn at *
    clear hcs
    have hd3 : k = 0 ∨ 0 < k := by omega
    have HN4 := Lib.hid (HNM.out nm2 wA hs1)
    obtain ⟨b2, hb2⟩ : ∃ b2, isNm nm2 = b2 := ⟨_, rfl⟩
    rw [hb2] at HMK HN4
    clear hb2
    go_wp2_with fail
    refine HN4.out.mono ?_
    rintro e w1 ⟨rfl, rfl⟩
    cases b2
    · have HR := Lib.hid (HBAD.out 5 (by rw [HMK.out]; rfl) (by decide))
      go_wp2_with fail
      go_ret
      exact ⟨ret_int HR.out.symm, HBA.out⟩
    have HTAIL : Hid (∀ (bo : Bool), (decide (0 < k) && decide (¬ sLt pn nm2)) = bo → inF sl k = if bo = true then 8 else 0) := fun bo hbo => by
      rw [HMK.out, ← hbo]; rfl
    rcases hd3 with rfl | hk0
    · have HN := Lib.hid (HNEXT.out (by rw [HTAIL.out false (by simp)]; rfl))
      have hd4 : decide ((0 : Int) < 0) = false := by decide
      go_wp2_with fail
      go_round
      case rel => exact ⟨_, by omega, by go_num, HN⟩
      case measure => simp [intOf]; omega
    · have hpr := HPR.out hk0
      have hd4 : decide (0 < k) = true := by simpa using hk0
      have hd4' : decide ((0 : Int) < (k : Int)) = true := by simpa using hk0
      have hw : IntKind.i64.wrap ((k : Int) - 1) = (k : Int) - 1 := IntWalk.i64_in _ (by omega)
      have j0 : (0 : Int) ≤ (k : Int) - 1 := by omega
      have j0' : (1 : Int) ≤ (k : Int) := by omega
      have j1 : (k : Int) - 1 < (sl.length : Int) := by omega
      have j2 : ((k : Int) - 1).toNat = k - 1 := by omega
      rcases sLt_tri nm2 pn with hl | hl | hl
      · have s1 := bLe_lt hl
        have HR := Lib.hid (HBAD.out 8 (by rw [HTAIL.out true (by simp [hk0, sLt_asymm hl])]; rfl) (by decide))
        clear hl
        go_wp2_with fail
        go_ret
        exact ⟨ret_int HR.out.symm, HBA.out⟩
      · subst hl
        obtain ⟨s1, s2⟩ := bLe_eq nm2
        have HR := Lib.hid (HBAD.out 8 (by rw [HTAIL.out true (by simp [hk0, sLt_irr])]; rfl) (by decide))
        go_wp2_with fail
        go_ret
        exact ⟨ret_int HR.out.symm, HBA.out⟩
      · obtain ⟨s1, s2⟩ := bLe_gt hl
        have HN := Lib.hid (HNEXT.out (by rw [HTAIL.out false (by simp [hl])]; rfl))
        clear hl
        go_wp2_with fail
        go_round
        case rel => exact ⟨_, by omega, by go_num, HN⟩
        case measure => simp [intOf]; omega
set_option maxHeartbeats 2000000 in
theorem creditsR_any (x : Slc Crd) (w : World) (h : Crs w x) (hm : HasMax w) :
    Calls Tryd.prog 14 #[x.v] w fun e w' => e = .returned (.int .i64 (crsF (x.xs.map Crd.x))) ∧ Below w.heap.size w w' := by
  by_cases hbig : 1000 < x.xs.length
  · have HR : Hid (crsF (x.xs.map Crd.x) = 2) := by show _ = _; unfold crsF; rw [if_pos (by simpa using hbig)]
    simp only [Slc.v]
    go_enter Tryd.func14, Tryd.ntmps14
    go_wp2_with fail
    go_ret
    exact ⟨ret_int HR.out.symm, Below.refl _ _⟩
  have HX := Lib.hid h
  have HMX := Lib.hid hm
  have HS : Hid (crsF (x.xs.map Crd.x) = firstNZ (fun i => crdF ((x.xs.map Crd.x).getD i dCrp)) x.xs.length) := by show _ = _; unfold crsF; rw [List.length_map, if_neg hbig]
  obtain ⟨A, c, L⟩ := x
  clear h hm
  simp only [Slc.v] at *
  go_enter Tryd.func14, Tryd.ntmps14
  go_wp2_with fail
  go_loopw [11] (fun kv wr => ∃ k : Nat, k ≤ L.length ∧ kv = .int .i64 (k : Int) ∧ Hid (∀ j, j < k → crdF ((L.map Crd.x).getD j dCrp) = 0) ∧ Hid (Below w.heap.size w wr)) (fun kv _ => L.length - (intOf kv).toNat)
  case atStart => exact ⟨0, Nat.zero_le _, rfl, by intro j hj; omega, Below.refl _ _⟩
  case round =>
    obtain ⟨k, hk, rfl, HALL, HB⟩ := hrel
    by_cases hlt : k < L.length
    case neg =>
      have hd1 : decide (k < L.length) = false := by simpa using hlt
      have HR : Hid (crsF (L.map Crd.x) = 0) := by show _ = _; rw [HS.out, firstNZ_ok (fun j hj => HALL.out j (by omega))]
      go_wp2_with fail
      go_ret
      exact ⟨ret_int HR.out.symm, HB.out⟩
    have hd1 : decide (k < L.length) = true := by simpa using hlt
    have HBAD : Hid (∀ v, crdF ((L.map Crd.x).getD k dCrp) = v → v ≠ 0 → crsF (L.map Crd.x) = v) := fun v hv hv0 => by
      rw [HS.out, firstNZ_bad (f := fun i => crdF ((L.map Crd.x).getD i dCrp)) HALL.out (by rw [hv]; exact hv0) hlt, hv]
    have HNEXT : Hid (crdF ((L.map Crd.x).getD k dCrp) = 0 → ∀ j, j < k + 1 → crdF ((L.map Crd.x).getD j dCrp) = 0) := fun hz => step_all (f := fun i => crdF ((L.map Crd.x).getD i dCrp)) HALL.out hz
    have e5 : (L.map Crd.x).getD k dCrp = L[k].x := by rw [getD_at _ _ k (by simpa using hlt)]; simp
    rw [e5] at HBAD HNEXT
    clear e5
    obtain ⟨b, off, hA, hb, hcs⟩ := HX.out.at_ (by show 0 < L.length; omega)
    obtain rfl : A = some ⟨b, off, none⟩ := hA
    obtain ⟨d0, d1, d2, d3, d4⟩ := hcs k hlt
    have hbw : b < w.heap.size := hb
    rw [← HB.out.cell (p := ⟨b, off + k * 5, none⟩) (by exact hbw)] at d0
    rw [← HB.out.cell (p := ⟨b, off + k * 5 + 1, none⟩) (by exact hbw)] at d1
    rw [← HB.out.cell (p := ⟨b, off + k * 5 + 2, none⟩) (by exact hbw)] at d2
    rw [← HB.out.cell (p := ⟨b, off + k * 5 + 3, none⟩) (by exact hbw)] at d3
    rw [← HB.out.cell (p := ⟨b, off + k * 5 + 4, none⟩) (by exact hbw)] at d4
    have HC := Lib.hid (fun (W : World) (hW : Below w.heap.size w W) => creditR_any L[k] W ((HX.out.2.2 L[k] (List.getElem_mem hlt)).below hW) (HMX.out.below hW))
    clear hcs
    generalize L[k] = cc at *
    obtain ⟨f, hf⟩ : ∃ f, crdF cc.x = f := ⟨_, rfl⟩
    simp only [hf] at HC
    rw [hf] at HBAD HNEXT
    clear hf
    obtain ⟨r, p, nm, ⟨sa, sc, sl⟩, m⟩ := cc
    simp only at d0 d1 d2 d3 d4
    simp only [Crd.cs, Slc.v] at HC
    go_wp2_with fail
    refine (HC.out _ (HB.out.alloc HB.out.size _)).mono ?_
    rintro e w1 ⟨rfl, hb1⟩
    have HB1 : Hid (Below w.heap.size w w1) := (HB.out.alloc HB.out.size (.cells #[.string r, .string p, .string nm, .slice sa sl.length sc, .int .i64 m] 38)).trans (hb1.mono (by have := HB.out.size; simp; omega))
    clear hb1 d0 d1 d2 d3 d4
    by_cases hz : f = 0
    · subst hz
      have HN := Lib.hid (HNEXT.out rfl)
      go_wp2_with fail
      go_roundw
      case rel => exact ⟨k + 1, by omega, by go_num, HN.out, HB1.out⟩
      case measure => simp [intOf]; omega
    · have hzb : (f != 0) = true := by simpa using hz
      have HR := Lib.hid (HBAD.out f rfl hz)
      clear hz
      go_wp2_with fail
      go_ret
      exact ⟨ret_int HR.out.symm, HB1.out⟩
end Go.Proofs.YtckakleiaccffaaDoor
