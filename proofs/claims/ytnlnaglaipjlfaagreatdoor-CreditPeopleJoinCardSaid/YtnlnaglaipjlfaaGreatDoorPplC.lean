/- The contract of credit.checkPersons. -/
import Derived.Test.YtnlnaglaipjlfaaGreatDoorPplB
import Derived.Deep.DeepCutAuto
namespace Go.Proofs.YtnlnaglaipjlfaaGreatDoor
open Go.RowKit Go.Dw

theorem psF_at (ps : List Psp) (i : Nat) (h : i < ps.length) : psF ps i = if isNm ps[i].id = false then 5 else if (decide (0 < i) && decide (¬ sLt (ps.getD (i - 1) dPsp).id ps[i].id)) = true then 8 else nmsF ps[i].ns := by
  unfold psF; rw [getD_at _ _ i h]
set_option maxRecDepth 100000 in
set_option maxHeartbeats 4000000 in
theorem persons_any (A : Option Addr) (c : Nat) (L : List Psn) (w : World) (h : Rd w A (L.flatMap Psn.cs)) (hn : L.length ≤ 9223372036854775807) (ho : ∀ y ∈ L, PsnOk w y) (hm : HasMax w) :
    Calls Tryz.prog 36 #[.slice A L.length c] w fun e w' => e = .returned (.int .i64 (firstNZ (psF (L.map Psn.x)) L.length)) ∧ Below w.heap.size w w' := by
  have HRD := Lib.hid h
  have HOK := Lib.hid ho
  have HMX := Lib.hid hm
  have HNM := Lib.hid (fun (s : ByteArray) (W : World) (hs : s.size ≤ 9223372036854775807) => isName_any s W hs)
  obtain ⟨fr, hfr⟩ : ∃ fr, firstNZ (psF (L.map Psn.x)) L.length = fr := ⟨_, rfl⟩
  have HS := Lib.hid hfr
  rw [hfr]
  clear h ho hm hfr
  go_enter Tryz.func36, Tryz.ntmps36
  go_wp2_with fail
  go_loopw [9] (fun kv wr => ∃ k : Nat, k ≤ L.length ∧ kv = .int .i64 (k : Int) ∧ Hid (∀ j, j < k → psF (L.map Psn.x) j = 0) ∧ Hid (Below w.heap.size w wr)) (fun kv _ => L.length - (intOf kv).toNat)
  case atStart => exact ⟨0, Nat.zero_le _, rfl, by intro j hj; omega, Below.refl _ _⟩
  case round =>
    obtain ⟨k, hk, rfl, HALL, HB⟩ := hrel
    obtain ⟨wo, hwo⟩ : ∃ wo, wo = wr := ⟨_, rfl⟩
    subst hwo
    by_cases hlt : k < L.length
    case neg =>
      have hd1 : decide (k < L.length) = false := by simpa using hlt
      have HR : Hid (fr = 0) := by show _ = _; rw [← HS.out, firstNZ_ok (fun j hj => HALL.out j (by omega))]
      go_wp2_with fail
      go_ret
      exact ⟨ret_int HR.out.symm, HB.out⟩
    have hd1 : decide (k < L.length) = true := by simpa using hlt
    have HBAD : Hid (∀ v, psF (L.map Psn.x) k = v → v ≠ 0 → fr = v) := fun v hv hv0 => by
      rw [← HS.out, firstNZ_bad (f := psF (L.map Psn.x)) HALL.out (by rw [hv]; exact hv0) hlt, hv]
    have HNEXT : Hid (psF (L.map Psn.x) k = 0 → ∀ j, j < k + 1 → psF (L.map Psn.x) j = 0) := fun hz => step_all HALL.out hz
    obtain ⟨b, off, rfl, hb, hcs⟩ := psn_at HRD.out (by omega)
    obtain ⟨d0, d1⟩ := hcs k hlt
    have HPR : Hid (0 < k → wo.cell? ⟨b, off + (k - 1) * 2, none⟩ = some (.string ((L.map Psn.x).getD (k - 1) dPsp).id)) := fun hk0 => by
      rw [HB.out.cell (by exact hb), getD_at _ _ (k - 1) (by simp; omega)]
      simp only [List.getElem_map]; exact (hcs (k - 1) (by omega)).1
    rw [← HB.out.cell (by exact hb)] at d0 d1
    have hbo : b < wo.heap.size := Nat.lt_of_lt_of_le hb HB.out.size
    have HMK := psF_at (L.map Psn.x) k (by simpa using hlt)
    simp only [List.getElem_map] at HMK
    replace HMK := Lib.hid HMK
    obtain ⟨⟨o1, o2⟩, o3, o4, o5⟩ := HOK.out L[k] (List.getElem_mem hlt)
    have HRN := Lib.hid (o4.below HB.out)
    have HSZ := Lib.hid o5
    clear hcs o4 o5
    generalize ((L.map Psn.x).getD (k - 1) dPsp).id = pn at *
    generalize psF (L.map Psn.x) k = pk at *
    generalize L[k] = x at *
    obtain ⟨id, ⟨sa, sc, sl⟩⟩ := x
    simp only at d0 d1 o1 o2 o3 HRN HSZ
    replace HMK : Hid (pk = if isNm id = false then 5 else if (decide (0 < k) && decide (¬ sLt pn id)) = true then 8 else nmsF sl) := HMK
    obtain ⟨wA, hwA⟩ : ∃ wA, wA = wo.alloc (.cells #[.string id, .slice sa sl.length sc] 41) := ⟨_, rfl⟩
    have HBA : Hid (Below w.heap.size w wA) := by rw [hwA]; exact HB.out.alloc HB.out.size _
    have HPA : Hid (Below wo.heap.size wo wA) := by rw [hwA]; exact (Below.refl _ _).alloc (Nat.le_refl _) _
    have k0 : wA.cell? ⟨wo.heap.size, 0, none⟩ = some (.string id) := by rw [hwA]; exact new_cell (cs := [_, _]) rfl rfl
    have k1 : wA.cell? ⟨wo.heap.size, 1, none⟩ = some (.slice sa sl.length sc) := by rw [hwA]; exact new_cell (cs := [_, _]) rfl rfl
    have hszA : wo.heap.size < wA.heap.size := by rw [hwA]; simp
    have HPRA : Hid (0 < k → wA.cell? ⟨b, off + (k - 1) * 2, none⟩ = some (.string pn)) := fun hk0 => by rw [HPA.out.cell (by exact hbo)]; exact HPR.out hk0
    have HWA := Lib.hid hwA
    have HN3 := Lib.hid (HNM.out id wA o1)
    obtain ⟨bp, hbp⟩ : ∃ v, isNm id = v := ⟨_, rfl⟩
    rw [hbp] at HN3 HMK
    clear hwA hbp HPR
    go_upto_region 4 with (fail)
    rw [← HWA.out]
    clear d0 d1
    go_wp2_with fail
    refine HN3.out.mono ?_
    rintro e w1 ⟨rfl, hb1⟩
    have HB1 := Lib.hid (HBA.out.trans (hb1.mono HBA.out.size))
    have HP1 := Lib.hid (HPA.out.trans (hb1.mono HPA.out.size))
    have HPR1 : Hid (0 < k → w1.cell? ⟨b, off + (k - 1) * 2, none⟩ = some (.string pn)) := fun hk0 => by rw [hb1.cell (by exact (Nat.lt_trans hbo hszA))]; exact HPRA.out hk0
    rw [← hb1.cell (p := ⟨wo.heap.size, 0, none⟩) (by exact hszA)] at k0
    rw [← hb1.cell (p := ⟨wo.heap.size, 1, none⟩) (by exact hszA)] at k1
    clear hb1 HPRA
    cases bp with
    | false =>
      have HR := Lib.hid (HBAD.out 5 (by rw [HMK.out]; rfl) (by decide))
      go_wp2_with fail
      go_ret
      exact ⟨ret_int HR.out.symm, HB1.out⟩
    | true =>
    go_upto_region 6 with (fail)
    obtain ⟨ob, hob⟩ : ∃ ob, (decide (0 < k) && decide (¬ sLt pn id)) = ob := ⟨_, rfl⟩
    have HMK2 : Hid (pk = if ob = true then 8 else nmsF sl) := by show _ = _; rw [HMK.out, hob]; rfl
    have HOB := Lib.hid hob
    clear hob HMK
    go_cut [30] (fun v wx => v = .bool ob ∧ ∃ n, wx = w1.drewN n)
    case first =>
      by_cases hk0 : 0 < k
      case neg =>
        have hd : decide (0 < k) = false := by simpa using hk0
        have hd' : decide ((0 : Int) < (k : Int)) = false := by simp; omega
        have HE : Hid (ob = false) := by show _ = _; rw [← HOB.out, hd]; rfl
        clear hk0
        go_quiet (fail)
        go_wp2_with fail
        go_meet
        case rel => exact ⟨by rw [HE.out], _, rfl⟩
      have hd : decide (0 < k) = true := by simpa using hk0
      have hd' : decide ((0 : Int) < (k : Int)) = true := by simp; omega
      have hpr := HPR1.out hk0
      have hw : IntKind.i64.wrap ((k : Int) - 1) = (k : Int) - 1 := IntWalk.i64_in _ (by omega)
      have j0 : (0 : Int) ≤ (k : Int) - 1 := by omega
      have j0' : (1 : Int) ≤ (k : Int) := by omega
      have j1 : (k : Int) - 1 < (L.length : Int) := by omega
      have j2 : ((k : Int) - 1).toNat = k - 1 := by omega
      rcases sLt_tri id pn with hl | hl | hl
      · have s1 := bLe_lt hl
        have HE : Hid (ob = true) := by show _ = _; rw [← HOB.out]; simp [hk0, sLt_asymm hl]
        clear hl
        go_quiet (fail)
        go_wp2_with fail
        go_meet
        case rel => exact ⟨by rw [HE.out], _, rfl⟩
      · subst hl
        obtain ⟨s1, s2⟩ := bLe_eq id
        have HE : Hid (ob = true) := by show _ = _; rw [← HOB.out]; simp [hk0, sLt_irr]
        go_quiet (fail)
        go_wp2_with fail
        go_meet
        case rel => exact ⟨by rw [HE.out], _, rfl⟩
      · obtain ⟨s1, s2⟩ := bLe_gt hl
        have HE : Hid (ob = false) := by show _ = _; rw [← HOB.out]; simp [hl]
        clear hl
        go_quiet (fail)
        go_wp2_with fail
        go_meet
        case rel => exact ⟨by rw [HE.out], _, rfl⟩
    case rest =>
      obtain ⟨rfl, n1, hwc⟩ := hcut
      have HBC : Hid (Below w.heap.size w wc) := by rw [hwc]; exact below_drewN HB1.out n1
      have HPC : Hid (Below wo.heap.size wo wc) := by rw [hwc]; exact below_drewN HP1.out n1
      have c1 : wc.cell? ⟨wo.heap.size, 1, none⟩ = some (.slice sa sl.length sc) := by rw [hwc]; exact k1
      clear hwc k0 k1 HOB HPR1
      cases ob with
      | true =>
        have HR := Lib.hid (HBAD.out 8 (by rw [HMK2.out]; rfl) (by decide))
        go_wp2_with fail
        go_ret
        exact ⟨ret_int HR.out.symm, HBC.out⟩
      | false =>
      have HMK3 : Hid (pk = nmsF sl) := by show _ = _; rw [HMK2.out]; rfl
      clear HMK2
      by_cases h0 : sl.length = 0
      · have HR := Lib.hid (HBAD.out 9 (by rw [HMK3.out]; unfold nmsF; rw [if_pos h0]) (by decide))
        have hb : ((sl.length : Int) == 0) = true := by simp [h0]
        have hb' : (sl.length == 0) = true := by simp [h0]
        clear h0
        go_wp2_with fail
        go_ret
        exact ⟨ret_int HR.out.symm, HBC.out⟩
      have hb0 : ((sl.length : Int) == 0) = false := by simp; exact fun e => h0 (by rw [e]; rfl)
      have hb0' : (sl.length == 0) = false := by simp; exact fun e => h0 (by rw [e]; rfl)
      by_cases h1 : 10 < sl.length
      · have HR := Lib.hid (HBAD.out 2 (by rw [HMK3.out]; unfold nmsF; rw [if_neg h0, if_pos h1]) (by decide))
        clear h0
        go_wp2_with fail
        go_ret
        exact ⟨ret_int HR.out.symm, HBC.out⟩
      have HN := Lib.hid (nmsF_at h0 h1)
      have HRC := Lib.hid (HRN.out.below HPC.out)
      have HMC := Lib.hid (HMX.out.below HBC.out)
      clear h0
      go_wp2_with fail
      go_loop [42] (fun jv => ∃ j : Nat, j ≤ sl.length ∧ jv = .int .i64 (j : Int) ∧ Hid (∀ i, i < j → namF sl i = 0)) (fun jv => sl.length - (intOf jv).toNat)
      case atStart => exact ⟨0, Nat.zero_le _, rfl, by intro j hj; omega⟩
      case round =>
        obtain ⟨j, hj, rfl, HAJ⟩ := hrel
        by_cases hlj : j < sl.length
        case neg =>
          have hd2 : decide (j < sl.length) = false := by simpa using hlj
          have HZ := Lib.hid (HNEXT.out (by rw [HMK3.out, HN.out, firstNZ_ok (fun i hi => HAJ.out i (by omega))]))
          go_wp2_with fail
          go_roundw
          case rel => exact ⟨k + 1, by omega, by go_num, HZ.out, HBC.out⟩
          case measure => simp [intOf]; omega
        have hd2 : decide (j < sl.length) = true := by simpa using hlj
        have HBJ : Hid (∀ v, namF sl j = v → v ≠ 0 → fr = v) := fun v hv hv0 =>
          HBAD.out v (by rw [HMK3.out, HN.out, firstNZ_bad (f := namF sl) HAJ.out (by rw [hv]; exact hv0) hlj, hv]) hv0
        have HNJ : Hid (namF sl j = 0 → ∀ i, i < j + 1 → namF sl i = 0) := fun hz => step_all HAJ.out hz
        obtain ⟨b3, off3, rfl, hb3, hcs3⟩ := HRC.out.at_ (by rw [sb_len]; omega)
        have e1 := hcs3 j _ (sb_at sl j hlj)
        have hs1 := HSZ.out sl[j] (List.getElem_mem hlj)
        have HMJ := Lib.hid (namF_at sl j hlj)
        have HLN := Lib.hid (isLine_any sl[j] wc HMC.out hs1)
        have hlk : (sl.take j).length = j := by rw [List.length_take]; omega
        have HCT := Lib.hid (contS_any (some ⟨b3, off3, none⟩) sc (sl.take j) sl[j] wc (rd_take HRC.out j) (by omega))
        rw [hlk] at HCT
        generalize sl[j] = nm at *
        rw [show memL (sl.take j) nm = memS (sl.take j) nm from rfl] at HCT
        generalize memS (sl.take j) nm = ct at *
        obtain ⟨bl, hbl⟩ : ∃ v, isLn nm = v := ⟨_, rfl⟩
        rw [hbl] at HLN HMJ
        have hkc : (j : Int) ≤ (sc : Int) := by omega
        clear hcs3 hbl hlk
        cases bl with
        | false =>
          have HR := Lib.hid (HBJ.out 3 (by rw [HMJ.out]; rfl) (by decide))
          go_wp2_with fail
          refine HLN.out.mono ?_
          rintro e w2 ⟨rfl, rfl⟩
          go_wp2_with fail
          go_ret
          exact ⟨ret_int HR.out.symm, HBC.out⟩
        | true =>
          go_wp2_with fail
          refine HLN.out.mono ?_
          rintro e w2 ⟨rfl, rfl⟩
          go_wp2_with fail
          refine HCT.out.mono ?_
          rintro e w2 ⟨rfl, rfl⟩
          cases ct with
          | true =>
            have HR := Lib.hid (HBJ.out 7 (by rw [HMJ.out]; rfl) (by decide))
            go_wp2_with fail
            go_ret
            exact ⟨ret_int HR.out.symm, HBC.out⟩
          | false =>
            have HZ := Lib.hid (HNJ.out (by rw [HMJ.out]; rfl))
            go_wp2_with fail
            go_round
            case rel => exact ⟨j + 1, by omega, by go_num, HZ.out⟩
            case measure => simp [intOf]; omega
end Go.Proofs.YtnlnaglaipjlfaaGreatDoor
