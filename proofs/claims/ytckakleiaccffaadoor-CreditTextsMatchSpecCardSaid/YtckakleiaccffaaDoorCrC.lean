/- The contract of credit.checkCredits. -/
import Derived.Test.YtckakleiaccffaaDoorCrA
import Derived.Deep.DeepCutAuto
import Derived.Deep.CutBlock
namespace Go.Proofs.YtckakleiaccffaaDoor
open Go.RowKit Go.Dw

set_option maxHeartbeats 4000000 in
theorem credits_any (x : Slc Crd) (w : World) (h : Crs w x) (hm : HasMax w) :
    Calls Tryd.prog 9 #[x.v] w fun e w' => e = .returned (.int .i64 (crsF (x.xs.map Crd.x))) ∧ Below w.heap.size w w' := by
  by_cases hbig : 1000 < x.xs.length
  · have HR : Hid (crsF (x.xs.map Crd.x) = 2) := by show _ = _; unfold crsF; rw [if_pos (by simpa using hbig)]
    simp only [Slc.v]
    go_enter Tryd.func9, Tryd.ntmps9
    go_wp2_with fail
    go_ret
    exact ⟨ret_int HR.out.symm, Below.refl _ _⟩
  have HX := Lib.hid h
  have HMX := Lib.hid hm
  have HS : Hid (crsF (x.xs.map Crd.x) = firstNZ (fun i => crdF ((x.xs.map Crd.x).getD i dCrp)) x.xs.length) := by show _ = _; unfold crsF; rw [List.length_map, if_neg hbig]
  obtain ⟨A, c, L⟩ := x
  clear h hm
  simp only [Slc.v] at *
  go_enter Tryd.func9, Tryd.ntmps9
  go_wp2_with fail
  go_loopw [11] (fun kv wr => ∃ k : Nat, k ≤ L.length ∧ kv = .int .i64 (k : Int) ∧ Hid (∀ j, j < k → crdF ((L.map Crd.x).getD j dCrp) = 0) ∧ Hid (Below w.heap.size w wr)) (fun kv _ => L.length - (intOf kv).toNat)
  case atStart => exact ⟨0, Nat.zero_le _, rfl, by intro j hj; omega, Below.refl _ _⟩
  case round =>
    obtain ⟨k, hk, rfl, HALL, HB⟩ := hrel
    by_cases hlt : k < L.length
    case neg =>
      have hd1 : decide (k < L.length) = false := by simpa using hlt
      have HR : Hid (crsF (L.map Crd.x) = 0) := by show _ = _; rw [HS.out, firstNZ_ok (fun j hj => HALL.out j (by omega))]
      go_wp2_with fail
      go_ret
      exact ⟨ret_int HR.out.symm, HB.out⟩
    have hd1 : decide (k < L.length) = true := by simpa using hlt
    have HBAD : Hid (∀ v, crdF ((L.map Crd.x).getD k dCrp) = v → v ≠ 0 → crsF (L.map Crd.x) = v) := fun v hv hv0 => by
      rw [HS.out, firstNZ_bad (f := fun i => crdF ((L.map Crd.x).getD i dCrp)) HALL.out (by rw [hv]; exact hv0) hlt, hv]
    have HNEXT : Hid (crdF ((L.map Crd.x).getD k dCrp) = 0 → ∀ j, j < k + 1 → crdF ((L.map Crd.x).getD j dCrp) = 0) := fun hz => step_all (f := fun i => crdF ((L.map Crd.x).getD i dCrp)) HALL.out hz
    have e5 : (L.map Crd.x).getD k dCrp = L[k].x := by rw [getD_at _ _ k (by simpa using hlt)]; simp
    rw [e5] at HBAD HNEXT
    clear e5
    obtain ⟨b, off, hA, hb, hcs⟩ := HX.out.at_ (by show 0 < L.length; omega)
    obtain rfl : A = some ⟨b, off, none⟩ := hA
    obtain ⟨d0, d1, d2, d3, d4⟩ := hcs k hlt
    have hbw : b < w.heap.size := hb
    rw [← HB.out.cell (p := ⟨b, off + k * 5, none⟩) (by exact hbw)] at d0
    rw [← HB.out.cell (p := ⟨b, off + k * 5 + 1, none⟩) (by exact hbw)] at d1
    rw [← HB.out.cell (p := ⟨b, off + k * 5 + 2, none⟩) (by exact hbw)] at d2
    rw [← HB.out.cell (p := ⟨b, off + k * 5 + 3, none⟩) (by exact hbw)] at d3
    rw [← HB.out.cell (p := ⟨b, off + k * 5 + 4, none⟩) (by exact hbw)] at d4
    obtain ⟨o1, o2, o3, o4, o5, o6, o7, o8⟩ := HX.out.2.2 L[k] (List.getElem_mem hlt)
    have HRD := Lib.hid (o5.below HB.out)
    have HSZ := Lib.hid o6
    clear hcs o5 o6 o7 o8
    generalize L[k] = cc at *
    obtain ⟨r, p, nm, ⟨sa, sc, sl⟩, m⟩ := cc
    simp only at d0 d1 d2 d3 d4 o1 o2 o3 o4 HRD HSZ
    have HCF : Hid (crdF (Crd.x ⟨r, p, nm, ⟨sa, sc, sl⟩, m⟩) = if isLn r = false ∨ isLn nm = false then 3 else if isNm p = false then 5 else if insF sl ≠ 0 then insF sl else if 1 ≤ m ∧ m ≤ 100000 then 0 else 1) := rfl
    obtain ⟨wA, hwA⟩ : ∃ wA, wA = wr.alloc (.cells #[.string r, .string p, .string nm, .slice sa sl.length sc, .int .i64 m] 38) := ⟨_, rfl⟩
    have HBA : Hid (Below w.heap.size w wA) := by rw [hwA]; exact HB.out.alloc HB.out.size _
    have HPA : Hid (Below wr.heap.size wr wA) := by rw [hwA]; exact (Below.refl _ _).alloc (Nat.le_refl _) _
    have k0 : wA.cell? ⟨wr.heap.size, 0, none⟩ = some (.string r) := by rw [hwA]; exact new_cell (cs := [_, _, _, _, _]) rfl rfl
    have k1 : wA.cell? ⟨wr.heap.size, 1, none⟩ = some (.string p) := by rw [hwA]; exact new_cell (cs := [_, _, _, _, _]) rfl rfl
    have k2 : wA.cell? ⟨wr.heap.size, 2, none⟩ = some (.string nm) := by rw [hwA]; exact new_cell (cs := [_, _, _, _, _]) rfl rfl
    have k3 : wA.cell? ⟨wr.heap.size, 3, none⟩ = some (.slice sa sl.length sc) := by rw [hwA]; exact new_cell (cs := [_, _, _, _, _]) rfl rfl
    have k4 : wA.cell? ⟨wr.heap.size, 4, none⟩ = some (.int .i64 m) := by rw [hwA]; exact new_cell (cs := [_, _, _, _, _]) rfl rfl
    have hszA : wr.heap.size < wA.heap.size := by rw [hwA]; simp
    have HWA := Lib.hid hwA
    have HL1 := Lib.hid (isLine_any r wA (HMX.out.below HBA.out) o1)
    have HL2 := Lib.hid (isLine_any nm wA (HMX.out.below HBA.out) o3)
    have HN3 := Lib.hid (isName_any p wA o2)
    obtain ⟨br, hbr⟩ : ∃ v, isLn r = v := ⟨_, rfl⟩
    obtain ⟨bn, hbn⟩ : ∃ v, isLn nm = v := ⟨_, rfl⟩
    obtain ⟨bp, hbp⟩ : ∃ v, isNm p = v := ⟨_, rfl⟩
    rw [hbr] at HL1 HCF
    rw [hbn] at HL2 HCF
    rw [hbp] at HN3 HCF
    clear hwA hbr hbn hbp
    go_upto_region 6 with (fail)
    rw [← HWA.out]
    clear d0 d1 d2 d3 d4
    go_wp2_with fail
    refine HL1.out.mono ?_
    rintro e w1 ⟨rfl, rfl⟩
    cases br with
    | false =>
      have HR := Lib.hid (HBAD.out 3 (by rw [HCF.out]; simp) (by decide))
      go_wp2_with fail
      go_ret
      exact ⟨ret_int HR.out.symm, HBA.out⟩
    | true =>
    go_wp2_with fail
    refine HL2.out.mono ?_
    rintro e w1 ⟨rfl, rfl⟩
    cases bn with
    | false =>
      have HR := Lib.hid (HBAD.out 3 (by rw [HCF.out]; simp) (by decide))
      go_wp2_with fail
      go_ret
      exact ⟨ret_int HR.out.symm, HBA.out⟩
    | true =>
    go_wp2_with fail
    refine HN3.out.mono ?_
    rintro e w2 ⟨rfl, hb2⟩
    have HB2 := Lib.hid (HBA.out.trans (hb2.mono HBA.out.size))
    have HP2 := Lib.hid (HPA.out.trans (hb2.mono HPA.out.size))
    rw [← hb2.cell (p := ⟨wr.heap.size, 3, none⟩) (by exact hszA)] at k3
    rw [← hb2.cell (p := ⟨wr.heap.size, 4, none⟩) (by exact hszA)] at k4
    have hsz2 : wr.heap.size < w2.heap.size := Nat.lt_of_lt_of_le hszA hb2.size
    clear hb2 k0 k1 k2
    cases bp with
    | false =>
      have HR := Lib.hid (HBAD.out 5 (by rw [HCF.out]; simp) (by decide))
      go_wp2_with fail
      go_ret
      exact ⟨ret_int HR.out.symm, HB2.out⟩
    | true =>
    have HIN := Lib.hid (instr_any sa sc sl w2 (HRD.out.below HP2.out) o4 HSZ.out)
    obtain ⟨fi, hfi⟩ : ∃ fi, insF sl = fi := ⟨_, rfl⟩
    rw [hfi] at HIN HCF
    clear hfi
    go_wp2_with fail
    refine HIN.out.mono ?_
    rintro e w3 ⟨rfl, hb3⟩
    have HB3 := Lib.hid (HB2.out.trans (hb3.mono HB2.out.size))
    rw [← hb3.cell (p := ⟨wr.heap.size, 4, none⟩) (by exact hsz2)] at k4
    have hsz3 : wr.heap.size < w3.heap.size := Nat.lt_of_lt_of_le hsz2 hb3.size
    clear hb3 k3
    by_cases hz : fi = 0
    case neg =>
      have hzb : (fi != 0) = true := by simpa using hz
      have HR := Lib.hid (HBAD.out fi (by rw [HCF.out]; simp [hz]) hz)
      clear hz
      go_wp2_with fail
      go_ret
      exact ⟨ret_int HR.out.symm, HB3.out⟩
    subst hz
    by_cases hm1 : m < 1
    · have HR := Lib.hid (HBAD.out 1 (by rw [HCF.out]; simp; omega) (by decide))
      go_wp2_with fail
      go_ret
      exact ⟨ret_int HR.out.symm, HB3.out⟩
    by_cases hm2 : 100000 < m
    · have HR := Lib.hid (HBAD.out 1 (by rw [HCF.out]; simp; omega) (by decide))
      go_wp2_with fail
      go_ret
      exact ⟨ret_int HR.out.symm, HB3.out⟩
    have HN := Lib.hid (HNEXT.out (by rw [HCF.out]; simp; omega))
    go_wp2_with fail
    go_roundw
    case rel => exact ⟨k + 1, by omega, by go_num, HN.out, HB3.out⟩
    case measure => simp [intOf]; omega
end Go.Proofs.YtckakleiaccffaaDoor
