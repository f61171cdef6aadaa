/- The contracts of credit.checkInstruments and credit.checkCredits. -/
import Derived.Test.YtckakleiaccffaaDoorCrP
namespace Go.Proofs.YtckakleiaccffaaDoor
open Go.RowKit Go.Dw

set_option maxHeartbeats 2000000 in
theorem instr_any (A : Option Addr) (c : Nat) (l : List ByteArray) (w : World) (h : Rd w A (sb l)) (hn : l.length ≤ 9223372036854775807) (hs : ∀ x ∈ l, x.size ≤ 9223372036854775807) :
    Calls Tryd.prog 21 #[.slice A l.length c] w fun e w' => e = .returned (.int .i64 (insF l)) ∧ Below w.heap.size w w' := by
  by_cases h0 : l.length = 0
  · have HR : Hid (insF l = 9) := by show _ = _; unfold insF; rw [if_pos h0]
    have hb : ((l.length : Int) == 0) = true := by simp [h0]
    have hb' : (l.length == 0) = true := by simp [h0]
    clear h0
    go_enter Tryd.func21, Tryd.ntmps21
    go_wp2_with fail
    go_ret
    exact ⟨ret_int HR.out.symm, Below.refl _ _⟩
  have hb0 : ((l.length : Int) == 0) = false := by simp; exact fun e => h0 (by rw [e]; rfl)
  have hb0' : (l.length == 0) = false := by simp; exact fun e => h0 (by rw [e]; rfl)
  by_cases hbig : 20 < l.length
  · have HR : Hid (insF l = 2) := by show _ = _; unfold insF; rw [if_neg h0, if_pos hbig]
    clear h0
    go_enter Tryd.func21, Tryd.ntmps21
    go_wp2_with fail
    go_ret
    exact ⟨ret_int HR.out.symm, Below.refl _ _⟩
  have HS : Hid (insF l = firstNZ (inF l) l.length) := by show _ = _; unfold insF; rw [if_neg h0, if_neg hbig]
  have HRD := Lib.hid h
  have HSZ := Lib.hid hs
  have HNM := Lib.hid (fun (s : ByteArray) (W : World) (hs : s.size ≤ 9223372036854775807) => isName_any s W hs)
  clear h hs h0
  go_enter Tryd.func21, Tryd.ntmps21
  go_wp2_with fail
  go_loopw [13] (fun kv wr => ∃ k : Nat, k ≤ l.length ∧ kv = .int .i64 (k : Int) ∧ Hid (∀ j, j < k → inF l j = 0) ∧ Hid (Below w.heap.size w wr)) (fun kv _ => l.length - (intOf kv).toNat)
  case atStart => exact ⟨0, Nat.zero_le _, rfl, by intro j hj; omega, Below.refl _ _⟩
  case round =>
    obtain ⟨k, hk, rfl, HALL, HB⟩ := hrel
    by_cases hlt : k < l.length
    case neg =>
      have hd1 : decide (k < l.length) = false := by simpa using hlt
      have HR : Hid (insF l = 0) := by show _ = _; rw [HS.out, firstNZ_ok (fun j hj => HALL.out j (by omega))]
      go_wp2_with fail
      go_ret
      exact ⟨ret_int HR.out.symm, HB.out⟩
    have hd1 : decide (k < l.length) = true := by simpa using hlt
    have HBAD : Hid (∀ v, inF l k = v → v ≠ 0 → insF l = v) := fun v hv hv0 => by
      rw [HS.out, firstNZ_bad (f := inF l) HALL.out (by rw [hv]; exact hv0) hlt, hv]
    have HNEXT : Hid (inF l k = 0 → ∀ j, j < k + 1 → inF l j = 0) := fun hz => step_all HALL.out hz
    obtain ⟨b, off, rfl, hb, hcs⟩ := HRD.out.at_ (by rw [sb_len]; omega)
    have hc1 : wr.cell? ⟨b, off + k, none⟩ = some (.string l[k]) := by rw [HB.out.cell (by exact hb)]; exact hcs k _ (sb_at l k hlt)
    have hs1 := HSZ.out l[k] (List.getElem_mem hlt)
    have HMK : Hid (inF l k = if isNm l[k] = false then 5 else if (decide (0 < k) && decide (¬ sLt (l.getD (k - 1) ⟨#[]⟩) l[k])) = true then 8 else 0) := by show _ = _; unfold inF; rw [getD_at l _ k hlt]
    have HPR : Hid (0 < k → wr.cell? ⟨b, off + (k - 1), none⟩ = some (.string (l.getD (k - 1) ⟨#[]⟩))) := fun hk0 => by
      rw [HB.out.cell (by exact hb), getD_at l _ (k - 1) (by omega)]; exact hcs (k - 1) _ (sb_at l (k - 1) (by omega))
    have hbr : b < wr.heap.size := Nat.lt_of_lt_of_le hb HB.out.size
    generalize l[k] = nm at *
    generalize l.getD (k - 1) ⟨#[]⟩ = pn at *
    clear hcs
    have hd3 : k = 0 ∨ 0 < k := by omega
    go_wp2_with fail
    refine (HNM.out nm wr hs1).mono ?_
    rintro e w1 ⟨rfl, hb1⟩
    have HB1 := Lib.hid (HB.out.trans (hb1.mono HB.out.size))
    have HPR1 : Hid (0 < k → w1.cell? ⟨b, off + (k - 1), none⟩ = some (.string pn)) := fun hk0 => by rw [hb1.cell (by exact hbr)]; exact HPR.out hk0
    clear hb1 hc1 HPR
    obtain ⟨bn, hbn⟩ : ∃ bn, isNm nm = bn := ⟨_, rfl⟩
    rw [hbn] at HMK ⊢
    clear hbn
    cases bn
    · have HR := Lib.hid (HBAD.out 5 (by rw [HMK.out]; rfl) (by decide))
      go_wp2_with fail
      go_ret
      exact ⟨ret_int HR.out.symm, HB1.out⟩
    have HTAIL : Hid (∀ (bo : Bool), (decide (0 < k) && decide (¬ sLt pn nm)) = bo → inF l k = if bo = true then 8 else 0) := fun bo hbo => by
      rw [HMK.out, ← hbo]; rfl
    rcases hd3 with rfl | hk0
    · have HN := Lib.hid (HNEXT.out (by rw [HTAIL.out false (by simp)]; rfl))
      have hd4 : decide ((0 : Int) < 0) = false := by decide
      go_wp2_with fail
      go_roundw
      case rel => exact ⟨_, by omega, by go_num, HN, HB1.out⟩
      case measure => simp [intOf]; omega
    · have hpr := HPR1.out hk0
      have hd4 : decide (0 < k) = true := by simpa using hk0
      have hd4' : decide ((0 : Int) < (k : Int)) = true := by simpa using hk0
      have hw : IntKind.i64.wrap ((k : Int) - 1) = (k : Int) - 1 := IntWalk.i64_in _ (by omega)
      have j0 : (0 : Int) ≤ (k : Int) - 1 := by omega
      have j0' : (1 : Int) ≤ (k : Int) := by omega
      have j1 : (k : Int) - 1 < (l.length : Int) := by omega
      have j2 : ((k : Int) - 1).toNat = k - 1 := by omega
      rcases sLt_tri nm pn with hl | hl | hl
      · have s1 := bLe_lt hl
        have HR := Lib.hid (HBAD.out 8 (by rw [HTAIL.out true (by simp [hk0, sLt_asymm hl])]; rfl) (by decide))
        clear hl
        go_wp2_with fail
        go_ret
        exact ⟨ret_int HR.out.symm, HB1.out⟩
      · subst hl
        obtain ⟨s1, s2⟩ := bLe_eq nm
        have HR := Lib.hid (HBAD.out 8 (by rw [HTAIL.out true (by simp [hk0, sLt_irr])]; rfl) (by decide))
        go_wp2_with fail
        go_ret
        exact ⟨ret_int HR.out.symm, HB1.out⟩
      · obtain ⟨s1, s2⟩ := bLe_gt hl
        have HN := Lib.hid (HNEXT.out (by rw [HTAIL.out false (by simp [hl])]; rfl))
        clear hl
        go_wp2_with fail
        go_roundw
        case rel => exact ⟨_, by omega, by go_num, HN, HB1.out⟩
        case measure => simp [intOf]; omega
end Go.Proofs.YtckakleiaccffaaDoor
