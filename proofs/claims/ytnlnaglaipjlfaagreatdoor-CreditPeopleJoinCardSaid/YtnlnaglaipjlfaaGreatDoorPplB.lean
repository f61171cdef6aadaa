/- The contracts of credit.checkPersons and of the reference's checkNames. -/
import Derived.Test.YtnlnaglaipjlfaaGreatDoorPpl
import Derived.Test.YtnlnaglaipjlfaaGreatDoorCont
import Derived.Test.YtnlnaglaipjlfaaGreatDoorRdW0
namespace Go.Proofs.YtnlnaglaipjlfaaGreatDoor
open Go.RowKit Go.Dw

theorem rd_take {w : World} {A : Option Addr} {l : List ByteArray} (h : Rd w A (sb l)) (k : Nat) : Rd w A (sb (l.take k)) := by
  rcases h with h | ⟨b, off, e, hb, hc⟩
  · left
    have : l = [] := List.eq_nil_of_length_eq_zero (by rw [← sb_len, h]; rfl)
    rw [this]; simp [sb]
  · refine .inr ⟨b, off, e, hb, fun j u hu => hc j u ?_⟩
    have hj := (List.getElem?_eq_some_iff.1 hu).1
    rw [sb_len, List.length_take] at hj
    simp only [sb, List.getElem?_map, List.getElem?_take] at hu ⊢
    rw [if_pos (by omega)] at hu
    exact hu
theorem nmsF_at {ns : List ByteArray} (h0 : ¬ ns.length = 0) (h1 : ¬ 10 < ns.length) : nmsF ns = firstNZ (namF ns) ns.length := by
  unfold nmsF; rw [if_neg h0, if_neg h1]
theorem namF_at (ns : List ByteArray) (k : Nat) (h : k < ns.length) : namF ns k = if isLn ns[k] = false then 3 else if memS (ns.take k) ns[k] = true then 7 else 0 := by
  unfold namF; rw [getD_at _ _ k h]
set_option maxRecDepth 100000 in
set_option maxHeartbeats 2000000 in
theorem namesR_any (A : Option Addr) (c : Nat) (ns : List ByteArray) (w : World) (h : Rd w A (sb ns)) (hn : ns.length ≤ 9223372036854775807) (hcap : ns.length ≤ c) (hs : ∀ y ∈ ns, y.size ≤ 9223372036854775807) (hm : HasMax w) :
    Calls Tryz.prog 46 #[.slice A ns.length c] w fun e w' => e = .returned (.int .i64 (nmsF ns)) ∧ w = w' := by
  by_cases h0 : ns.length = 0
  · have HE : Hid (nmsF ns = 9) := by show _ = _; unfold nmsF; rw [if_pos h0]
    have hb : ((ns.length : Int) == 0) = true := by simp [h0]
    have hb' : (ns.length == 0) = true := by simp [h0]
    clear h0
    go_enter Tryz.func46, Tryz.ntmps46
    go_wp2_with fail
    go_ret
    exact ⟨ret_int HE.out.symm, rfl⟩
  have hb0 : ((ns.length : Int) == 0) = false := by simp; exact fun e => h0 (by rw [e]; rfl)
  have hb0' : (ns.length == 0) = false := by simp; exact fun e => h0 (by rw [e]; rfl)
  by_cases h1 : 10 < ns.length
  · have HE : Hid (nmsF ns = 2) := by show _ = _; unfold nmsF; rw [if_neg h0, if_pos h1]
    clear h0
    go_enter Tryz.func46, Tryz.ntmps46
    go_wp2_with fail
    go_ret
    exact ⟨ret_int HE.out.symm, rfl⟩
  have HS := Lib.hid (nmsF_at h0 h1)
  have HRD := Lib.hid h
  have HSZ := Lib.hid hs
  have HMX := Lib.hid hm
  obtain ⟨fr, hfr⟩ : ∃ fr, nmsF ns = fr := ⟨_, rfl⟩
  rw [hfr] at HS ⊢
  clear h hs hm h0 hfr
  go_enter Tryz.func46, Tryz.ntmps46
  go_wp2_with fail
  go_loop [13] (fun kv => ∃ k : Nat, k ≤ ns.length ∧ kv = .int .i64 (k : Int) ∧ Hid (∀ j, j < k → namF ns j = 0)) (fun kv => ns.length - (intOf kv).toNat)
  case atStart => exact ⟨0, Nat.zero_le _, rfl, by intro j hj; omega⟩
  case round =>
    obtain ⟨k, hk, rfl, HALL⟩ := hrel
    by_cases hlt : k < ns.length
    case neg =>
      have hd1 : decide (k < ns.length) = false := by simpa using hlt
      have HR : Hid (fr = 0) := by show _ = _; rw [HS.out, firstNZ_ok (fun j hj => HALL.out j (by omega))]
      go_wp2_with fail
      go_ret
      exact ⟨ret_int HR.out.symm, rfl⟩
    have hd1 : decide (k < ns.length) = true := by simpa using hlt
    have HBAD : Hid (∀ v, namF ns k = v → v ≠ 0 → fr = v) := fun v hv hv0 => by
      rw [HS.out, firstNZ_bad (f := namF ns) HALL.out (by rw [hv]; exact hv0) hlt, hv]
    have HNEXT : Hid (namF ns k = 0 → ∀ j, j < k + 1 → namF ns j = 0) := fun hz => step_all HALL.out hz
    obtain ⟨b, off, rfl, hb, hcs⟩ := HRD.out.at_ (by rw [sb_len]; omega)
    have hc1 := hcs k _ (sb_at ns k hlt)
    have hs1 := HSZ.out ns[k] (List.getElem_mem hlt)
    have HMK := Lib.hid (namF_at ns k hlt)
    have HLN := Lib.hid (isLineR_any ns[k] w HMX.out hs1)
    have hlk : (ns.take k).length = k := by rw [List.length_take]; omega
    have HCT := Lib.hid (contS_any (some ⟨b, off, none⟩) c (ns.take k) ns[k] w (rd_take HRD.out k) (by omega))
    rw [hlk] at HCT
    generalize ns[k] = nm at *
    rw [show memL (ns.take k) nm = memS (ns.take k) nm from rfl] at HCT
    generalize memS (ns.take k) nm = ct at *
    obtain ⟨bl, hbl⟩ : ∃ v, isLn nm = v := ⟨_, rfl⟩
    rw [hbl] at HLN HMK
    have hkc : (k : Int) ≤ (c : Int) := by omega
    clear hcs hbl hlk
    cases bl with
    | false =>
      have HR := Lib.hid (HBAD.out 3 (by rw [HMK.out]; rfl) (by decide))
      go_wp2_with fail
      refine HLN.out.mono ?_
      rintro e w1 ⟨rfl, rfl⟩
      go_wp2_with fail
      go_ret
      exact ⟨ret_int HR.out.symm, rfl⟩
    | true =>
      go_wp2_with fail
      refine HLN.out.mono ?_
      rintro e w1 ⟨rfl, rfl⟩
      go_wp2_with fail
      refine HCT.out.mono ?_
      rintro e w1 ⟨rfl, rfl⟩
      cases ct with
      | true =>
        have HR := Lib.hid (HBAD.out 7 (by rw [HMK.out]; rfl) (by decide))
        go_wp2_with fail
        go_ret
        exact ⟨ret_int HR.out.symm, rfl⟩
      | false =>
        have HN := Lib.hid (HNEXT.out (by rw [HMK.out]; rfl))
        go_wp2_with fail
        go_round
        case rel => exact ⟨k + 1, by omega, by go_num, HN.out⟩
        case measure => simp [intOf]; omega
end Go.Proofs.YtnlnaglaipjlfaaGreatDoor
