/- The contract of the reference's isName. -/
import Derived.Test.YtpiiickhfcjnmaaGreatDoorPlnF
namespace Go.Proofs.YtpiiickhfcjnmaaGreatDoor
open Go.RowKit Go.Dw

set_option maxHeartbeats 1000000 in
theorem isNameR_any (s : ByteArray) (w : World) (hs : s.size ≤ 9223372036854775807) :
    Calls Tryz.prog 55 #[.string s] w fun e w' => e = .returned (.bool (isNm s)) ∧ w = w' := by
  by_cases h0 : 0 < s.size
  case neg =>
    have hf : isNm s = false := by unfold isNm; rw [dif_neg h0]
    rw [hf]
    clear hf
    obtain ⟨e1, e2⟩ := emp_t h0
    clear e2
    go_enter Tryz.func55, Tryz.ntmps55
    go_wp2_with fail
    go_ret
    exact ⟨rfl, rfl⟩
  have e1 := emp_f h0
  by_cases h1 : 40 < s.size
  · have hf : isNm s = false := by unfold isNm; rw [dif_pos h0]; simp; intro h; omega
    rw [hf]
    go_enter Tryz.func55, Tryz.ntmps55
    go_wp2_with fail
    go_ret
    exact ⟨rfl, rfl⟩
  by_cases h2 : (s[0]'h0).toNat < 97
  · have hf : isNm s = false := by unfold isNm; rw [dif_pos h0]; simp; intro _ h; omega
    rw [hf]
    have h2' : ((s[0]'h0).toNat : Int) < 97 := by omega
    go_enter Tryz.func55, Tryz.ntmps55
    go_wp2_with fail
    go_ret
    exact ⟨rfl, rfl⟩
  by_cases h3 : 122 < (s[0]'h0).toNat
  · have hf : isNm s = false := by unfold isNm; rw [dif_pos h0]; simp; intro _ _ h; omega
    rw [hf]
    have h3' : (122 : Int) < ((s[0]'h0).toNat : Int) := by omega
    go_enter Tryz.func55, Tryz.ntmps55
    go_wp2_with fail
    go_ret
    exact ⟨rfl, rfl⟩
  have hf : isNm s = s.data.toList.all okB := by rw [← nmTail_eq]; unfold isNm; rw [dif_pos h0]; simp [show s.size ≤ 40 by omega, show 97 ≤ (s[0]'h0).toNat by omega, show (s[0]'h0).toNat ≤ 122 by omega]
  have HF := Lib.hid hf
  clear hf
  have h2' : (97 : Int) ≤ ((s[0]'h0).toNat : Int) := by omega
  have h3' : ((s[0]'h0).toNat : Int) ≤ 122 := by omega
  go_enter Tryz.func55, Tryz.ntmps55
  go_wp2_with fail
  go_loop [3] (fun i => ∃ k : Nat, k ≤ s.size ∧ i = .int .i64 k ∧ Hid ((s.data.toList.take k).all okB = true)) (fun i => s.size - (intOf i).toNat)
  case atStart => exact ⟨0, Nat.zero_le _, rfl, by simp [Hid]⟩
  case round =>
    obtain ⟨k, hk, rfl, HALL⟩ := hrel
    by_cases hlt : k < s.size
    case neg =>
      have hd : decide (k < s.size) = false := by simpa using hlt
      have HE : Hid (isNm s = true) := by
        show _ = _
        have := HALL.out
        rw [List.take_of_length_le (by simp; omega)] at this
        rw [HF.out, this]
      go_wp2_with fail
      go_ret
      exact ⟨ret_bool HE.out.symm, rfl⟩
    have hd : decide (k < s.size) = true := by simpa using hlt
    have HS := Lib.hid (all_succ s k hlt)
    cases hv : okB s[k] with
    | true =>
      have HV : Hid ((s.data.toList.take (k + 1)).all okB = true) := by show _ = _; rw [HS.out, HALL.out, hv]; rfl
      have hcs : (97 ≤ s[k].toNat ∧ s[k].toNat ≤ 122) ∨ (48 ≤ s[k].toNat ∧ s[k].toNat ≤ 57) ∨ s[k].toNat = 45 := by
        unfold okB at hv; simp at hv; omega
      clear hv h2 h3 h2' h3'
      rcases hcs with ⟨g1, g2⟩ | ⟨g1, g2⟩ | g1
      · have g1' : (97 : Int) ≤ (s[k].toNat : Int) := by omega
        have g2' : (s[k].toNat : Int) ≤ 122 := by omega
        go_wp2_with fail
        go_round
        case rel => exact ⟨k + 1, by omega, by go_num, HV⟩
        case measure => simp [intOf]; omega
      · have g1' : (48 : Int) ≤ (s[k].toNat : Int) := by omega
        have g2' : (s[k].toNat : Int) ≤ 57 := by omega
        have g3' : (s[k].toNat : Int) < 97 := by omega
        go_wp2_with fail
        go_round
        case rel => exact ⟨k + 1, by omega, by go_num, HV⟩
        case measure => simp [intOf]; omega
      · have g1' : (s[k].toNat : Int) < 48 := by omega
        have g3' : (s[k].toNat : Int) < 97 := by omega
        have g4 : ((s[k].toNat : Int) != 45) = false := by simp; omega
        have g5 : ((s[k].toNat : Int) == 45) = true := by simp; omega
        go_wp2_with fail
        go_round
        case rel => exact ⟨k + 1, by omega, by go_num, HV⟩
        case measure => simp [intOf]; omega
    | false =>
      have HE : Hid (isNm s = false) := by show _ = _; rw [HF.out]; exact all_false s k hlt hv
      have hcs : 122 < s[k].toNat ∨ (57 < s[k].toNat ∧ s[k].toNat < 97) ∨ (s[k].toNat < 48 ∧ ¬ s[k].toNat = 45) := by
        unfold okB at hv; simp at hv; omega
      clear hv h2 h3 h2' h3'
      rcases hcs with g1 | ⟨g1, g2⟩ | ⟨g1, g2⟩
      · have g1' : (122 : Int) < (s[k].toNat : Int) := by omega
        have g4 : ((s[k].toNat : Int) != 45) = true := by simp; omega
        have g5 : ((s[k].toNat : Int) == 45) = false := by simp; omega
        have M0 : (97 : Int) ≤ (s[k].toNat : Int) := by omega
        have M1 : (48 : Int) ≤ (s[k].toNat : Int) := by omega
        have M2 : (57 : Int) < (s[k].toNat : Int) := by omega
        have M3 : ¬ (s[k].toNat : Int) ≤ 122 := by omega
        have M4 : ¬ (s[k].toNat : Int) ≤ 57 := by omega
        go_wp2_with fail
        go_ret
        exact ⟨ret_bool HE.out.symm, rfl⟩
      · have g1' : (57 : Int) < (s[k].toNat : Int) := by omega
        have g2' : (s[k].toNat : Int) < 97 := by omega
        have g4 : ((s[k].toNat : Int) != 45) = true := by simp; omega
        have g5 : ((s[k].toNat : Int) == 45) = false := by simp; omega
        have M0 : (48 : Int) ≤ (s[k].toNat : Int) := by omega
        have M1 : ¬ (s[k].toNat : Int) ≤ 57 := by omega
        have M2 : ¬ (97 : Int) ≤ (s[k].toNat : Int) := by omega
        go_wp2_with fail
        go_ret
        exact ⟨ret_bool HE.out.symm, rfl⟩
      · have g1' : (s[k].toNat : Int) < 48 := by omega
        have g2' : (s[k].toNat : Int) < 97 := by omega
        have g4 : ((s[k].toNat : Int) != 45) = true := by simp; omega
        have g5 : ((s[k].toNat : Int) == 45) = false := by simp; omega
        have M0 : ¬ (48 : Int) ≤ (s[k].toNat : Int) := by omega
        have M1 : ¬ (97 : Int) ≤ (s[k].toNat : Int) := by omega
        go_wp2_with fail
        go_ret
        exact ⟨ret_bool HE.out.symm, rfl⟩
end Go.Proofs.YtpiiickhfcjnmaaGreatDoor
