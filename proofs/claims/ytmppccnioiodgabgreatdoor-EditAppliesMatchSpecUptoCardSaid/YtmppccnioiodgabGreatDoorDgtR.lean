/- The contract of the reference's number: a whole number without a needless 0. -/
import Derived.Test.YtmppccnioiodgabGreatDoorNumB
import Derived.Test.YtmppccnioiodgabGreatDoorProg
namespace Go.Proofs.YtmppccnioiodgabGreatDoor
open Go.RowKit Go.Dw

set_option maxRecDepth 100000 in
set_option maxHeartbeats 2000000 in
theorem numberR_any (s : ByteArray) (w : World) (hs : s.size ≤ 9223372036854775807) :
    Calls Tryz.prog 71 #[.string s] w fun e w' => e = .returned (.bool (noZ s.data.toList)) ∧ w = w' := by
  by_cases hz : s.size = 0
  · have e2 : (s.toList == []) = true := by rw [ByteArray.toList_eq, s0_of hz]; rfl
    have HE : Hid (noZ s.data.toList = false) := by show _ = _; rw [s0_of hz]; rfl
    go_enter Tryz.func71, Tryz.ntmps71
    go_wp2_with fail
    go_ret
    exact ⟨ret_bool HE.out.symm, rfl⟩
  have hp : 0 < s.size := by omega
  have e2 : (s.toList == []) = false := by rw [ByteArray.toList_eq, beq_eq_false_iff_ne]; exact fun e => hz (by rw [ba_ext (a := s) (b := ⟨#[]⟩) e]; rfl)
  have HNE : Hid (s.data.toList ≠ []) := fun e => by have := congrArg List.length e; rw [Array.length_toList] at this; exact hz this
  by_cases hbad : 1 < s.size ∧ (s[0]'hp).toNat = 48
  · obtain ⟨h1, h48⟩ := hbad
    have e3 : (((s[0]'hp).toNat : Int) == 48) = true := by simp [h48]
    have hd1 : decide (1 < s.size) = true := by simpa using h1
    have HE : Hid (noZ s.data.toList = false) := noZ_head (by rw [head_of hp, (u8_48 _).2 h48]) (fun e => by have := congrArg List.length e; rw [Array.length_toList] at this; have h2 : s.size = 1 := this; omega)
    clear h48
    go_enter Tryz.func71, Tryz.ntmps71
    go_wp2_with fail
    go_ret
    exact ⟨ret_bool HE.out.symm, rfl⟩
  have HOK : Hid (s.data.toList.all isD = true → noZ s.data.toList = true) := fun hall => by
    by_cases h48 : (s[0]'hp).toNat = 48
    · have h1 : s.size = 1 := by
        by_cases h : 1 < s.size
        · exact absurd ⟨h, h48⟩ hbad
        · omega
      rw [s1_of h1 (fun h => (u8_48 _).2 h48)]; rfl
    · exact noZ_ok hall HNE.out (by rw [head_of hp]; intro e; injection e with e; exact h48 ((u8_48 _).1 e))
  have HEND : ∀ (Q : Prop), True := fun _ => trivial
  have hstart : (1 < s.size → (((s[0]'hp).toNat : Int) == 48) = false) := fun h => by
    simp
    intro e
    exact hbad ⟨h, by omega⟩
  clear HEND
  by_cases h1 : 1 < s.size
  · have hd1 : decide (1 < s.size) = true := by simpa using h1
    have e3 := hstart h1
    clear hstart hbad
    go_enter Tryz.func71, Tryz.ntmps71
    go_wp2_with fail
    go_loop [3] (fun i => ∃ k : Nat, k ≤ s.size ∧ i = .int .i64 k ∧ Hid ((s.data.toList.take k).all isD = true)) (fun i => s.size - (intOf i).toNat)
    case atStart => exact ⟨0, Nat.zero_le _, rfl, by simp [Hid]⟩
    case round =>
      obtain ⟨k, hk, rfl, HALL⟩ := hrel
      by_cases hlt : k < s.size
      case neg =>
        have hd : decide (k < s.size) = false := by simpa using hlt
        have HE : Hid (noZ s.data.toList = true) := HOK.out (by
          have := HALL.out
          rwa [List.take_of_length_le (by rw [Array.length_toList]; show s.size ≤ k; omega)] at this)
        clear HALL
        go_wp2_with fail
        go_ret
        exact ⟨ret_bool HE.out.symm, rfl⟩
      have hd : decide (k < s.size) = true := by simpa using hlt
      have HS := Lib.hid (dgt_succ s k hlt)
      cases hv : isD s[k] with
      | true =>
        have HV : Hid ((s.data.toList.take (k + 1)).all isD = true) := by show _ = _; rw [HS.out, HALL.out, hv]; rfl
        obtain ⟨g1, g2⟩ := isD_bd hv
        clear hv
        have g1' : (48 : Int) ≤ (s[k].toNat : Int) := by omega
        have g2' : (s[k].toNat : Int) ≤ 57 := by omega
        go_wp2_with fail
        go_round
        case rel => exact ⟨k + 1, by omega, by go_num, HV⟩
        case measure => simp [intOf]; omega
      | false =>
        have HE : Hid (noZ s.data.toList = false) := noZ_bad (dgt_false s k hlt hv)
        have hcs : s[k].toNat < 48 ∨ 57 < s[k].toNat := by
          unfold isD at hv; simp at hv; omega
        clear hv
        rcases hcs with g1 | g1
        · have g1' : (s[k].toNat : Int) < 48 := by omega
          go_wp2_with fail
          go_ret
          exact ⟨ret_bool HE.out.symm, rfl⟩
        · have g1' : (57 : Int) < (s[k].toNat : Int) := by omega
          have g2' : (48 : Int) ≤ (s[k].toNat : Int) := by omega
          go_wp2_with fail
          go_ret
          exact ⟨ret_bool HE.out.symm, rfl⟩
  · have hd1 : decide (1 < s.size) = false := by simpa using h1
    clear hstart hbad
    go_enter Tryz.func71, Tryz.ntmps71
    go_wp2_with fail
    go_loop [3] (fun i => ∃ k : Nat, k ≤ s.size ∧ i = .int .i64 k ∧ Hid ((s.data.toList.take k).all isD = true)) (fun i => s.size - (intOf i).toNat)
    case atStart => exact ⟨0, Nat.zero_le _, rfl, by simp [Hid]⟩
    case round =>
      obtain ⟨k, hk, rfl, HALL⟩ := hrel
      by_cases hlt : k < s.size
      case neg =>
        have hd : decide (k < s.size) = false := by simpa using hlt
        have HE : Hid (noZ s.data.toList = true) := HOK.out (by
          have := HALL.out
          rwa [List.take_of_length_le (by rw [Array.length_toList]; show s.size ≤ k; omega)] at this)
        clear HALL
        go_wp2_with fail
        go_ret
        exact ⟨ret_bool HE.out.symm, rfl⟩
      have hd : decide (k < s.size) = true := by simpa using hlt
      have HS := Lib.hid (dgt_succ s k hlt)
      cases hv : isD s[k] with
      | true =>
        have HV : Hid ((s.data.toList.take (k + 1)).all isD = true) := by show _ = _; rw [HS.out, HALL.out, hv]; rfl
        obtain ⟨g1, g2⟩ := isD_bd hv
        clear hv
        have g1' : (48 : Int) ≤ (s[k].toNat : Int) := by omega
        have g2' : (s[k].toNat : Int) ≤ 57 := by omega
        go_wp2_with fail
        go_round
        case rel => exact ⟨k + 1, by omega, by go_num, HV⟩
        case measure => simp [intOf]; omega
      | false =>
        have HE : Hid (noZ s.data.toList = false) := noZ_bad (dgt_false s k hlt hv)
        have hcs : s[k].toNat < 48 ∨ 57 < s[k].toNat := by
          unfold isD at hv; simp at hv; omega
        clear hv
        rcases hcs with g1 | g1
        · have g1' : (s[k].toNat : Int) < 48 := by omega
          go_wp2_with fail
          go_ret
          exact ⟨ret_bool HE.out.symm, rfl⟩
        · have g1' : (57 : Int) < (s[k].toNat : Int) := by omega
          have g2' : (48 : Int) ≤ (s[k].toNat : Int) := by omega
          go_wp2_with fail
          go_ret
          exact ⟨ret_bool HE.out.symm, rfl⟩
end Go.Proofs.YtmppccnioiodgabGreatDoor
