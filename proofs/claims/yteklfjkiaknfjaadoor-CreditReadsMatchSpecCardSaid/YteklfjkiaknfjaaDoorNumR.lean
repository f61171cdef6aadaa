/- The contract of the reference's number. -/
import Derived.Test.YteklfjkiaknfjaaDoorRdP
import Derived.Test.YteklfjkiaknfjaaDoorSRes
import Derived.Deep.DeepCutAuto
import Derived.Deep.CutBlock
namespace Go.Proofs.YteklfjkiaknfjaaDoor
open Go.RowKit Go.Dw

theorem numF_none {l : List UInt8} (h : l.length = 0 ∨ 6 < l.length ∨ (1 < l.length ∧ l.head? = some 48) ∨ l.all isD = false) : numF l = none := by unfold numF; rw [if_pos h]
theorem head_at (s : ByteArray) (h : 0 < s.size) : s.data.toList.head? = some (s[0]'h) := by
  rw [List.head?_eq_getElem?, List.getElem?_eq_getElem (by rw [size_list]; exact h)]; rfl
theorem at_list (s : ByteArray) (k : Nat) (h : k < s.size) : s.data.toList[k]'(by rw [size_list]; exact h) = s[k] := rfl
theorem take_at (s : ByteArray) (k : Nat) (h : k < s.size) : s.data.toList.take (k + 1) = s.data.toList.take k ++ [s[k]] := by
  rw [List.take_succ_eq_append_getElem (by rw [size_list]; exact h), at_list]
def nVal (r : Option Nat) : Value := .tuple #[.int .i64 ((r.getD 0 : Nat) : Int), .bool r.isSome]
set_option maxHeartbeats 1000000 in
theorem numR_any (s : ByteArray) (w : World) (hs : s.size ≤ 1048576) :
    Calls Tryd.prog 12 #[.string s] w fun e w' => e = .returned (nVal (numF s.data.toList)) ∧ w = w' := by
  by_cases h0 : 0 < s.size
  case neg =>
    have hf := numF_none (l := s.data.toList) (.inl (by rw [size_list]; omega))
    rw [hf]
    clear hf
    obtain ⟨e1, e2⟩ := emp_t h0
    clear e2
    go_enter Tryd.func12, Tryd.ntmps12
    go_wp2_with fail
    go_ret2
    exact ⟨rfl, rfl⟩
  have e1 := emp_f h0
  by_cases h1 : 6 < s.size
  · have hf := numF_none (l := s.data.toList) (.inr (.inl (by rw [size_list]; omega)))
    rw [hf]
    clear hf
    go_enter Tryd.func12, Tryd.ntmps12
    go_wp2_with fail
    go_ret2
    exact ⟨rfl, rfl⟩
  by_cases h2 : 1 < s.size ∧ s[0] = 48
  · have hf := numF_none (l := s.data.toList) (.inr (.inr (.inl (by rw [size_list, head_at s h0, h2.2]; exact ⟨h2.1, rfl⟩))))
    rw [hf]
    obtain ⟨g1, g2⟩ := h2
    have g3 : ((s[0]'h0).toNat : Int) = 48 := by rw [g2]; rfl
    clear hf g2
    go_enter Tryd.func12, Tryd.ntmps12
    go_wp2_with fail
    go_ret2
    exact ⟨rfl, rfl⟩
  have hz : decide (1 < s.size) = false ∨ decide (1 < s.size) = true ∧ ((s[0]'h0).toNat : Int) ≠ 48 := by
    by_cases hh : 1 < s.size
    · right
      refine ⟨by simpa using hh, fun e => h2 ⟨hh, ?_⟩⟩
      have : (s[0]'h0).toNat = (48 : UInt8).toNat := by simp; omega
      exact UInt8.toNat_inj.1 this
    · left; simpa using hh
  have HNO : Hid (¬ (1 < s.data.toList.length ∧ s.data.toList.head? = some 48)) := by
    show ¬ _
    rw [size_list, head_at s h0]
    intro hh; exact h2 ⟨hh.1, by injection hh.2⟩
  have HOK : Hid (s.data.toList.all isD = true → numF s.data.toList = some (valD s.data.toList)) := fun ha => by
    unfold numF
    rw [if_neg]
    rintro (h | h | h | h)
    · rw [size_list] at h; omega
    · rw [size_list] at h; omega
    · exact HNO.out h
    · rw [ha] at h; cases h
  have HBADS : Hid (∀ k (h : k < s.size), isD s[k] = false → numF s.data.toList = none) := fun k h hb => by
    refine numF_none (.inr (.inr (.inr ?_)))
    rw [List.all_eq_false]
    exact ⟨s[k], List.getElem_mem (l := s.data.toList) (by rw [size_list]; exact h), by simp [hb]⟩
  have HLT : Hid (∀ k, k ≤ 6 → (s.data.toList.take k).all isD = true → valD (s.data.toList.take k) < 1000000) := fun k hk ha => by
    have h1 := valD_lt (s.data.toList.take k).length _ rfl ha
    have h2 : 10 ^ (s.data.toList.take k).length ≤ 10 ^ 6 := Nat.pow_le_pow_right (by omega) (by rw [List.length_take]; omega)
    omega
  have hz2 : decide (1 < s.size) = false ∧ decide ((1 : Int) < (s.size : Int)) = false ∨ decide (1 < s.size) = true ∧ decide ((1 : Int) < (s.size : Int)) = true ∧ (((s[0]'h0).toNat : Int) == 48) = false := by
    rcases hz with h | ⟨h, h3⟩
    · left; simp at h; simp; omega
    · right; simp at h; simp; omega
  clear h2 hz
  obtain ⟨N, hN⟩ : ∃ N, numF s.data.toList = N := ⟨_, rfl⟩
  rw [hN] at HOK HBADS ⊢
  clear hN
  go_enter Tryd.func12, Tryd.ntmps12
  go_upto_region 1 with (fail)
  go_cut [22] (fun v wx => v = .bool false ∧ wx = w)
  case first =>
    rcases hz2 with ⟨hd0, hd1⟩ | ⟨hd0, hd1, hd2⟩
    · go_wp2_with fail
      go_meet
      case rel => exact ⟨by simp; omega, rfl⟩
    · go_wp2_with fail
      go_meet
      case rel => exact ⟨by simp; omega, rfl⟩
  case rest =>
    obtain ⟨rfl, rfl⟩ := hcut
    clear hz2
    go_wp2_with fail
    go_loop [4, 25] (fun nv kv => ∃ (k m : Nat), k ≤ s.size ∧ kv = .int .i64 (k : Int) ∧ nv = .int .i64 (m : Int) ∧ Hid (valD (s.data.toList.take k) = m) ∧ Hid ((s.data.toList.take k).all isD = true)) (fun _ kv => s.size - (intOf kv).toNat)
    case atStart => exact ⟨0, 0, Nat.zero_le _, rfl, rfl, rfl, rfl⟩
    case round =>
      obtain ⟨k, m, hk, rfl, rfl, HV, HA⟩ := hrel
      have hm : m < 1000000 := by rw [← HV.out]; exact HLT.out k (by omega) HA.out
      by_cases hlt : k < s.size
      case neg =>
        have hd : decide (k < s.size) = false := by simpa using hlt
        have HE : Hid (N = some m) := by
          show _ = _
          have h1 := HA.out
          have h2 := HV.out
          rw [List.take_of_length_le (by rw [size_list]; omega)] at h1 h2
          rw [HOK.out h1, h2]
        go_wp2_with fail
        go_ret2
        exact ⟨by rw [HE.out]; rfl, rfl⟩
      have hd : decide (k < s.size) = true := by simpa using hlt
      have HB := Lib.hid (HBADS.out k hlt)
      have HT := Lib.hid (take_at s k hlt)
      have hbt := s[k].toNat_lt
      have HD : Hid (isD s[k] = (decide (48 ≤ s[k].toNat) && decide (s[k].toNat ≤ 57))) := rfl
      by_cases h48 : s[k].toNat < 48
      · have g1 : (s[k].toNat : Int) < 48 := by omega
        have HE : Hid (N = none) := HB.out (by rw [HD.out]; simp; omega)
        go_wp2_with fail
        go_ret2
        exact ⟨by rw [HE.out]; rfl, rfl⟩
      by_cases h57 : 57 < s[k].toNat
      · have g1 : (57 : Int) < (s[k].toNat : Int) := by omega
        have g2 : ¬ (s[k].toNat : Int) < 48 := by omega
        have HE : Hid (N = none) := HB.out (by rw [HD.out]; simp; omega)
        go_wp2_with fail
        go_ret2
        exact ⟨by rw [HE.out]; rfl, rfl⟩
      have hisd : isD s[k] = true := by rw [HD.out]; simp; omega
      have HA2 : Hid ((s.data.toList.take (k + 1)).all isD = true) := by show _ = _; rw [HT.out, List.all_append, HA.out]; simp [hisd]
      have HV2 : Hid (valD (s.data.toList.take (k + 1)) = 10 * m + (s[k].toNat - 48)) := by show _ = _; rw [HT.out, valD_snoc, HV.out, Nat.mul_comm]
      have g1 : (48 : Int) ≤ (s[k].toNat : Int) := by omega
      have g2 : (s[k].toNat : Int) ≤ 57 := by omega
      have e1 : IntKind.u8.wrap ((s[k].toNat : Int) - 48) = ((s[k].toNat - 48 : Nat) : Int) := by
        rw [show ((s[k].toNat : Int) - 48) = ((s[k].toNat - 48 : Nat) : Int) by omega]
        exact IntWalk.u8_in _ (by omega)
      have e2 : IntKind.i64.wrap (((s[k].toNat - 48 : Nat) : Int)) = ((s[k].toNat - 48 : Nat) : Int) := IntWalk.i64_in _ (by omega)
      have e3 : IntKind.i64.wrap (10 * (m : Int)) = ((10 * m : Nat) : Int) := by
        rw [show (10 * (m : Int)) = ((10 * m : Nat) : Int) by omega]
        exact IntWalk.i64_in _ (by omega)
      have e4 : IntKind.i64.wrap (((10 * m : Nat) : Int) + ((s[k].toNat - 48 : Nat) : Int)) = ((10 * m + (s[k].toNat - 48) : Nat) : Int) := by
        rw [show (((10 * m : Nat) : Int) + ((s[k].toNat - 48 : Nat) : Int)) = ((10 * m + (s[k].toNat - 48) : Nat) : Int) by omega]
        exact IntWalk.i64_in _ (by omega)
      clear hisd h48 h57
      go_wp2_with fail
      go_round
      case rel => exact ⟨k + 1, _, by omega, by go_num, rfl, HV2, HA2⟩
      case measure => simp [intOf]; omega
end Go.Proofs.YteklfjkiaknfjaaDoor
