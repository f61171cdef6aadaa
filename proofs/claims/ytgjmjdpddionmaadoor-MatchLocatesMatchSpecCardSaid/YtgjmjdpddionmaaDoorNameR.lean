/- The contract of the reference's isName. -/
import Derived.Test.YtgjmjdpddionmaaDoorName
namespace Go.Proofs.YtgjmjdpddionmaaDoor
open Go.RowKit Go.Dw

def okB (b : UInt8) : Bool := (decide (97 ≤ b.toNat) && decide (b.toNat ≤ 122)) || (decide (48 ≤ b.toNat) && decide (b.toNat ≤ 57)) || decide (b.toNat = 45)
theorem okB_all : ∀ i : Fin 256, nameCs.data.toList.contains (UInt8.ofNat i.val) = okB (UInt8.ofNat i.val) := by decide +kernel
theorem okB_eq (b : UInt8) : nameCs.data.toList.contains b = okB b := by
  have := okB_all ⟨b.toNat, b.toNat_lt⟩
  simpa using this
theorem dropWhile_nil {α : Type} (p : α → Bool) : ∀ l : List α, l.dropWhile p = [] ↔ l.all p = true
  | [] => by simp
  | a :: l => by
    have ih := dropWhile_nil p l
    by_cases h : p a = true
    · rw [List.dropWhile_cons_of_pos h, ih]; simp [h]
    · rw [List.dropWhile_cons_of_neg (by simpa using h)]; simp [h]
theorem nmTail_eq (s : ByteArray) : nmTail s = s.data.toList.all okB := by
  have hp : (fun b : UInt8 => nameCs.data.toList.contains b) = okB := funext okB_eq
  unfold nmTail
  rw [Bool.eq_iff_iff, List.isEmpty_iff]
  unfold Lib.trimS Lib.trimLeftS Lib.trimRightS
  rw [hp, dropWhile_nil]
  rw [List.all_reverse]
  constructor
  · intro h
    have h2 : (s.data.toList.reverse.dropWhile okB) = [] := by
      cases hd : s.data.toList.reverse.dropWhile okB with
      | nil => rfl
      | cons a t =>
        rw [hd] at h
        have := List.head_dropWhile_not okB (l := s.data.toList.reverse) (by rw [hd]; simp)
        simp [hd] at this
        simp [this] at h
    rw [dropWhile_nil, List.all_reverse] at h2
    exact h2
  · intro h
    have : s.data.toList.reverse.dropWhile okB = [] := by rw [dropWhile_nil, List.all_reverse]; exact h
    rw [this]; rfl
theorem all_succ (s : ByteArray) (k : Nat) (h : k < s.size) : (s.data.toList.take (k + 1)).all okB = ((s.data.toList.take k).all okB && okB s[k]) := by
  rw [List.take_succ_eq_append_getElem (by simpa using h), List.all_append]
  have : s.data.toList[k]'(by simpa using h) = s[k] := rfl
  rw [this]; simp
theorem all_false (s : ByteArray) (k : Nat) (h : k < s.size) (hb : okB s[k] = false) : s.data.toList.all okB = false := by
  rw [List.all_eq_false]
  exact ⟨s[k], List.getElem_mem (l := s.data.toList) (by simpa using h), by simp [hb]⟩
theorem emp_f {s : ByteArray} (h : 0 < s.size) : s.toList.isEmpty = false := by
  rw [ByteArray.toList_eq]
  cases hl : s.data.toList with
  | nil =>
    have : s.size = s.data.toList.length := by simp
    rw [hl, List.length_nil] at this; omega
  | cons a t => rfl
theorem emp_t {s : ByteArray} (h : ¬ 0 < s.size) : s.toList.isEmpty = true ∧ s.toList = [] := by
  have h0 : s.data.toList = [] := by
    apply List.eq_nil_of_length_eq_zero
    have : s.size = s.data.toList.length := by simp
    omega
  rw [ByteArray.toList_eq, h0]; exact ⟨rfl, rfl⟩
set_option maxHeartbeats 1000000 in
theorem isNameR_any (s : ByteArray) (w : World) (hs : s.size ≤ 9223372036854775807) :
    Calls Tryd.prog 27 #[.string s] w fun e w' => e = .returned (.bool (isNm s)) ∧ w = w' := by
  by_cases h0 : 0 < s.size
  case neg =>
    have hf : isNm s = false := by unfold isNm; rw [dif_neg h0]
    rw [hf]
    clear hf
    obtain ⟨e1, e2⟩ := emp_t h0
    clear e2
    go_enter Tryd.func27, Tryd.ntmps27
    go_wp2_with fail
    go_ret
    exact ⟨rfl, rfl⟩
  have e1 := emp_f h0
  by_cases h1 : 40 < s.size
  · have hf : isNm s = false := by unfold isNm; rw [dif_pos h0]; simp; intro h; omega
    rw [hf]
    go_enter Tryd.func27, Tryd.ntmps27
    go_wp2_with fail
    go_ret
    exact ⟨rfl, rfl⟩
  by_cases h2 : (s[0]'h0).toNat < 97
  · have hf : isNm s = false := by unfold isNm; rw [dif_pos h0]; simp; intro _ h; omega
    rw [hf]
    have h2' : ((s[0]'h0).toNat : Int) < 97 := by omega
    go_enter Tryd.func27, Tryd.ntmps27
    go_wp2_with fail
    go_ret
    exact ⟨rfl, rfl⟩
  by_cases h3 : 122 < (s[0]'h0).toNat
  · have hf : isNm s = false := by unfold isNm; rw [dif_pos h0]; simp; intro _ _ h; omega
    rw [hf]
    have h3' : (122 : Int) < ((s[0]'h0).toNat : Int) := by omega
    go_enter Tryd.func27, Tryd.ntmps27
    go_wp2_with fail
    go_ret
    exact ⟨rfl, rfl⟩
  have hf : isNm s = s.data.toList.all okB := by rw [← nmTail_eq]; unfold isNm; rw [dif_pos h0]; simp [show s.size ≤ 40 by omega, show 97 ≤ (s[0]'h0).toNat by omega, show (s[0]'h0).toNat ≤ 122 by omega]
  have HF := Lib.hid hf
  clear hf
  have h2' : (97 : Int) ≤ ((s[0]'h0).toNat : Int) := by omega
  have h3' : ((s[0]'h0).toNat : Int) ≤ 122 := by omega
  go_enter Tryd.func27, Tryd.ntmps27
  go_wp2_with fail
  go_loop [24] (fun i => ∃ k : Nat, k ≤ s.size ∧ i = .int .i64 k ∧ Hid ((s.data.toList.take k).all okB = true)) (fun i => s.size - (intOf i).toNat)
  case atStart => exact ⟨0, Nat.zero_le _, rfl, by simp [Hid]⟩
  case round =>
    obtain ⟨k, hk, rfl, HALL⟩ := hrel
    by_cases hlt : k < s.size
    case neg =>
      have hd : decide (k < s.size) = false := by simpa using hlt
      have HE : Hid (isNm s = true) := by
        show _ = _
        have := HALL.out
        rw [List.take_of_length_le (by simp; omega)] at this
        rw [HF.out, this]
      go_wp2_with fail
      go_ret
      exact ⟨ret_bool HE.out.symm, rfl⟩
    have hd : decide (k < s.size) = true := by simpa using hlt
    have HS := Lib.hid (all_succ s k hlt)
    cases hv : okB s[k] with
    | true =>
      have HV : Hid ((s.data.toList.take (k + 1)).all okB = true) := by show _ = _; rw [HS.out, HALL.out, hv]; rfl
      have hcs : (97 ≤ s[k].toNat ∧ s[k].toNat ≤ 122) ∨ (48 ≤ s[k].toNat ∧ s[k].toNat ≤ 57) ∨ s[k].toNat = 45 := by
        unfold okB at hv; simp at hv; omega
      clear hv h2 h3 h2' h3'
      rcases hcs with ⟨g1, g2⟩ | ⟨g1, g2⟩ | g1
      · have g1' : (97 : Int) ≤ (s[k].toNat : Int) := by omega
        have g2' : (s[k].toNat : Int) ≤ 122 := by omega
        go_wp2_with fail
        go_round
        case rel => exact ⟨k + 1, by omega, by go_num, HV⟩
        case measure => simp [intOf]; omega
      · have g1' : (48 : Int) ≤ (s[k].toNat : Int) := by omega
        have g2' : (s[k].toNat : Int) ≤ 57 := by omega
        have g3' : (s[k].toNat : Int) < 97 := by omega
        go_wp2_with fail
        go_round
        case rel => exact ⟨k + 1, by omega, by go_num, HV⟩
        case measure => simp [intOf]; omega
      · have g1' : (s[k].toNat : Int) < 48 := by omega
        have g3' : (s[k].toNat : Int) < 97 := by omega
        have g4 : ((s[k].toNat : Int) != 45) = false := by simp; omega
        go_wp2_with fail
        go_round
        case rel => exact ⟨k + 1, by omega, by go_num, HV⟩
        case measure => simp [intOf]; omega
    | false =>
      have HE : Hid (isNm s = false) := by show _ = _; rw [HF.out]; exact all_false s k hlt hv
      have hcs : 122 < s[k].toNat ∨ (57 < s[k].toNat ∧ s[k].toNat < 97) ∨ (s[k].toNat < 48 ∧ ¬ s[k].toNat = 45) := by
        unfold okB at hv; simp at hv; omega
      clear hv h2 h3 h2' h3'
      rcases hcs with g1 | ⟨g1, g2⟩ | ⟨g1, g2⟩
      · have g1' : (122 : Int) < (s[k].toNat : Int) := by omega
        have g4 : ((s[k].toNat : Int) != 45) = true := by simp; omega
        go_wp2_with fail
        go_ret
        exact ⟨ret_bool HE.out.symm, rfl⟩
      · have g1' : (57 : Int) < (s[k].toNat : Int) := by omega
        have g2' : (s[k].toNat : Int) < 97 := by omega
        have g4 : ((s[k].toNat : Int) != 45) = true := by simp; omega
        go_wp2_with fail
        go_ret
        exact ⟨ret_bool HE.out.symm, rfl⟩
      · have g1' : (s[k].toNat : Int) < 48 := by omega
        have g2' : (s[k].toNat : Int) < 97 := by omega
        have g4 : ((s[k].toNat : Int) != 45) = true := by simp; omega
        go_wp2_with fail
        go_ret
        exact ⟨ret_bool HE.out.symm, rfl⟩
end Go.Proofs.YtgjmjdpddionmaaDoor
