/- Several texts laid into one: The contract of sound.IsName; Plain: names; Plain: a name is at most 40 bytes long; -/
import Derived.Test.YteaghgbpcpileaaGreatDoorBase
import Derived.Test.YteaghgbpcpileaaGreatDoorShelf
/- The contract of sound.IsName. -/
namespace Go.Proofs.YteaghgbpcpileaaGreatDoor
open Go.RowKit Go.Dw

def nameCs : ByteArray := ⟨#[97, 98, 99, 100, 101, 102, 103, 104, 105, 106, 107, 108, 109, 110, 111, 112, 113, 114, 115, 116, 117, 118, 119, 120, 121, 122, 48, 49, 50, 51, 52, 53, 54, 55, 56, 57, 45]⟩
def nmTail (s : ByteArray) : Bool := (Lib.trimS s.data.toList nameCs.data.toList).isEmpty
def isNm (s : ByteArray) : Bool := if h : 0 < s.size then decide (s.size ≤ 40) && (decide (97 ≤ (s[0]'h).toNat) && decide ((s[0]'h).toNat ≤ 122)) && nmTail s else false
set_option maxHeartbeats 400000 in
theorem trim_any (s : ByteArray) (w : World) (hs : s.size ≤ 9223372036854775807) :
    Calls Tryz.prog 71 #[.string s, .string nameCs] w fun e w' => e = .returned (.string ⟨(Lib.trimS s.data.toList nameCs.data.toList).toArray⟩) ∧ Below w.heap.size w w' :=
  Any.strings_Trim_laid Tryz.lays160 (by kernel_rfl) s nameCs w hs (by decide) (ascii_of_all (by decide))
set_option maxHeartbeats 1000000 in
theorem isName_any (s : ByteArray) (w : World) (hs : s.size ≤ 9223372036854775807) :
    Calls Tryz.prog 54 #[.string s] w fun e w' => e = .returned (.bool (isNm s)) ∧ Below w.heap.size w w' := by
  by_cases h0 : 0 < s.size
  · by_cases h1 : 40 < s.size
    · have hf : isNm s = false := by unfold isNm; rw [dif_pos h0]; simp; intro h; omega
      rw [hf]
      go_enter Tryz.func54, Tryz.ntmps54
      go_wp2_with fail
      go_ret
      exact ⟨rfl, Below.refl _ _⟩
    · by_cases h2 : (s[0]'h0).toNat < 97
      · have hf : isNm s = false := by unfold isNm; rw [dif_pos h0]; simp; intro _ h; omega
        rw [hf]
        have h2' : ((s[0]'h0).toNat : Int) < 97 := by omega
        go_enter Tryz.func54, Tryz.ntmps54
        go_wp2_with fail
        go_ret
        exact ⟨rfl, Below.refl _ _⟩
      · by_cases h3 : 122 < (s[0]'h0).toNat
        · have hf : isNm s = false := by unfold isNm; rw [dif_pos h0]; simp; intro _ _ h; omega
          rw [hf]
          have h3' : (122 : Int) < ((s[0]'h0).toNat : Int) := by omega
          go_enter Tryz.func54, Tryz.ntmps54
          go_wp2_with fail
          go_ret
          exact ⟨rfl, Below.refl _ _⟩
        · have hf : isNm s = nmTail s := by unfold isNm; rw [dif_pos h0]; simp [show s.size ≤ 40 by omega, show 97 ≤ (s[0]'h0).toNat by omega, show (s[0]'h0).toNat ≤ 122 by omega]
          rw [hf]

          clear hf
          go_enter Tryz.func54, Tryz.ntmps54
          go_wp2_with fail
          refine (trim_any s _ hs).mono ?_
          rintro e w' ⟨rfl, hb⟩
          have HB := Lib.hid hb
          clear hb
          go_wp2_with fail
          go_ret
          exact ⟨rfl, HB.out⟩
  · have hf : isNm s = false := by unfold isNm; rw [dif_neg h0]
    rw [hf]
    go_enter Tryz.func54, Tryz.ntmps54
    go_wp2_with fail
    go_ret
    exact ⟨rfl, Below.refl _ _⟩
end Go.Proofs.YteaghgbpcpileaaGreatDoor
/- Plain: names. -/
namespace Go.Proofs.YteaghgbpcpileaaGreatDoor
open Go.RowKit Go.Dw

def okB (b : UInt8) : Bool := (decide (97 ≤ b.toNat) && decide (b.toNat ≤ 122)) || (decide (48 ≤ b.toNat) && decide (b.toNat ≤ 57)) || decide (b.toNat = 45)
theorem okB_all : ∀ i : Fin 256, nameCs.data.toList.contains (UInt8.ofNat i.val) = okB (UInt8.ofNat i.val) := by decide +kernel
theorem okB_eq (b : UInt8) : nameCs.data.toList.contains b = okB b := by
  have := okB_all ⟨b.toNat, b.toNat_lt⟩
  simpa using this
theorem dropWhile_nil {α : Type} (p : α → Bool) : ∀ l : List α, l.dropWhile p = [] ↔ l.all p = true
  | [] => by simp
  | a :: l => by
    have ih := dropWhile_nil p l
    by_cases h : p a = true
    · rw [List.dropWhile_cons_of_pos h, ih]; simp [h]
    · rw [List.dropWhile_cons_of_neg (by simpa using h)]; simp [h]
theorem nmTail_eq (s : ByteArray) : nmTail s = s.data.toList.all okB := by
  have hp : (fun b : UInt8 => nameCs.data.toList.contains b) = okB := funext okB_eq
  unfold nmTail
  rw [Bool.eq_iff_iff, List.isEmpty_iff]
  unfold Lib.trimS Lib.trimLeftS Lib.trimRightS
  rw [hp, dropWhile_nil]
  rw [List.all_reverse]
  constructor
  · intro h
    have h2 : (s.data.toList.reverse.dropWhile okB) = [] := by
      cases hd : s.data.toList.reverse.dropWhile okB with
      | nil => rfl
      | cons a t =>
        rw [hd] at h
        have := List.head_dropWhile_not okB (l := s.data.toList.reverse) (by rw [hd]; simp)
        simp [hd] at this
        simp [this] at h
    rw [dropWhile_nil, List.all_reverse] at h2
    exact h2
  · intro h
    have : s.data.toList.reverse.dropWhile okB = [] := by rw [dropWhile_nil, List.all_reverse]; exact h
    rw [this]; rfl
theorem all_succ (s : ByteArray) (k : Nat) (h : k < s.size) : (s.data.toList.take (k + 1)).all okB = ((s.data.toList.take k).all okB && okB s[k]) := by
  rw [List.take_succ_eq_append_getElem (by simpa using h), List.all_append]
  have : s.data.toList[k]'(by simpa using h) = s[k] := rfl
  rw [this]; simp
theorem all_false (s : ByteArray) (k : Nat) (h : k < s.size) (hb : okB s[k] = false) : s.data.toList.all okB = false := by
  rw [List.all_eq_false]
  exact ⟨s[k], List.getElem_mem (l := s.data.toList) (by simpa using h), by simp [hb]⟩
theorem emp_f {s : ByteArray} (h : 0 < s.size) : s.toList.isEmpty = false := by
  rw [ByteArray.toList_eq]
  cases hl : s.data.toList with
  | nil =>
    have : s.size = s.data.toList.length := by simp
    rw [hl, List.length_nil] at this; omega
  | cons a t => rfl
theorem emp_t {s : ByteArray} (h : ¬ 0 < s.size) : s.toList.isEmpty = true ∧ s.toList = [] := by
  have h0 : s.data.toList = [] := by
    apply List.eq_nil_of_length_eq_zero
    have : s.size = s.data.toList.length := by simp
    omega
  rw [ByteArray.toList_eq, h0]; exact ⟨rfl, rfl⟩
end Go.Proofs.YteaghgbpcpileaaGreatDoor
/- Plain: a name is at most 40 bytes long. -/
namespace Go.Proofs.YteaghgbpcpileaaGreatDoor
open Go.RowKit Go.Dw

theorem isNm_len (s : ByteArray) (h : isNm s = true) : s.size ≤ 40 := by
  unfold isNm at h
  split at h
  · simp only [Bool.and_eq_true, decide_eq_true_eq] at h; exact h.1.1
  · cases h
end Go.Proofs.YteaghgbpcpileaaGreatDoor
