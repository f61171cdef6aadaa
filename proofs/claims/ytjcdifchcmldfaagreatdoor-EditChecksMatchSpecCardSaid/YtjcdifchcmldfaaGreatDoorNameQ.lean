/- Plain: names. -/
import Derived.Test.YtjcdifchcmldfaaGreatDoorName
namespace Go.Proofs.YtjcdifchcmldfaaGreatDoor
open Go.RowKit Go.Dw

def okB (b : UInt8) : Bool := (decide (97 ≤ b.toNat) && decide (b.toNat ≤ 122)) || (decide (48 ≤ b.toNat) && decide (b.toNat ≤ 57)) || decide (b.toNat = 45)
theorem okB_all : ∀ i : Fin 256, nameCs.data.toList.contains (UInt8.ofNat i.val) = okB (UInt8.ofNat i.val) := by decide +kernel
theorem okB_eq (b : UInt8) : nameCs.data.toList.contains b = okB b := by
  have := okB_all ⟨b.toNat, b.toNat_lt⟩
  simpa using this
theorem dropWhile_nil {α : Type} (p : α → Bool) : ∀ l : List α, l.dropWhile p = [] ↔ l.all p = true
  | [] => by simp
  | a :: l => by
    have ih := dropWhile_nil p l
    by_cases h : p a = true
    · rw [List.dropWhile_cons_of_pos h, ih]; simp [h]
    · rw [List.dropWhile_cons_of_neg (by simpa using h)]; simp [h]
theorem nmTail_eq (s : ByteArray) : nmTail s = s.data.toList.all okB := by
  have hp : (fun b : UInt8 => nameCs.data.toList.contains b) = okB := funext okB_eq
  unfold nmTail
  rw [Bool.eq_iff_iff, List.isEmpty_iff]
  unfold Lib.trimS Lib.trimLeftS Lib.trimRightS
  rw [hp, dropWhile_nil]
  rw [List.all_reverse]
  constructor
  · intro h
    have h2 : (s.data.toList.reverse.dropWhile okB) = [] := by
      cases hd : s.data.toList.reverse.dropWhile okB with
      | nil => rfl
      | cons a t =>
        rw [hd] at h
        have := List.head_dropWhile_not okB (l := s.data.toList.reverse) (by rw [hd]; simp)
        simp [hd] at this
        simp [this] at h
    rw [dropWhile_nil, List.all_reverse] at h2
    exact h2
  · intro h
    have : s.data.toList.reverse.dropWhile okB = [] := by rw [dropWhile_nil, List.all_reverse]; exact h
    rw [this]; rfl
theorem all_succ (s : ByteArray) (k : Nat) (h : k < s.size) : (s.data.toList.take (k + 1)).all okB = ((s.data.toList.take k).all okB && okB s[k]) := by
  rw [List.take_succ_eq_append_getElem (by simpa using h), List.all_append]
  have : s.data.toList[k]'(by simpa using h) = s[k] := rfl
  rw [this]; simp
theorem all_false (s : ByteArray) (k : Nat) (h : k < s.size) (hb : okB s[k] = false) : s.data.toList.all okB = false := by
  rw [List.all_eq_false]
  exact ⟨s[k], List.getElem_mem (l := s.data.toList) (by simpa using h), by simp [hb]⟩
theorem emp_f {s : ByteArray} (h : 0 < s.size) : s.toList.isEmpty = false := by
  rw [ByteArray.toList_eq]
  cases hl : s.data.toList with
  | nil =>
    have : s.size = s.data.toList.length := by simp
    rw [hl, List.length_nil] at this; omega
  | cons a t => rfl
theorem emp_t {s : ByteArray} (h : ¬ 0 < s.size) : s.toList.isEmpty = true ∧ s.toList = [] := by
  have h0 : s.data.toList = [] := by
    apply List.eq_nil_of_length_eq_zero
    have : s.size = s.data.toList.length := by simp
    omega
  rw [ByteArray.toList_eq, h0]; exact ⟨rfl, rfl⟩
end Go.Proofs.YtjcdifchcmldfaaGreatDoor
