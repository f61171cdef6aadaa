/- Plain: texts of marks (no program). -/
import Derived.Test.YtlmgdofhmgpljaaDoorBase
import Derived.Lib.Bytealg
namespace Go.Dw
open Go.RowKit

def hexB : List UInt8 := [48, 49, 50, 51, 52, 53, 54, 55, 56, 57, 97, 98, 99, 100, 101, 102]
def dg (c : UInt8) : Int := Lib.indexByte hexB c
theorem ix_first (l : List UInt8) (c : UInt8) (k : Nat) (hk : k < l.length) (he : l[k] = c) (hn : ∀ j (h : j < k), l[j]'(by omega) ≠ c) : Lib.indexByte l c = k := by
  induction l generalizing k with
  | nil => simp at hk
  | cons b t ih =>
    unfold Lib.indexByte
    cases k with
    | zero => simp at he; simp [he]
    | succ k =>
      have h0 : b ≠ c := hn 0 (by omega)
      have := ih k (by simpa using hk) (by simpa using he) (fun j hj => by simpa using hn (j + 1) (by omega))
      rw [this]
      have h1 : (b == c) = false := by simp [h0]
      have h2 : ((k : Int) == -1) = false := by simp
      rw [h1, h2]; simp
theorem ix_none (l : List UInt8) (c : UInt8) (hn : ∀ j (h : j < l.length), l[j] ≠ c) : Lib.indexByte l c = -1 := by
  induction l with
  | nil => rfl
  | cons b t ih =>
    unfold Lib.indexByte
    have h0 : b ≠ c := hn 0 (by simp)
    have := ih (fun j hj => hn (j + 1) (by simpa using hj))
    rw [this]; simp [h0]
theorem ix_range (l : List UInt8) (c : UInt8) : -1 ≤ Lib.indexByte l c ∧ Lib.indexByte l c < l.length := by
  induction l with
  | nil => simp [Lib.indexByte]
  | cons b t ih =>
    unfold Lib.indexByte
    split
    · simp
    · split
      · simp; omega
      · simp; omega
theorem dg_range (c : UInt8) : -1 ≤ dg c ∧ dg c ≤ 15 := by
  have := ix_range hexB c
  have hl : hexB.length = 16 := rfl
  unfold dg; omega

/-- what pairs of digits say -/
def prs : List UInt8 → List Int
  | a :: b :: t => (16 * dg a + dg b) :: prs t
  | _ => []
theorem prs_len : ∀ (l : List UInt8), (prs l).length ≤ l.length
  | [] => by simp [prs]
  | [_] => by simp [prs]
  | a :: b :: t => by have := prs_len t; simp [prs]; omega
theorem prs_even (l : List UInt8) (c : UInt8) (h : l.length % 2 = 0) : prs (l ++ [c]) = prs l := by
  match l with
  | [] => rfl
  | [a] => simp at h
  | a :: b :: t => simp [prs]; exact prs_even t c (by simp at h; omega)
theorem prs_odd (l : List UInt8) (b c : UInt8) (h : l.length % 2 = 0) : prs (l ++ [b, c]) = prs l ++ [16 * dg b + dg c] := by
  match l with
  | [] => rfl
  | [a] => simp at h
  | a :: b :: t => simp [prs]; exact prs_odd t _ c (by simp at h; omega)
theorem prs_take_even (l : List UInt8) (k : Nat) (hk : k < l.length) (h : k % 2 = 0) : prs (l.take (k + 1)) = prs (l.take k) := by
  rw [List.take_succ_eq_append_getElem hk]; exact prs_even _ _ (by rw [List.length_take]; omega)
theorem prs_take_odd (l : List UInt8) (k : Nat) (hk : k < l.length) (h : k % 2 = 1) : prs (l.take (k + 1)) = prs (l.take k) ++ [16 * dg (l.getD (k - 1) 0) + dg l[k]] := by
  obtain ⟨j, rfl⟩ : ∃ j, k = j + 1 := ⟨k - 1, by omega⟩
  have hj : j < l.length := by omega
  rw [List.take_succ_eq_append_getElem hk, prs_take_even l j hj (by omega), List.take_succ_eq_append_getElem hj, List.append_assoc]
  have : l.getD (j + 1 - 1) 0 = l[j] := by simp [hj]
  rw [this]
  exact prs_odd _ _ _ (by rw [List.length_take]; omega)

/-- Read: the marks, the place, the fault -/
def rdd (l : List UInt8) : List Int × Int × Int :=
  if 1000 < l.length then ([], 0, 2) else
  match l.findIdx? (fun c => decide (dg c < 0)) with
  | some i => ([], i, 10)
  | none => if l.length % 2 = 1 then ([], l.length, 10) else (prs l, 0, 0)
theorem rdd_big {l : List UInt8} (h : 1000 < l.length) : rdd l = ([], 0, 2) := by simp [rdd, h]
theorem rdd_bad {l : List UInt8} (h : ¬ 1000 < l.length) {k : Nat} (hk : k < l.length) (hb : dg l[k] < 0) (hall : ∀ j (h : j < k), 0 ≤ dg (l[j]'(by omega))) : rdd l = ([], (k : Int), 10) := by
  have : l.findIdx? (fun c => decide (dg c < 0)) = some k := by
    rw [List.findIdx?_eq_some_iff_getElem]
    exact ⟨hk, by simpa using hb, fun j hj => by have := hall j hj; simp; omega⟩
  rw [rdd, if_neg h, this]
theorem rdd_ok {l : List UInt8} (h : ¬ 1000 < l.length) (hall : ∀ j (h : j < l.length), 0 ≤ dg l[j]) : rdd l = if l.length % 2 = 1 then ([], (l.length : Int), 10) else (prs l, 0, 0) := by
  have : l.findIdx? (fun c => decide (dg c < 0)) = none := by
    rw [List.findIdx?_eq_none_iff]
    intro x hx
    obtain ⟨j, hj, rfl⟩ := List.getElem_of_mem hx
    have := hall j hj; simp; omega
  rw [rdd, if_neg h, this]
theorem blen (s : ByteArray) : s.data.toList.length = s.size := rfl
theorem bget (s : ByteArray) (k : Nat) (h : k < s.size) : s[k] = s.data.toList.getD (k + 1 - 1) 0 := by
  have : k < s.data.toList.length := h
  rw [Nat.add_sub_cancel, List.getD_eq_getElem?_getD, List.getElem?_eq_getElem this]; rfl
end Go.Dw
