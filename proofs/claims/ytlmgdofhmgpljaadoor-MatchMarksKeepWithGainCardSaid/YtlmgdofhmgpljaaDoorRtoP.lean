/- Plain: ratios as texts; their faults. -/
import Derived.Test.YtlmgdofhmgpljaaDoorDigP
import Derived.Lib.Strings
namespace Go.Dw
open Go.RowKit

/-- the sign, and the digits, of a number's text -/
def sgT (s : ByteArray) : Bool := Lib.hasPrefix s.data.toList [45]
def boT (s : ByteArray) : List UInt8 := Lib.trimPrefix s.data.toList [45]
def numZ (s : ByteArray) : Int := if sgT s = true then -(valD (boT s) : Int) else (valD (boT s) : Int)
theorem numZ_abs (s : ByteArray) : (numZ s).natAbs = valD (boT s) := by unfold numZ; split <;> omega
theorem numZ_neg (s : ByteArray) : decide (numZ s < 0) = (sgT s && decide (0 < valD (boT s))) := by
  unfold numZ
  cases sgT s
  · simp
  · simp
theorem boT_len (s : ByteArray) : (boT s).length ≤ s.size := by
  unfold boT Lib.trimPrefix
  split
  · rw [List.length_drop]; show s.data.size - _ ≤ s.data.size; omega
  · exact Nat.le_refl _
/-- a whole number without a needless 0 -/
def noZ (l : List UInt8) : Bool := l.all isD && (decide (l = [48]) || (!l.isEmpty && !decide (l.head? = some 48)))
theorem noZ_iff (l : List UInt8) : noZ l = true ↔ l.all isD = true ∧ NoZ l := by
  unfold noZ NoZ
  cases l with
  | nil => simp
  | cons x l =>
    simp only [Bool.and_eq_true, Bool.or_eq_true, decide_eq_true_eq, List.isEmpty_cons, Bool.not_false, true_and, List.head?_cons, Option.some.injEq, Bool.not_eq_true', decide_eq_false_iff_not]
    constructor
    · rintro ⟨h1, h2⟩
      refine ⟨h1, by simp, fun e => ?_⟩
      rcases h2 with h2 | h2
      · exact h2
      · exact absurd e h2
    · rintro ⟨h1, _, h3⟩
      refine ⟨h1, ?_⟩
      by_cases e : x = 48
      · exact .inl (h3 e)
      · exact .inr e
theorem noZ_pos {l : List UInt8} (h : noZ l = true) (h0 : l ≠ [48]) : 0 < valD l := by
  obtain ⟨h1, h2⟩ := (noZ_iff l).1 h
  rcases Nat.eq_zero_or_pos (valD l) with e | e
  · have := dec_val _ l rfl h1 h2
    rw [e] at this
    exact absurd this.symm (by
      intro e2; apply h0; rw [e2, Lib.decDigits, dif_pos (by omega)]; rfl)
  · exact e
theorem noZ_bad {l : List UInt8} (h : l.all isD = false) : noZ l = false := by unfold noZ; rw [h]; rfl
theorem noZ_head {l : List UInt8} (h : l.head? = some 48) (h1 : l ≠ [48]) : noZ l = false := by
  unfold noZ
  rw [decide_eq_false h1, decide_eq_true h]
  cases l.all isD <;> cases l.isEmpty <;> rfl
theorem noZ_ok {l : List UInt8} (h : l.all isD = true) (h1 : l ≠ []) (h2 : l.head? ≠ some 48) : noZ l = true := by
  unfold noZ
  rw [h, decide_eq_false h2]
  cases l with
  | nil => exact absurd rfl h1
  | cons x l => simp
theorem noZ_nil : noZ [] = false := rfl
theorem noZ_0 : noZ [48] = true := rfl
theorem dgt_succ (s : ByteArray) (k : Nat) (h : k < s.size) : (s.data.toList.take (k + 1)).all isD = ((s.data.toList.take k).all isD && isD s[k]) := by
  have h1 : k < s.data.toList.length := by rw [Array.length_toList]; exact h
  rw [List.take_succ_eq_append_getElem h1, List.all_append]
  simp only [List.all_cons, List.all_nil, Bool.and_true, Array.getElem_toList]
  rfl
theorem dgt_false (s : ByteArray) (k : Nat) (h : k < s.size) (hb : isD s[k] = false) : s.data.toList.all isD = false := by
  cases hh : s.data.toList.all isD
  · rfl
  · have h1 : k < s.data.toList.length := by rw [Array.length_toList]; exact h
    have := List.all_eq_true.1 hh s.data.toList[k] (List.getElem_mem h1)
    rw [Array.getElem_toList] at this
    have e : isD s[k] = true := this
    rw [hb] at e; cases e
/-- the digits of the number that digits stand for -/
theorem noZ_len {l : List UInt8} (h : noZ l = true) : (Lib.decDigits (valD l)).length = l.length := by
  obtain ⟨h1, h2⟩ := (noZ_iff l).1 h
  rw [dec_val _ l rfl h1 h2]
/-- the form of a ratio's texts -/
def rFrm (s d : ByteArray) : Bool := noZ (boT s) && !(sgT s && decide (boT s = [48])) && noZ d.data.toList && !decide (d.data.toList = [48])
/-- the fault of a ratio -/
def ratF (s d : ByteArray) : Int :=
  if rFrm s d = false then 3 else if 2000 < (boT s).length ∨ 2000 < d.data.toList.length then 2 else if Nat.gcd (valD (boT s)) (valD d.data.toList) = 1 then 0 else 3
structure RatR (s d : ByteArray) : Prop where
  nz : noZ (boT s) = true
  dz : noZ d.data.toList = true
  p : 0 < valD d.data.toList
  z : sgT s = true → 0 < valD (boT s)
  nl : (boT s).length ≤ 2000
  dl : d.data.toList.length ≤ 2000
  g : Nat.gcd (valD (boT s)) (valD d.data.toList) = 1
theorem rFrm_of {s d : ByteArray} (h : rFrm s d = true) : noZ (boT s) = true ∧ noZ d.data.toList = true ∧ 0 < valD d.data.toList ∧ (sgT s = true → 0 < valD (boT s)) := by
  unfold rFrm at h
  simp only [Bool.and_eq_true, Bool.not_eq_true', Bool.and_eq_false_iff, decide_eq_false_iff_not] at h
  obtain ⟨⟨⟨h1, h2⟩, h3⟩, h4⟩ := h
  refine ⟨h1, h3, noZ_pos h3 h4, fun hs => ?_⟩
  rcases h2 with h2 | h2
  · rw [hs] at h2; cases h2
  · exact noZ_pos h1 h2
theorem ratR_of {s d : ByteArray} (h : ratF s d = 0) : RatR s d := by
  unfold ratF at h
  split at h
  · omega
  · rename_i h1
    split at h
    · omega
    · rename_i h2
      split at h
      · rename_i h3
        obtain ⟨a, b, c, e⟩ := rFrm_of (s := s) (d := d) (by simpa using h1)
        exact ⟨a, b, c, e, by omega, by omega, h3⟩
      · omega
end Go.Dw
