/- Plain: how a text of credits reads. -/
import Derived.Test.YtckakleiaccffaaDoorCrP
import Derived.Test.YtckakleiaccffaaDoorNameQ
import Derived.Test.YtckakleiaccffaaDoorAgrP
import Derived.Lib.Atoi
namespace Go.Proofs.YtckakleiaccffaaDoor
open Go.RowKit Go.Dw

def digCs : ByteArray := ⟨#[48, 49, 50, 51, 52, 53, 54, 55, 56, 57]⟩
def isD (b : UInt8) : Bool := decide (48 ≤ b.toNat) && decide (b.toNat ≤ 57)
theorem isD_all : ∀ i : Fin 256, digCs.data.toList.contains (UInt8.ofNat i.val) = isD (UInt8.ofNat i.val) := by decide +kernel
theorem isD_eq (b : UInt8) : digCs.data.toList.contains b = isD b := by
  have := isD_all ⟨b.toNat, b.toNat_lt⟩
  simpa using this
theorem trimD (l : List UInt8) : (Lib.trimS l digCs.data.toList = []) ↔ l.all isD = true := by
  have hp : (fun b : UInt8 => digCs.data.toList.contains b) = isD := funext isD_eq
  unfold Lib.trimS Lib.trimLeftS Lib.trimRightS
  rw [hp, dropWhile_nil]
  rw [List.all_reverse]
  constructor
  · intro h
    have h2 : (l.reverse.dropWhile isD) = [] := by
      cases hd : l.reverse.dropWhile isD with
      | nil => rfl
      | cons a t =>
        rw [hd] at h
        have := List.head_dropWhile_not isD (l := l.reverse) (by rw [hd]; simp)
        simp [hd] at this
        simp [this] at h
    rw [dropWhile_nil, List.all_reverse] at h2
    exact h2
  · intro h
    have : l.reverse.dropWhile isD = [] := by rw [dropWhile_nil, List.all_reverse]; exact h
    rw [this]; rfl
/-- a number of digits -/
def valD (l : List UInt8) : Nat := l.foldl (fun n b => n * 10 + (b.toNat - 48)) 0
theorem valD_snoc (l : List UInt8) (b : UInt8) : valD (l ++ [b]) = valD l * 10 + (b.toNat - 48) := by simp [valD]
theorem valD_dec : ∀ (l : List UInt8) (acc : Nat), l.all isD = true → Lib.decFrom acc l = some (l.foldl (fun n b => n * 10 + (b.toNat - 48)) acc)
  | [], acc, _ => rfl
  | b :: r, acc, h => by
    simp only [List.all_cons, Bool.and_eq_true] at h
    have hb : Lib.digitVal b = some (b.toNat - 48) := by
      unfold Lib.digitVal; rw [if_pos]; simpa [isD] using h.1
    rw [Lib.decFrom, hb, List.foldl_cons]
    exact valD_dec r _ h.2
theorem atoi_val {l : List UInt8} (hn : l ≠ []) (h : l.all isD = true) : Lib.atoi l = some (valD l : Int) := by
  cases l with
  | nil => exact absurd rfl hn
  | cons b r =>
    have hb : isD b = true := by simp only [List.all_cons, Bool.and_eq_true] at h; exact h.1
    have h45 : (b == 45) = false := by
      rw [beq_eq_false_iff_ne]; intro e; subst e; revert hb; decide
    have h43 : (b == 43) = false := by
      rw [beq_eq_false_iff_ne]; intro e; subst e; revert hb; decide
    unfold Lib.atoi
    simp only [h45, h43, Bool.false_eq_true, if_false]
    unfold Lib.decNat
    rw [if_neg (by simp), valD_dec _ _ h]; rfl
theorem valD_lt : ∀ (n : Nat) (l : List UInt8), l.length = n → l.all isD = true → valD l < 10 ^ n
  | 0, l, hn, _ => by rw [List.eq_nil_of_length_eq_zero hn]; simp [valD]
  | n + 1, l, hn, h => by
    have hne : l ≠ [] := by intro e; rw [e] at hn; simp at hn
    rw [← List.dropLast_concat_getLast hne] at h ⊢
    rw [List.all_append] at h
    simp only [List.all_cons, List.all_nil, Bool.and_true, Bool.and_eq_true] at h
    have ih := valD_lt n l.dropLast (by simp [hn]) h.1
    rw [valD_snoc, Nat.pow_succ]
    have h2 : (l.getLast hne).toNat ≤ 57 := by have := h.2; simp [isD] at this; omega
    omega
def numF (l : List UInt8) : Option Nat := if l.length = 0 ∨ 6 < l.length ∨ (1 < l.length ∧ l.head? = some 48) ∨ l.all isD = false then none else some (valD l)
theorem numF_lt {l : List UInt8} {n : Nat} (h : numF l = some n) : n < 1000000 := by
  unfold numF at h
  split at h
  · cases h
  · rename_i hc
    injection h with h
    have := valD_lt l.length l rfl (by simpa using fun e => hc (.inr (.inr (.inr e))))
    have h2 : 10 ^ l.length ≤ 10 ^ 6 := Nat.pow_le_pow_right (by omega) (by omega)
    omega
def mkB (l : List UInt8) : ByteArray := ⟨l.toArray⟩
def insL (d : List UInt8) : List ByteArray := if d = [] then [] else (splitB 44 d).map mkB
def lineF (l : List UInt8) : Option Crp :=
  if (splitB 124 l).length ≠ 5 then none else
    (numF ((splitB 124 l).getD 4 [])).map fun m => ⟨mkB ((splitB 124 l).getD 0 []), mkB ((splitB 124 l).getD 2 []), mkB ((splitB 124 l).getD 1 []), insL ((splitB 124 l).getD 3 []), (m : Int)⟩
def finR (out : List Crp) : List Crp × Nat × Int := if crsF out = 0 then (out, 0, 0) else ([], 0, crsF out)
def cutN (t : List UInt8) : Nat := (Lib.indexByte t 10).toNat
def readG : Nat → List UInt8 → Nat → List Crp → List Crp × Nat × Int
  | 0, _, _, out => finR out
  | f + 1, t, i, out => if t.length = 0 then finR out else if t.count 10 = 0 then ([], i, 10) else
      match lineF (t.take (cutN t)) with
      | none => ([], i, 10)
      | some c => readG f (t.drop (cutN t + 1)) (i + 1) (out ++ [c])
def readF (t : List UInt8) : List Crp × Nat × Int := if 300000 < t.length then ([], 0, 2) else readG t.length t 1 []
theorem readG_end {f : Nat} {t : List UInt8} {i : Nat} {out : List Crp} (h : t.length = 0) : readG f t i out = finR out := by
  cases f with
  | zero => rfl
  | succ f => rw [readG, if_pos h]
theorem readG_nocut {f : Nat} {t : List UInt8} {i : Nat} {out : List Crp} (h : t.length ≠ 0) (hf : t.length ≤ f) (hc : t.count 10 = 0) : readG f t i out = ([], i, 10) := by
  cases f with
  | zero => omega
  | succ f => rw [readG, if_neg h, if_pos hc]
theorem readG_bad {f : Nat} {t : List UInt8} {i : Nat} {out : List Crp} (h : t.length ≠ 0) (hf : t.length ≤ f) (hl : lineF (t.take (cutN t)) = none) : readG f t i out = ([], i, 10) := by
  cases f with
  | zero => omega
  | succ f =>
    rw [readG, if_neg h]
    split
    · rfl
    · rw [hl]
theorem readG_go {f : Nat} {t : List UInt8} {i : Nat} {out : List Crp} {c : Crp} (h : t.length ≠ 0) (hf : t.length ≤ f) (hc : t.count 10 ≠ 0) (hl : lineF (t.take (cutN t)) = some c) : readG f t i out = readG (f - 1) (t.drop (cutN t + 1)) (i + 1) (out ++ [c]) := by
  cases f with
  | zero => omega
  | succ f => rw [readG, if_neg h, if_neg hc, hl]; rfl
/-- where the first byte z lies -/
theorem cut_at {z : UInt8} {t : List UInt8} (h : 0 < t.count z) : ∃ m : Nat, Lib.indexByte t z = (m : Int) ∧ m < t.length := by
  obtain ⟨m, h1, h2, _, _⟩ := split_at z t h
  exact ⟨m, h1, h2⟩
theorem cut_none {z : UInt8} : ∀ {t : List UInt8}, t.count z = 0 → Lib.indexByte t z = -1
  | [], _ => rfl
  | c :: r, h => by
    have hc : c ≠ z := by
      intro hh; subst hh; simp at h
    rw [List.count_cons_of_ne hc] at h
    unfold Lib.indexByte
    rw [cut_none h]
    simp [hc]
theorem sb_mk (ls : List (List UInt8)) : sb (ls.map mkB) = ls.map fun l => Value.string ⟨l.toArray⟩ := by simp [sb, mkB]

end Go.Proofs.YtckakleiaccffaaDoor
