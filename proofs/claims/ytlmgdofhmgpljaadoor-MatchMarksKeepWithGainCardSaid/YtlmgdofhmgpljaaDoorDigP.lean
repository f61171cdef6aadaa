/- Plain: decimal digits as text. -/
import Derived.Test.YtlmgdofhmgpljaaDoorNatQ
import Derived.Lib.Atoi
import Derived.Lib.ItoaNum
namespace Go.Dw
open Go.RowKit

def isD (b : UInt8) : Bool := decide (48 ≤ b.toNat) && decide (b.toNat ≤ 57)
/-- the number that digits say -/
def valD (l : List UInt8) : Nat := l.foldl (fun n b => n * 10 + (b.toNat - 48)) 0
theorem valD_snoc (l : List UInt8) (b : UInt8) : valD (l ++ [b]) = valD l * 10 + (b.toNat - 48) := by simp [valD]
theorem valD_dec : ∀ (l : List UInt8) (acc : Nat), l.all isD = true → Lib.decFrom acc l = some (l.foldl (fun n b => n * 10 + (b.toNat - 48)) acc)
  | [], acc, _ => rfl
  | b :: r, acc, h => by
    simp only [List.all_cons, Bool.and_eq_true] at h
    have hb : Lib.digitVal b = some (b.toNat - 48) := by
      unfold Lib.digitVal; rw [if_pos]; simpa [isD] using h.1
    rw [Lib.decFrom, hb, List.foldl_cons]
    exact valD_dec r _ h.2
theorem atoi_val {l : List UInt8} (hn : l ≠ []) (h : l.all isD = true) : Lib.atoi l = some (valD l : Int) := by
  cases l with
  | nil => exact absurd rfl hn
  | cons b r =>
    have hb : isD b = true := by simp only [List.all_cons, Bool.and_eq_true] at h; exact h.1
    have h45 : (b == 45) = false := by
      rw [beq_eq_false_iff_ne]; intro e; subst e; revert hb; decide
    have h43 : (b == 43) = false := by
      rw [beq_eq_false_iff_ne]; intro e; subst e; revert hb; decide
    unfold Lib.atoi
    simp only [h45, h43, Bool.false_eq_true, if_false]
    unfold Lib.decNat
    rw [if_neg (by simp), valD_dec _ _ h]; rfl
theorem isD_bd {b : UInt8} (h : isD b = true) : 48 ≤ b.toNat ∧ b.toNat ≤ 57 := by
  simpa [isD] using h
theorem valD_app (x : List UInt8) : ∀ (n : Nat) (y : List UInt8), y.length = n → valD (x ++ y) = valD x * 10 ^ n + valD y
  | 0, y, hn => by rw [List.eq_nil_of_length_eq_zero hn]; simp [valD]
  | n + 1, y, hn => by
    have hne : y ≠ [] := fun e => by rw [e] at hn; simp at hn
    rw [← List.dropLast_concat_getLast hne, ← List.append_assoc, valD_snoc, valD_snoc, valD_app x n y.dropLast (by simp [hn]), Nat.pow_succ, Nat.add_mul, Nat.mul_assoc]
    omega
theorem valD_lt : ∀ (n : Nat) (l : List UInt8), l.length = n → l.all isD = true → valD l < 10 ^ n
  | 0, l, hn, _ => by rw [List.eq_nil_of_length_eq_zero hn]; simp [valD]
  | n + 1, l, hn, h => by
    have hne : l ≠ [] := fun e => by rw [e] at hn; simp at hn
    rw [← List.dropLast_concat_getLast hne] at h ⊢
    rw [List.all_append, Bool.and_eq_true] at h
    have ih := valD_lt n l.dropLast (by simp [hn]) h.1
    have hb := isD_bd (b := l.getLast hne) (by simpa using h.2)
    rw [valD_snoc, Nat.pow_succ]
    omega
theorem all_take {l : List UInt8} (h : l.all isD = true) (n : Nat) : (l.take n).all isD = true := by
  rw [List.all_eq_true] at h ⊢; exact fun x hx => h x (List.mem_of_mem_take hx)
theorem all_drop {l : List UInt8} (h : l.all isD = true) (n : Nat) : (l.drop n).all isD = true := by
  rw [List.all_eq_true] at h ⊢; exact fun x hx => h x (List.mem_of_mem_drop hx)
theorem u8_dig {k : Nat} (h : k < 10) : (UInt8.ofNat (48 + k)).toNat = 48 + k := by
  rw [UInt8.toNat_ofNat']; omega
theorem dec_facts : ∀ (u : Nat), (Lib.decDigits u).all isD = true ∧ valD (Lib.decDigits u) = u ∧ (Lib.decDigits u).length ≠ 0 ∧ ((Lib.decDigits u).head? = some 48 → u = 0) := by
  intro u
  induction u using Nat.strongRecOn with
  | _ u ih =>
    rw [Lib.decDigits]
    split
    · rename_i h
      have h1 := u8_dig h
      generalize UInt8.ofNat (48 + u) = b at *
      refine ⟨by simp [isD, h1]; omega, by simp [valD, h1], by simp, ?_⟩
      intro h2
      injection h2 with h2
      subst h2
      have h4 : (48 : UInt8).toNat = 48 := rfl
      omega
    · rename_i h
      obtain ⟨a1, a2, a3, a4⟩ := ih (u / 10) (by omega)
      have h1 : (UInt8.ofNat (48 + u % 10)).toNat = 48 + u % 10 := u8_dig (by omega)
      generalize UInt8.ofNat (48 + u % 10) = b at *
      refine ⟨?_, ?_, by simp, ?_⟩
      · rw [List.all_append, a1]; simp [isD, h1]; omega
      · rw [valD_snoc, a2, h1]; omega
      · intro h2
        have h3 : (Lib.decDigits (u / 10)).head? = some 48 := by
          cases hd : Lib.decDigits (u / 10) with
          | nil => rw [hd] at a3; simp at a3
          | cons x r => rw [hd] at h2; simpa using h2
        have := a4 h3
        omega
theorem dec_len : ∀ (k u : Nat), 1 ≤ k → u < 10 ^ k → (Lib.decDigits u).length ≤ k
  | 0, _, h, _ => by omega
  | 1, u, _, h => by rw [Lib.decDigits, dif_pos (by omega)]; simp
  | k + 2, u, _, h => by
    rw [Lib.decDigits]
    split
    · simp
    · rw [List.length_append]
      have h1 : u / 10 < 10 ^ (k + 1) := by rw [Nat.div_lt_iff_lt_mul (by omega)]; rw [Nat.pow_succ] at h; exact h
      have := dec_len (k + 1) (u / 10) (by omega) h1
      simp; omega
/-- a number without a needless 0 -/
def NoZ (l : List UInt8) : Prop := l ≠ [] ∧ (l.head? = some 48 → l = [48])
/-- digits as they are written -/
theorem dec_val : ∀ (n : Nat) (l : List UInt8), l.length = n → l.all isD = true → NoZ l → Lib.decDigits (valD l) = l
  | 0, l, hn, _, hz => absurd (List.eq_nil_of_length_eq_zero hn) hz.1
  | n + 1, l, hn, h, hz => by
    have hne : l ≠ [] := hz.1
    obtain ⟨p, b, rfl⟩ : ∃ p b, l = p ++ [b] := ⟨l.dropLast, l.getLast hne, (List.dropLast_concat_getLast hne).symm⟩
    rw [List.all_append, Bool.and_eq_true] at h
    have hb := isD_bd (b := b) (by simpa using h.2)
    have e1 : UInt8.ofNat (48 + (b.toNat - 48)) = b := by rw [show 48 + (b.toNat - 48) = b.toNat by omega]; exact UInt8.ofNat_toNat
    rw [valD_snoc]
    cases p with
    | nil =>
      rw [Lib.decDigits, dif_pos (by simp [valD]; omega)]
      simp only [valD, List.foldl_nil, Nat.zero_mul, Nat.zero_add, List.nil_append, e1]
    | cons a p =>
      have hz2 : NoZ (a :: p) := by
        refine ⟨by simp, fun e => ?_⟩
        have := hz.2 (by simpa using e)
        simp at this
      have ih := dec_val n (a :: p) (by simp at hn ⊢; omega) h.1 hz2
      have hpos : 1 ≤ valD (a :: p) := by
        rcases Nat.eq_zero_or_pos (valD (a :: p)) with h0 | h0
        · rw [h0] at ih
          rw [Lib.decDigits, dif_pos (by omega)] at ih
          have : a = 48 := by injection ih with i1 i2; exact i1.symm
          subst this
          have := hz.2 (by simp)
          simp at this
        · exact h0
      rw [Lib.decDigits, dif_neg (by omega)]
      rw [show (valD (a :: p) * 10 + (b.toNat - 48)) / 10 = valD (a :: p) by omega, show (valD (a :: p) * 10 + (b.toNat - 48)) % 10 = b.toNat - 48 by omega, ih, e1]
theorem dec_noz (u : Nat) : NoZ (Lib.decDigits u) := by
  obtain ⟨h1, h2, h3, h4⟩ := dec_facts u
  refine ⟨fun e => h3 (by rw [e]; rfl), fun e => ?_⟩
  have := h4 e
  subst this
  rw [Lib.decDigits, dif_pos (by omega)]; rfl
theorem dec_inj {u v : Nat} (h : Lib.decDigits u = Lib.decDigits v) : u = v := by
  have := (dec_facts u).2.1
  rw [h, (dec_facts v).2.1] at this
  exact this.symm
end Go.Dw
