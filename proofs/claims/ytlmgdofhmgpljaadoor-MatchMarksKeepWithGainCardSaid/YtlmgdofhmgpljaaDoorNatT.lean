/- Plain: how a number is written and read by groups of digits. -/
import Derived.Test.YtlmgdofhmgpljaaDoorDigP
namespace Go.Dw
open Go.RowKit

/-- decimal digits, the lowest first, as bytes -/
def db (D : List Nat) : List UInt8 := D.map fun d => UInt8.ofNat (48 + d)
theorem db_snoc (D : List Nat) (d : Nat) : db (D ++ [d]) = db D ++ [UInt8.ofNat (48 + d)] := by simp [db]
theorem db_len (D : List Nat) : (db D).length = D.length := by simp [db]
theorem db_val : ∀ (D : List Nat), Ds 10 D → valD (db D).reverse = val 10 D ∧ (db D).reverse.all isD = true
  | [], _ => ⟨rfl, rfl⟩
  | d :: D, h => by
    obtain ⟨h1, h2⟩ := db_val D (fun x hx => h x (by simp [hx]))
    have hd : d < 10 := h d (by simp)
    have hb := u8_dig hd
    have e : (db (d :: D)).reverse = (db D).reverse ++ [UInt8.ofNat (48 + d)] := by simp [db]
    rw [e, valD_snoc, h1, hb, List.all_append, h2]
    refine ⟨by simp only [val]; omega, ?_⟩
    have : isD (UInt8.ofNat (48 + d)) = true := by unfold isD; rw [hb]; simp; omega
    rw [List.all_cons, List.all_nil, this]; rfl
/-- digits without a needless 0 are the number's text -/
theorem db_dec {D : List Nat} (h : Nm 10 D) (h0 : 0 < val 10 D) : (db D).reverse = Lib.decDigits (val 10 D) := by
  obtain ⟨h1, h2⟩ := db_val D h.1
  have hne : 0 < D.length := by
    rcases Nat.eq_zero_or_pos D.length with e | e
    · rw [List.eq_nil_of_length_eq_zero e] at h0; simp [val] at h0
    · exact e
  rw [← h1]
  refine (dec_val _ _ rfl h2 ⟨fun e => ?_, fun e => ?_⟩).symm
  · have := congrArg List.length e
    rw [List.length_reverse, db_len, List.length_nil] at this; omega
  · exfalso
    have hl := h.last hne
    rw [List.head?_reverse, List.getLast?_eq_getElem?, db_len, List.getElem?_eq_getElem (by rw [db_len]; omega)] at e
    injection e with e
    simp only [db, List.getElem_map] at e
    have hd : D[D.length - 1] < 10 := h.1 _ (List.getElem_mem _)
    have := u8_dig hd
    rw [e] at this
    have h4 : (48 : UInt8).toNat = 48 := rfl
    omega
/-- one more digit of a group -/
theorem txt_step {D : List Nat} {k n q V : Nat} (hk : k < 9) (h : val 10 D + 10 ^ D.length * (n + 10 ^ (9 - k) * q) = V) : val 10 (D ++ [n % 10]) + 10 ^ (D ++ [n % 10]).length * (n / 10 + 10 ^ (9 - (k + 1)) * q) = V := by
  rw [val_snoc, List.length_append, List.length_singleton, ← h, Nat.pow_succ, show 9 - k = (9 - (k + 1)) + 1 by omega, Nat.pow_succ]
  generalize 10 ^ (9 - (k + 1)) = T
  have h1 := Nat.mod_add_div n 10
  have e : n + T * 10 * q = n % 10 + 10 * (n / 10 + T * q) := by
    rw [Nat.mul_add, ← Nat.add_assoc, h1, Nat.mul_comm T 10, Nat.mul_assoc]
  rw [e, Nat.mul_add (10 ^ D.length) (n % 10), Nat.mul_assoc (10 ^ D.length) 10]
  omega
theorem txt_lt {k n : Nat} (hk : k < 9) (h : n < 10 ^ (9 - k)) : n / 10 < 10 ^ (9 - (k + 1)) := by
  rw [show 9 - k = (9 - (k + 1)) + 1 by omega, Nat.pow_succ] at h
  exact (Nat.div_lt_iff_lt_mul (by omega)).2 h
/-- a list that is being turned round: k at either end are done -/
def revK {α : Type} (l : List α) (k : Nat) : List α := l.reverse.take k ++ (l.drop k).take (l.length - 2 * k) ++ l.reverse.drop (l.length - k)
theorem revK_len {α : Type} (l : List α) (k : Nat) (hk : 2 * k ≤ l.length) : (revK l k).length = l.length := by
  simp [revK]; omega
theorem revK_zero {α : Type} (l : List α) : revK l 0 = l := by
  unfold revK; rw [List.drop_of_length_le (show l.reverse.length ≤ l.length - 0 by simp)]; simp
theorem revK_at {α : Type} (l : List α) (k j : Nat) (hk : 2 * k ≤ l.length) (hj : j < l.length) : (revK l k)[j]? = if j < k ∨ l.length - k ≤ j then l.reverse[j]? else l[j]? := by
  unfold revK
  by_cases h1 : j < k
  · rw [if_pos (.inl h1), List.append_assoc, List.getElem?_append_left (by simp; omega), List.getElem?_take_of_lt h1]
  · by_cases h2 : l.length - k ≤ j
    · rw [if_pos (.inr h2), List.getElem?_append_right (by simp; omega), List.getElem?_drop]
      congr 1
      simp; omega
    · rw [if_neg (by omega), List.append_assoc, List.getElem?_append_right (by simp; omega), List.getElem?_append_left (by simp; omega), List.getElem?_take_of_lt (by simp; omega), List.getElem?_drop]
      congr 1
      simp; omega
theorem revK_step {α : Type} (l : List α) (k : Nat) (hk : 2 * k + 1 < l.length) (x y : α) (hx : l[k]? = some x) (hy : l[l.length - 1 - k]? = some y) :
    ((revK l k).set k y).set (l.length - 1 - k) x = revK l (k + 1) := by
  apply List.ext_getElem?
  intro j
  by_cases hj : j < l.length
  · rw [revK_at l (k + 1) j (by omega) hj, List.getElem?_set, List.getElem?_set, revK_at l k j (by omega) hj]
    simp only [List.length_set, revK_len l k (by omega)]
    by_cases h1 : l.length - 1 - k = j
    · subst h1
      rw [if_pos rfl, if_pos (by omega), if_pos (by omega), List.getElem?_reverse (by omega), show l.length - 1 - (l.length - 1 - k) = k by omega, hx]
    · rw [if_neg h1]
      by_cases h2 : k = j
      · subst h2
        rw [if_pos rfl, if_pos (by omega), if_pos (by omega), List.getElem?_reverse (by omega), hy]
      · rw [if_neg h2]
        by_cases h3 : j < k ∨ l.length - k ≤ j
        · rw [if_pos h3, if_pos (by omega)]
        · rw [if_neg h3, if_neg (by omega)]
  · rw [List.getElem?_eq_none (by simp [revK_len l k (show 2 * k ≤ l.length by omega)]; omega), List.getElem?_eq_none (by rw [revK_len l (k + 1) (by omega)]; omega)]
theorem revK_done {α : Type} (l : List α) (k : Nat) (h1 : 2 * k ≤ l.length) (h2 : l.length ≤ 2 * k + 1) : revK l k = l.reverse := by
  apply List.ext_getElem?
  intro j
  by_cases hj : j < l.length
  · rw [revK_at l k j h1 hj]
    split
    · rfl
    · have : j = k := by omega
      subst this
      rw [List.getElem?_reverse (by omega)]
      congr 1; omega
  · rw [List.getElem?_eq_none (by rw [revK_len l k h1]; omega), List.getElem?_eq_none (by simp; omega)]
/-- the digits of a group that is read -/
theorem grp_step {l : List UInt8} {i c : Nat} (hi : i < l.length) (h : valD (l.take i) = c) : valD (l.take (i + 1)) = 10 * c + (l[i].toNat - 48) := by
  rw [List.take_succ_eq_append_getElem hi, valD_snoc, h, Nat.mul_comm]
/-- a digit of a number that is multiplied in its place -/
theorem sca_step {B V : Nat} {a o : List Nat} {i c s : Nat} (hi : i < o.length) (hd : o.drop i = a.drop i) (h : val B (o.take i) + B ^ i * c = val B (a.take i) * s + V) :
    val B ((o.set i ((c + s * a.getD i 0) % B)).take (i + 1)) + B ^ (i + 1) * ((c + s * a.getD i 0) / B) = val B (a.take (i + 1)) * s + V ∧ (o.set i ((c + s * a.getD i 0) % B)).drop (i + 1) = a.drop (i + 1) := by
  refine ⟨?_, ?_⟩
  · rw [val_take_succ, val_take_succ, List.take_set_of_le (Nat.le_refl i)]
    have e : (o.set i ((c + s * a.getD i 0) % B)).getD i 0 = (c + s * a.getD i 0) % B := by rw [List.getD_eq_getElem?_getD, List.getElem?_set_self hi]; rfl
    rw [e]
    have h2 := pow_mul_split (B := B) i (c + s * a.getD i 0)
    rw [Nat.mul_add] at h2
    rw [Nat.add_mul, Nat.mul_assoc, Nat.mul_comm (a.getD i 0) s]
    omega
  · rw [List.drop_set_of_lt (by omega), ← List.drop_drop, ← List.drop_drop, hd]
end Go.Dw
