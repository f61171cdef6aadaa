/- Plain: natural numbers as digits, the lowest first. -/
import Derived.Test.YtlmgdofhmgpljaaDoorBase
namespace Go.Dw
open Go.RowKit

/-- the number of digits in base B, the lowest first -/
def val (B : Nat) : List Nat → Nat
  | [] => 0
  | d :: l => d + B * val B l
/-- digits in base B -/
def Ds (B : Nat) (l : List Nat) : Prop := ∀ d ∈ l, d < B
/-- digits without a needless 0 at the top -/
def Nm (B : Nat) (l : List Nat) : Prop := Ds B l ∧ l.getLast? ≠ some 0
section
variable {B : Nat}
theorem val_append : ∀ (a b : List Nat), val B (a ++ b) = val B a + B ^ a.length * val B b
  | [], b => by simp [val]
  | d :: a, b => by
    simp only [List.cons_append, val, List.length_cons]
    rw [val_append a b, Nat.mul_add, Nat.pow_succ, Nat.mul_comm (B ^ a.length) B, Nat.mul_assoc, Nat.add_assoc]
theorem Ds.nil : Ds B [] := by intro d h; simp at h
theorem Ds.app {a b : List Nat} (h : Ds B a) (k : Ds B b) : Ds B (a ++ b) := by
  intro d hd
  rcases List.mem_append.1 hd with e | e
  · exact h d e
  · exact k d e
theorem Ds.take {l : List Nat} (h : Ds B l) (n : Nat) : Ds B (l.take n) := fun d hd => h d (List.mem_of_mem_take hd)
theorem Ds.drop {l : List Nat} (h : Ds B l) (n : Nat) : Ds B (l.drop n) := fun d hd => h d (List.mem_of_mem_drop hd)
theorem Ds.get {l : List Nat} (h : Ds B l) (i : Nat) (hi : i < l.length) : l[i] < B := h _ (List.getElem_mem hi)
theorem Ds.getD {l : List Nat} (h : Ds B l) (hB : 0 < B) (i : Nat) : l.getD i 0 < B := by
  by_cases hi : i < l.length
  · rw [List.getD_eq_getElem?_getD, List.getElem?_eq_getElem hi]; exact h.get i hi
  · rw [List.getD_eq_getElem?_getD, List.getElem?_eq_none (by omega)]; exact hB
theorem Ds.set {l : List Nat} (h : Ds B l) (i d : Nat) (hd : d < B) : Ds B (l.set i d) := by
  intro x hx
  rcases List.mem_or_eq_of_mem_set hx with e | e
  · exact h x e
  · subst e; exact hd
theorem val_lt (hB : 0 < B) : ∀ {l : List Nat}, Ds B l → val B l < B ^ l.length
  | [], _ => by simp [val]
  | d :: l, h => by
    have h1 := val_lt hB (l := l) (fun x hx => h x (by simp [hx]))
    have h2 : d < B := h d (by simp)
    simp only [val, List.length_cons, Nat.pow_succ]
    have h3 : val B l + 1 ≤ B ^ l.length := h1
    have h4 := Nat.mul_le_mul_left B h3
    rw [Nat.mul_comm (B ^ l.length) B]
    rw [Nat.mul_add] at h4
    omega
theorem val_zeros : ∀ n : Nat, val B (List.replicate n 0) = 0
  | 0 => rfl
  | n + 1 => by rw [List.replicate_succ, val, val_zeros n]; simp
theorem val_snoc (l : List Nat) (d : Nat) : val B (l ++ [d]) = val B l + B ^ l.length * d := by
  rw [val_append]; simp [val]
theorem val_take_succ (l : List Nat) (i : Nat) : val B (l.take (i + 1)) = val B (l.take i) + B ^ i * l.getD i 0 := by
  by_cases hi : i < l.length
  · rw [List.take_succ_eq_append_getElem hi, val_snoc, List.length_take, Nat.min_eq_left (Nat.le_of_lt hi), List.getD_eq_getElem?_getD, List.getElem?_eq_getElem hi]; rfl
  · rw [List.take_of_length_le (by omega), List.take_of_length_le (by omega), List.getD_eq_getElem?_getD, List.getElem?_eq_none (by omega)]; simp
theorem val_split (l : List Nat) (i : Nat) : val B l = val B (l.take i) + B ^ (min i l.length) * val B (l.drop i) := by
  conv => lhs; rw [← List.take_append_drop i l]
  rw [val_append, List.length_take]
theorem Nm.nil : Nm B [] := ⟨Ds.nil, by simp⟩
theorem Nm.last {l : List Nat} (h : Nm B l) (h0 : 0 < l.length) : 0 < l[l.length - 1] := by
  have h1 := h.2
  rw [List.getLast?_eq_getElem?, List.getElem?_eq_getElem (by omega)] at h1
  have h2 : l[l.length - 1] ≠ 0 := fun e => h1 (by rw [e])
  omega
theorem Nm.mk' {l : List Nat} (h : Ds B l) (h0 : ∀ hl : 0 < l.length, 0 < l[l.length - 1]) : Nm B l := by
  refine ⟨h, fun e => ?_⟩
  rw [List.getLast?_eq_getElem?] at e
  by_cases hl : 0 < l.length
  · rw [List.getElem?_eq_getElem (by omega)] at e
    have := h0 hl
    injection e with e
    omega
  · rw [List.getElem?_eq_none (by omega)] at e; cases e
theorem val_ge {l : List Nat} (h : Nm B l) (h0 : 0 < l.length) : B ^ (l.length - 1) ≤ val B l := by
  have h1 := h.last h0
  have h2 := val_take_succ (B := B) l (l.length - 1)
  rw [show l.length - 1 + 1 = l.length by omega, List.take_length, List.getD_eq_getElem?_getD, List.getElem?_eq_getElem (by omega)] at h2
  rw [h2]
  have h3 := Nat.mul_le_mul_left (B ^ (l.length - 1)) h1
  simp only [Option.getD_some]
  omega
theorem Nm.pos {l : List Nat} (hB : 0 < B) (h : Nm B l) (h0 : 0 < l.length) : 0 < val B l :=
  Nat.lt_of_lt_of_le (Nat.pow_pos hB) (val_ge h h0)
theorem Nm.zero_iff {l : List Nat} (hB : 0 < B) (h : Nm B l) : val B l = 0 ↔ l = [] := by
  constructor
  · intro e
    rcases Nat.eq_zero_or_pos l.length with h0 | h0
    · exact List.eq_nil_of_length_eq_zero h0
    · have := h.pos hB h0; omega
  · rintro rfl; rfl
/-- fewer digits, a lesser number -/
theorem Nm.lt_of_len {a b : List Nat} (hB : 1 < B) (ha : Ds B a) (hb : Nm B b) (h : a.length < b.length) : val B a < val B b := by
  have h1 := val_lt (by omega) ha
  have h2 := val_ge hb (by omega)
  have h3 : B ^ a.length ≤ B ^ (b.length - 1) := Nat.pow_le_pow_right (by omega) (by omega)
  omega
theorem Nm.len_le {l : List Nat} {k : Nat} (hB : 1 < B) (h : Nm B l) (hk : val B l < B ^ k) : l.length ≤ k := by
  rcases Nat.lt_or_ge k l.length with h0 | h0
  · have h1 := val_ge h (by omega)
    have h2 : B ^ k ≤ B ^ (l.length - 1) := Nat.pow_le_pow_right (by omega) (by omega)
    omega
  · exact h0
/-- two lists that agree from a place on, and differ there -/
theorem val_lt_at {a b : List Nat} (hB : 0 < B) (hl : a.length = b.length) (ha : Ds B a) {i : Nat} (hi : i < a.length) (hd : a.drop (i + 1) = b.drop (i + 1)) (hlt : a.getD i 0 < b.getD i 0) : val B a < val B b := by
  rw [val_split a (i + 1), val_split b (i + 1), hd, ← hl]
  refine Nat.add_lt_add_right ?_ _
  rw [val_take_succ, val_take_succ]
  have h1 := val_lt hB (ha.take i)
  rw [List.length_take, Nat.min_eq_left (by omega)] at h1
  have h2 : a.getD i 0 + 1 ≤ b.getD i 0 := hlt
  have h3 := Nat.mul_le_mul_left (B ^ i) h2
  rw [Nat.mul_add] at h3
  omega
theorem Nm.inj {a b : List Nat} (hB : 1 < B) (ha : Nm B a) (hb : Nm B b) (h : val B a = val B b) : a = b := by
  have hl : a.length = b.length := by
    rcases Nat.lt_trichotomy a.length b.length with h1 | h1 | h1
    · have := Nm.lt_of_len hB ha.1 hb h1; omega
    · exact h1
    · have := Nm.lt_of_len hB hb.1 ha h1; omega
  have key : ∀ n, n ≤ a.length → a.drop (a.length - n) = b.drop (a.length - n) := by
    intro n
    induction n with
    | zero => intro _; rw [List.drop_of_length_le (by omega), List.drop_of_length_le (by omega)]
    | succ n ih =>
      intro hn
      have e := ih (by omega)
      have h1 : a.length - (n + 1) < a.length := by omega
      have e1 : a.length - (n + 1) + 1 = a.length - n := by omega
      have hg : a.getD (a.length - (n + 1)) 0 = b.getD (a.length - (n + 1)) 0 := by
        rcases Nat.lt_trichotomy (a.getD (a.length - (n + 1)) 0) (b.getD (a.length - (n + 1)) 0) with h2 | h2 | h2
        · have := val_lt_at (by omega) hl ha.1 h1 (by rw [e1]; exact e) h2; omega
        · exact h2
        · have := val_lt_at (by omega) hl.symm hb.1 (by omega) (by rw [e1]; exact e.symm) h2; omega
      have h1b : a.length - (n + 1) < b.length := by omega
      rw [List.getD_eq_getElem?_getD, List.getD_eq_getElem?_getD, List.getElem?_eq_getElem h1, List.getElem?_eq_getElem h1b] at hg
      rw [List.drop_eq_getElem_cons h1, List.drop_eq_getElem_cons h1b, e1, e]
      simp only [Option.getD_some] at hg
      rw [hg]
  have := key a.length (Nat.le_refl _)
  simpa using this
/-- without the zeros at the top -/
def trimL : List Nat → List Nat
  | [] => []
  | d :: l => if trimL l = [] ∧ d = 0 then [] else d :: trimL l
theorem trimL_val : ∀ l : List Nat, val B (trimL l) = val B l
  | [] => rfl
  | d :: l => by
    have ih := trimL_val l
    rw [trimL]
    split
    · rename_i h
      rw [h.1] at ih
      have h0 : val B l = 0 := ih.symm
      simp [val, h0, h.2]
    · rw [val, val, ih]
theorem trimL_nm : ∀ {l : List Nat}, Ds B l → Nm B (trimL l)
  | [], _ => Nm.nil
  | d :: l, h => by
    have ih := trimL_nm (l := l) (fun x hx => h x (by simp [hx]))
    rw [trimL]
    split
    · exact Nm.nil
    · rename_i hn
      refine ⟨fun x hx => ?_, ?_⟩
      · rcases List.mem_cons.1 hx with e | e
        · subst e; exact h _ (by simp)
        · exact ih.1 x e
      · by_cases he : trimL l = []
        · rw [he]
          have : d ≠ 0 := fun e => hn ⟨he, e⟩
          simpa using this
        · have h2 := ih.2
          cases ht : trimL l with
          | nil => exact absurd ht he
          | cons x t => rw [ht] at h2; rw [List.getLast?_cons_cons]; exact h2
theorem trimL_len (l : List Nat) : (trimL l).length ≤ l.length := by
  induction l with
  | nil => simp [trimL]
  | cons d l ih => rw [trimL]; split <;> simp <;> omega
theorem trimL_snoc0 (l : List Nat) : trimL (l ++ [0]) = trimL l := by
  induction l with
  | nil => simp [trimL]
  | cons d l ih => rw [List.cons_append, trimL, trimL, ih]
theorem trimL_id {l : List Nat} (h : Nm B l) (hB : 1 < B) : trimL l = l := Nm.inj hB (trimL_nm h.1) h (trimL_val l)
theorem trimL_nonzero (l : List Nat) (d : Nat) (hd : d ≠ 0) : trimL (l ++ [d]) = l ++ [d] := by
  induction l with
  | nil => simp [trimL, hd]
  | cons x l ih => rw [List.cons_append, trimL, ih, if_neg (by simp)]
theorem trimL_prefix : ∀ l : List Nat, trimL l = l.take (trimL l).length
  | [] => rfl
  | d :: l => by
    rw [trimL]
    split
    · simp
    · rw [List.length_cons, List.take_succ_cons, ← trimL_prefix l]
end
/-- the base of the program's words -/
def W32 : Nat := 4294967296
/-- words as cells -/
def uc (l : List Nat) : List Value := l.map fun d => Value.int .u32 (d : Nat)
theorem uc_length (l : List Nat) : (uc l).length = l.length := by simp [uc]
theorem uc_at (l : List Nat) (k : Nat) (h : k < l.length) : (uc l)[k]? = some (.int .u32 (l.getD k 0 : Nat)) := by
  simp [uc, List.getD_eq_getElem?_getD, h]
theorem uc_append (a b : List Nat) : uc (a ++ b) = uc a ++ uc b := by simp [uc]
theorem uc_set (l : List Nat) (i d : Nat) : uc (l.set i d) = (uc l).set i (.int .u32 (d : Nat)) := by simp [uc, List.map_set]
/-- the value reads as the natural number n -/
def NatV (w : World) (v : Value) (n : Nat) : Prop := ∃ A c l, v = .slice A l.length c ∧ Rd w A (uc l) ∧ Nm W32 l ∧ val W32 l = n
theorem NatV.below {w w' : World} {v : Value} {n : Nat} (h : NatV w v n) (hb : Below w.heap.size w w') : NatV w' v n := by
  obtain ⟨A, c, l, e, h, k⟩ := h
  exact ⟨A, c, l, e, h.below hb, k⟩
/-- less than the k-th power of the base -/
def Lim (k n : Nat) : Prop := n < W32 ^ k
theorem Lim.mono {k m n : Nat} (h : Lim k n) (hk : k ≤ m) : Lim m n := Nat.lt_of_lt_of_le h (Nat.pow_le_pow_right (by decide) hk)
theorem Lim.le {k m n : Nat} (h : Lim k n) (hm : m ≤ n) : Lim k m := Nat.lt_of_le_of_lt hm h
theorem Lim.len {k : Nat} {l : List Nat} (h : Nm W32 l) (hk : Lim k (val W32 l)) : l.length ≤ k := h.len_le (by decide) hk
theorem Lim.of_len {l : List Nat} (h : Ds W32 l) : Lim l.length (val W32 l) := val_lt (by decide) h
theorem Lim.mul {j k m n : Nat} (h : Lim j m) (g : Lim k n) : Lim (j + k) (m * n) := by
  unfold Lim at *
  rw [Nat.pow_add]
  exact Nat.mul_lt_mul'' h g
theorem Lim.add {j k m n : Nat} (h : Lim j m) (g : Lim k n) : Lim (max j k + 1) (m + n) := by
  have h1 := h.mono (Nat.le_max_left j k)
  have g1 := g.mono (Nat.le_max_right j k)
  unfold Lim at *
  rw [Nat.pow_succ]
  have : 2 * W32 ^ (max j k) ≤ W32 ^ (max j k) * W32 := by rw [Nat.mul_comm]; exact Nat.mul_le_mul_left _ (by decide)
  omega
end Go.Dw
