/- Plain: the steps of sums, differences, products and quotients by digits. -/
import Derived.Test.YtlmgdofhmgpljaaDoorNatP
namespace Go.Dw
open Go.RowKit
section
variable {B : Nat}
theorem fill_set {α : Type} (p : List α) (m : Nat) (z d : α) : (p ++ List.replicate (m + 1) z).set p.length d = p ++ [d] ++ List.replicate m z := by
  rw [List.set_append_right _ _ (Nat.le_refl _), Nat.sub_self, List.replicate_succ, List.set_cons_zero, List.append_assoc, List.singleton_append]
theorem val_set : ∀ (o : List Nat) (k d : Nat), k < o.length → val B (o.set k d) + B ^ k * o.getD k 0 = val B o + B ^ k * d
  | [], k, d, h => by simp at h
  | x :: o, 0, d, _ => by simp [val]; omega
  | x :: o, k + 1, d, h => by
    have ih := val_set o k d (by simpa using h)
    simp only [List.set_cons_succ, val, List.getD_cons_succ, Nat.pow_succ]
    rw [Nat.mul_comm (B ^ k) B, Nat.mul_assoc, Nat.mul_assoc, Nat.add_assoc, Nat.add_assoc, ← Nat.mul_add, ← Nat.mul_add, ih]
theorem pow_mul_split (i s : Nat) : B ^ i * (s % B) + B ^ (i + 1) * (s / B) = B ^ i * s := by
  rw [Nat.pow_succ, Nat.mul_assoc, ← Nat.mul_add, Nat.mod_add_div]
/-- a digit of a sum -/
theorem add_step {a b p : List Nat} {i c : Nat} (hp : p.length = i) (h : val B p + B ^ i * c = val B (a.take i) + val B (b.take i)) :
    val B (p ++ [(c + a.getD i 0 + b.getD i 0) % B]) + B ^ (i + 1) * ((c + a.getD i 0 + b.getD i 0) / B) = val B (a.take (i + 1)) + val B (b.take (i + 1)) := by
  rw [val_snoc, hp, Nat.add_assoc, pow_mul_split, val_take_succ, val_take_succ, Nat.mul_add, Nat.mul_add]
  omega
theorem carry_le {a b : List Nat} {i c : Nat} (hB : 0 < B) (ha : Ds B a) (hb : Ds B b) (hc : c ≤ 1) : c + a.getD i 0 + b.getD i 0 < 2 * B ∧ (c + a.getD i 0 + b.getD i 0) / B ≤ 1 := by
  have h1 := ha.getD hB i
  have h2 := hb.getD hB i
  refine ⟨by omega, ?_⟩
  have : (c + a.getD i 0 + b.getD i 0) / B < 2 := Nat.div_lt_of_lt_mul (by rw [Nat.mul_comm]; omega)
  omega
/-- a digit of a difference: c is what is owed -/
theorem sub_step {a b p : List Nat} {i c d c' : Nat} (hp : p.length = i) (h : val B p + val B (b.take i) = val B (a.take i) + B ^ i * c)
    (hd : d + b.getD i 0 + c = a.getD i 0 + B * c') :
    val B (p ++ [d]) + val B (b.take (i + 1)) = val B (a.take (i + 1)) + B ^ (i + 1) * c' := by
  rw [val_snoc, hp, val_take_succ, val_take_succ, Nat.pow_succ, Nat.mul_assoc]
  have := congrArg (B ^ i * ·) hd
  simp only [Nat.mul_add] at this
  omega
/-- one more digit of a row of a product -/
theorem mul_step {a b o : List Nat} {i j c V : Nat} (hk : i + j < o.length) (h : val B o + B ^ (i + j) * c = V + B ^ i * (a.getD i 0 * val B (b.take j))) :
    val B (o.set (i + j) ((c + (a.getD i 0 * b.getD j 0 + o.getD (i + j) 0)) % B)) + B ^ (i + j + 1) * ((c + (a.getD i 0 * b.getD j 0 + o.getD (i + j) 0)) / B) = V + B ^ i * (a.getD i 0 * val B (b.take (j + 1))) := by
  have h3 : B ^ i * (a.getD i 0 * (B ^ j * b.getD j 0)) = B ^ (i + j) * (a.getD i 0 * b.getD j 0) := by
    rw [Nat.pow_add, Nat.mul_left_comm (a.getD i 0), ← Nat.mul_assoc]
  generalize hs : c + (a.getD i 0 * b.getD j 0 + o.getD (i + j) 0) = s
  have h1 := val_set (B := B) o (i + j) (s % B) hk
  have h2 := pow_mul_split (B := B) (i + j) s
  have h4 : B ^ (i + j) * s = B ^ (i + j) * c + (B ^ (i + j) * (a.getD i 0 * b.getD j 0) + B ^ (i + j) * o.getD (i + j) 0) := by rw [← hs, Nat.mul_add, Nat.mul_add]
  rw [val_take_succ, Nat.mul_add, Nat.mul_add, h3]
  omega
theorem mul_bd {B x y c o : Nat} (hx : x < B) (hy : y < B) (hc : c < B) (ho : o < B) : c + (x * y + o) < B * B ∧ (c + (x * y + o)) / B < B := by
  have h1 : x * y ≤ (B - 1) * (B - 1) := Nat.mul_le_mul (by omega) (by omega)
  have h2 : (B - 1) * (B - 1) + (B - 1) + (B - 1) < B * B := by
    obtain ⟨k, rfl⟩ : ∃ k, B = k + 1 := ⟨B - 1, by omega⟩
    simp only [Nat.add_sub_cancel]
    rw [Nat.add_mul, Nat.mul_add]; omega
  have h3 : c + (x * y + o) < B * B := by omega
  exact ⟨h3, Nat.div_lt_of_lt_mul h3⟩
/-- the row's last digit -/
theorem mul_last {a b o : List Nat} {i c V : Nat} (hk : i + b.length < o.length) (h0 : o.getD (i + b.length) 0 = 0)
    (h : val B o + B ^ (i + b.length) * c = V + B ^ i * (a.getD i 0 * val B (b.take b.length))) :
    val B (o.set (i + b.length) c) = V + B ^ i * (a.getD i 0 * val B b) := by
  have h1 := val_set (B := B) o (i + b.length) c hk
  rw [h0, List.take_length] at *
  omega
theorem mul_row {a b : List Nat} {i V : Nat} (h : V = val B (a.take i) * val B b) : V + B ^ i * (a.getD i 0 * val B b) = val B (a.take (i + 1)) * val B b := by
  rw [val_take_succ, Nat.add_mul, h, Nat.mul_assoc]
theorem mul_end {a b o : List Nat} {i c : Nat} (hk : i + b.length < o.length) (h0 : o.getD (i + b.length) 0 = 0)
    (h : val B o + B ^ (i + b.length) * c = val B (a.take i) * val B b + B ^ i * (a.getD i 0 * val B (b.take b.length))) :
    val B (o.set (i + b.length) c) + B ^ (i + 1 + 0) * 0 = val B (a.take (i + 1)) * val B b + B ^ (i + 1) * (a.getD (i + 1) 0 * val B (b.take 0)) := by
  rw [mul_last hk h0 h, mul_row rfl]; simp [val]
/-- a digit of a quotient by one word, from the top -/
theorem word_step {a q : List Nat} {i r b : Nat} (hi : i < a.length) (hq : val B (a.drop (i + 1)) = val B q * b + r) :
    val B (a.drop i) = val B ((r * B + a.getD i 0) / b :: q) * b + (r * B + a.getD i 0) % b := by
  rw [List.drop_eq_getElem_cons hi, val, hq, val, List.getD_eq_getElem?_getD, List.getElem?_eq_getElem hi]
  simp only [Option.getD_some]
  have h1 := Nat.div_add_mod (r * B + a[i]) b
  rw [Nat.add_mul, Nat.mul_comm ((r * B + a[i]) / b) b, Nat.mul_add, Nat.mul_comm r B] at *
  rw [Nat.mul_assoc]
  omega
theorem word_bd {B r b x : Nat} (hr : r < b) (hx : x < B) : (r * B + x) / b < B := by
  refine Nat.div_lt_of_lt_mul ?_
  have : (r + 1) * B ≤ b * B := Nat.mul_le_mul_right B hr
  rw [Nat.add_mul] at this
  omega
/-- what is left of a word's quotient: q, then r -/
theorem word_done {V q b r : Nat} (h : V = q * b + r) (hr : r < b) : V / b = q ∧ V % b = r := by
  subst h
  refine ⟨?_, ?_⟩
  · rw [Nat.mul_comm, Nat.mul_add_div (by omega), Nat.div_eq_of_lt hr, Nat.add_zero]
  · rw [Nat.mul_comm, Nat.mul_add_mod, Nat.mod_eq_of_lt hr]
/-- a digit of a shifted number -/
theorem left_step {a p : List Nat} {i c m : Nat} (hp : p.length = i) (h : val B p + B ^ i * c = val B (a.take i) * m) :
    val B (p ++ [(a.getD i 0 * m + c) % B]) + B ^ (i + 1) * ((a.getD i 0 * m + c) / B) = val B (a.take (i + 1)) * m := by
  rw [val_snoc, hp, Nat.add_assoc, pow_mul_split, val_take_succ, Nat.add_mul, Nat.mul_add, ← h, Nat.mul_assoc]
  omega
/-- the estimate of a digit is not too small -/
theorem est_ge {n U V top t : Nat} (ht : 0 < t) (hU : U < (top + 1) * B ^ n) (hV : t * B ^ n ≤ V) (hB : 0 < B) : U / V ≤ top / t := by
  have hp : 0 < B ^ n := Nat.pow_pos hB
  have hV0 : 0 < V := Nat.lt_of_lt_of_le (Nat.mul_pos ht hp) hV
  have h1 : U / V * V ≤ U := Nat.div_mul_le_self U V
  have h2 : U / V * (t * B ^ n) ≤ U / V * V := Nat.mul_le_mul_left _ hV
  have h3 : (U / V * t) * B ^ n < (top + 1) * B ^ n := by rw [Nat.mul_assoc]; omega
  have h4 : U / V * t < top + 1 := Nat.lt_of_mul_lt_mul_right h3
  exact (Nat.le_div_iff_mul_le ht).2 (by omega)
/-- a digit of u - q * v: C is the carry of the product, c what is owed -/
theorem dif_step {u v p : List Nat} {i q C c d c' : Nat} (hp : p.length = i) (h : val B p + q * val B (v.take i) = val B (u.take i) + B ^ i * (c + C))
    (hd : d + (C + q * v.getD i 0) % B + c = u.getD i 0 + B * c') :
    val B (p ++ [d]) + q * val B (v.take (i + 1)) = val B (u.take (i + 1)) + B ^ (i + 1) * (c' + (C + q * v.getD i 0) / B) := by
  rw [val_snoc, hp, val_take_succ, val_take_succ]
  have h2 := pow_mul_split (B := B) i (C + q * v.getD i 0)
  have h3 := congrArg (B ^ i * ·) hd
  simp only [Nat.mul_add] at h3 h2 h ⊢
  have h4 : B ^ (i + 1) * c' = B ^ i * (B * c') := by rw [Nat.pow_succ, Nat.mul_assoc]
  rw [Nat.mul_left_comm q, h4]
  omega
end
end Go.Dw
