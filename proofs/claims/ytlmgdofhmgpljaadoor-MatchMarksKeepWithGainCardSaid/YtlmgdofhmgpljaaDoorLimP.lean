/- Plain: numbers as limbs of four digits (the reference's way). -/
import Derived.Test.YtlmgdofhmgpljaaDoorNatT
namespace Go.Dw
open Go.RowKit

theorem Nm.of_ge {B : Nat} {l : List Nat} (hB : 0 < B) (h : Ds B l) (hv : 0 < l.length → B ^ (l.length - 1) ≤ val B l) : Nm B l := by
  refine Nm.mk' h fun hl => ?_
  have h1 := hv hl
  have h2 := val_take_succ (B := B) l (l.length - 1)
  rw [show l.length - 1 + 1 = l.length by omega, List.take_length, List.getD_eq_getElem?_getD, List.getElem?_eq_getElem (by omega)] at h2
  have h3 := val_lt hB (h.take (l.length - 1))
  rw [List.length_take, Nat.min_eq_left (by omega)] at h3
  simp only [Option.getD_some] at h2
  rcases Nat.eq_zero_or_pos l[l.length - 1] with h0 | h0
  · rw [h0, Nat.mul_zero] at h2; omega
  · exact h0
/-- the reference's base -/
def L4 : Nat := 10000
/-- limbs as cells -/
def nc (l : List Nat) : List Value := l.map fun d => Value.int .i64 (d : Nat)
theorem nc_length (l : List Nat) : (nc l).length = l.length := by simp [nc]
theorem nc_at (l : List Nat) (k : Nat) (h : k < l.length) : (nc l)[k]? = some (.int .i64 (l.getD k 0 : Nat)) := by
  simp [nc, List.getD_eq_getElem?_getD, h]
theorem nc_append (a b : List Nat) : nc (a ++ b) = nc a ++ nc b := by simp [nc]
theorem nc_set (l : List Nat) (i d : Nat) : nc (l.set i d) = (nc l).set i (.int .i64 (d : Nat)) := by simp [nc, List.map_set]
/-- the value reads, by limbs, as the natural number n -/
def LimV (w : World) (v : Value) (n : Nat) : Prop := ∃ A c l, v = .slice A l.length c ∧ Rd w A (nc l) ∧ Nm L4 l ∧ val L4 l = n
theorem LimV.below {w w' : World} {v : Value} {n : Nat} (h : LimV w v n) (hb : Below w.heap.size w w') : LimV w' v n := by
  obtain ⟨A, c, l, e, h, k⟩ := h
  exact ⟨A, c, l, e, h.below hb, k⟩
theorem w32_le (k : Nat) : W32 ^ k ≤ L4 ^ (3 * k) := by
  rw [Nat.pow_mul]; exact Nat.pow_le_pow_left (by decide) k
theorem Lim.len4 {k : Nat} {l : List Nat} (h : Nm L4 l) (hk : Lim k (val L4 l)) : l.length ≤ 3 * k :=
  h.len_le (by decide) (Nat.lt_of_lt_of_le hk (w32_le k))
theorem zero4 (k : Nat) (y : List UInt8) : valD (List.replicate k 48 ++ y) = valD y := by
  rw [valD_app _ _ y rfl]
  have : valD (List.replicate k 48) = 0 := by
    induction k with
    | zero => rfl
    | succ k ih => rw [List.replicate_succ', valD_snoc, ih]; rfl
  rw [this]; omega
/-- a limb as four digits -/
def pad4 (x : Nat) : List UInt8 := List.replicate (4 - (Lib.decDigits x).length) 48 ++ Lib.decDigits x
theorem pad4_facts {x : Nat} (h : x < 10000) : (pad4 x).length = 4 ∧ valD (pad4 x) = x ∧ (pad4 x).all isD = true := by
  obtain ⟨h1, h2, h3, h4⟩ := dec_facts x
  have hl := dec_len 4 x (by omega) (by simpa using h)
  unfold pad4
  refine ⟨by simp; omega, by rw [zero4, h2], ?_⟩
  rw [List.all_append, h1, Bool.and_true, List.all_eq_true]
  intro b hb
  rw [List.eq_of_mem_replicate hb]; rfl
/-- the text of limbs from k on -/
def txt4 (l : List Nat) : List UInt8 := match l.reverse with | [] => [48] | t :: r => Lib.decDigits t ++ r.flatMap pad4
theorem flat4 : ∀ (r : List Nat), Ds L4 r → (r.flatMap pad4).length = 4 * r.length ∧ valD (r.flatMap pad4) = val L4 r.reverse ∧ (r.flatMap pad4).all isD = true
  | [], _ => ⟨rfl, rfl, rfl⟩
  | d :: r, h => by
    obtain ⟨h1, h2, h3⟩ := flat4 r (fun x hx => h x (by simp [hx]))
    obtain ⟨g1, g2, g3⟩ := pad4_facts (x := d) (h d (by simp))
    rw [List.flatMap_cons, List.reverse_cons, List.length_append, h1, g1, List.length_cons, List.all_append, h3, g3, valD_app _ _ _ h1, val_snoc, h2, g2, List.length_reverse]
    refine ⟨by omega, ?_, rfl⟩
    have : L4 ^ r.length = 10 ^ (4 * r.length) := by rw [Nat.pow_mul]; rfl
    rw [this, Nat.mul_comm]; omega
theorem txt4_dec {l : List Nat} (h : Nm L4 l) : txt4 l = Lib.decDigits (val L4 l) := by
  unfold txt4
  cases hr : l.reverse with
  | nil =>
    have : l = [] := by simpa using hr
    subst this
    simp only [val]
    rw [Lib.decDigits, dif_pos (by omega)]; rfl
  | cons t r =>
    have hl : l = r.reverse ++ [t] := by rw [← List.reverse_reverse l, hr]; simp
    have ht : 0 < t := by
      have := h.last (by rw [hl]; simp)
      simpa [hl] using this
    have hD : Ds L4 r := fun x hx => h.1 x (by rw [hl]; simp [hx])
    obtain ⟨h1, h2, h3⟩ := flat4 r hD
    obtain ⟨d1, d2, d3, d4⟩ := dec_facts t
    simp only
    have e : valD (Lib.decDigits t ++ r.flatMap pad4) = val L4 l := by
      rw [valD_app _ _ _ h1, d2, h2, hl, val_snoc, List.length_reverse]
      have : L4 ^ r.length = 10 ^ (4 * r.length) := by rw [Nat.pow_mul]; rfl
      rw [this, Nat.mul_comm]; omega
    rw [← e]
    refine (dec_val _ _ rfl (by rw [List.all_append, d1, h3]; rfl) ⟨?_, fun e => ?_⟩).symm
    · intro e
      have := congrArg List.length e
      simp at this
      exact d3 (by rw [this.1]; rfl)
    · exfalso
      have : (Lib.decDigits t).head? = some 48 := by
        cases hd : Lib.decDigits t with
        | nil => rw [hd] at d3; simp at d3
        | cons x y => rw [hd] at e; simpa using e
      have := d4 this
      omega
/-- limbs of digits: what is done, and what is left -/
theorem lmb_step {out : List Nat} {s : List UInt8} {V : Nat} (h : val L4 out + L4 ^ out.length * valD s = V) :
    val L4 (out ++ [valD (s.drop (s.length - 4))]) + L4 ^ (out ++ [valD (s.drop (s.length - 4))]).length * valD (s.take (s.length - 4)) = V := by
  rw [val_snoc, List.length_append, List.length_singleton, Nat.pow_succ, Nat.mul_assoc, Nat.add_assoc, ← Nat.mul_add]
  have e : valD s = valD (s.drop (s.length - 4)) + L4 * valD (s.take (s.length - 4)) := by
    by_cases h4 : 4 ≤ s.length
    · conv => lhs; rw [← List.take_append_drop (s.length - 4) s]
      rw [valD_app _ 4 _ (by rw [List.length_drop]; omega)]
      have : L4 = 10 ^ 4 := rfl
      rw [this, Nat.mul_comm (10 ^ 4)]; omega
    · rw [show s.length - 4 = 0 by omega]; simp [valD]
  rw [← e, h]
theorem lmb_lt {s : List UInt8} (h : s.all isD = true) : valD (s.drop (s.length - 4)) < L4 := by
  have h1 := valD_lt (s.drop (s.length - 4)).length _ rfl (all_drop h _)
  have h2 : 10 ^ (s.drop (s.length - 4)).length ≤ 10 ^ 4 := Nat.pow_le_pow_right (by omega) (by rw [List.length_drop]; omega)
  have : L4 = 10 ^ 4 := rfl
  omega
end Go.Dw
