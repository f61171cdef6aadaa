/- Plain: the reference's division: a digit by halving, and the next limb. -/
import Derived.Test.YtlmgdofhmgpljaaDoorLimP
namespace Go.Dw
open Go.RowKit

/-- the digit lies from lo to hi -/
def DI (b r lo hi : Nat) : Prop := b * lo ≤ r ∧ r < b * (hi + 1)
theorem DI.start {b r B : Nat} (hB : 0 < B) (h : r < b * B) : DI b r 0 (B - 1) := ⟨by omega, by rw [show B - 1 + 1 = B by omega]; exact h⟩
theorem DI.low {b r lo hi m : Nat} (h : DI b r lo hi) (hm : b * m ≤ r) : DI b r m hi := ⟨hm, h.2⟩
theorem DI.high {b r lo hi m : Nat} (h : DI b r lo hi) (h0 : 0 < m) (hm : ¬ b * m ≤ r) : DI b r lo (m - 1) := ⟨h.1, by rw [show m - 1 + 1 = m by omega]; omega⟩
theorem DI.end {b r n : Nat} (h : DI b r n n) : r / b = n ∧ r - b * n = r % b := by
  have hb : 0 < b := by
    rcases Nat.eq_zero_or_pos b with e | e
    · subst e; have := h.2; omega
    · exact e
  have h1 : r / b = n := by
    apply Nat.le_antisymm
    · exact Nat.le_of_lt_succ ((Nat.div_lt_iff_lt_mul hb).2 (by rw [Nat.mul_comm]; exact h.2))
    · exact (Nat.le_div_iff_mul_le hb).2 (by rw [Nat.mul_comm]; exact h.1)
  refine ⟨h1, ?_⟩
  have := Nat.div_add_mod r b
  rw [h1] at this
  omega
theorem mid_lt {lo hi : Nat} (h : lo < hi) : lo < (lo + hi + 1) / 2 ∧ (lo + hi + 1) / 2 ≤ hi := by omega
/-- the next limb: what is left, and the quotient -/
theorem dv_step {B : Nat} {a : List Nat} {i Q R b : Nat} (hi : i < a.length) (h : val B (a.drop (i + 1)) = Q * b + R) :
    val B (a.drop i) = ((a.getD i 0 + B * R) / b + B * Q) * b + (a.getD i 0 + B * R) % b := by
  rw [List.drop_eq_getElem_cons hi, val, h, List.getD_eq_getElem?_getD, List.getElem?_eq_getElem hi]
  simp only [Option.getD_some]
  have e := Nat.div_add_mod (a[i] + B * R) b
  rw [Nat.add_mul, Nat.mul_add, Nat.mul_comm ((a[i] + B * R) / b) b, ← Nat.mul_assoc]
  omega
theorem dv_lt {B : Nat} {a : List Nat} {i R b : Nat} (hB : 0 < B) (ha : Ds B a) (hR : R < b) : a.getD i 0 + B * R < b * B := by
  have h1 := ha.getD hB i
  have h2 : B * (R + 1) ≤ B * b := Nat.mul_le_mul_left B hR
  rw [Nat.mul_add, Nat.mul_one] at h2
  rw [Nat.mul_comm b B]
  omega
/-- the quotient's limbs, from the top -/
theorem dv_val {B : Nat} {o : List Nat} {i q Q : Nat} (hi : i < o.length) (h : val B (o.drop (i + 1)) = Q) : val B ((o.set i q).drop i) = q + B * Q := by
  rw [List.drop_eq_getElem_cons (by simpa using hi), val, List.getElem_set_self]
  congr 2
  rw [List.drop_set_of_lt (by omega)]
  exact h
end Go.Dw
