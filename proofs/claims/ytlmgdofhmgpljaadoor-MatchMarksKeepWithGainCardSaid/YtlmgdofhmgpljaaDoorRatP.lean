/- Plain: quotients in lowest terms, and how long their numbers are. -/
import Derived.Test.YtlmgdofhmgpljaaDoorNatP
namespace Go.Dw
open Go.RowKit

theorem int_cases (z : Int) : z = z.natAbs ∨ z = -(z.natAbs : Int) := by omega
theorem mk_abs {z : Int} {d : Nat} (hd : 0 < d) : (mkRat z d).num.natAbs = z.natAbs / Nat.gcd z.natAbs d := by
  rw [Rat.num_mkRat, if_neg (by omega), Nat.gcd_comm]
  have hg : (Nat.gcd z.natAbs d : Nat) ∣ z.natAbs := Nat.gcd_dvd_left _ _
  have hg2 : ((Nat.gcd z.natAbs d : Nat) : Int) ∣ z := Int.natAbs_dvd_natAbs.1 (by simpa using hg)
  rw [Int.natAbs_ediv_of_dvd hg2, Int.natAbs_natCast]
theorem mk_den {z : Int} {d : Nat} (hd : 0 < d) : (mkRat z d).den = d / Nat.gcd z.natAbs d := by
  rw [Rat.den_mkRat, if_neg (by omega), Nat.gcd_comm]
theorem mk_neg {z : Int} {d : Nat} (hd : 0 < d) : ((mkRat z d).num < 0) ↔ z < 0 := by
  rw [Rat.num_mkRat, if_neg (by omega)]
  have hg : 0 < d.gcd z.natAbs := Nat.gcd_pos_of_pos_left _ hd
  constructor
  · intro h
    rcases Int.lt_or_le z 0 with h0 | h0
    · exact h0
    · have := Int.ediv_nonneg h0 (Int.natCast_nonneg (d.gcd z.natAbs)); omega
  · intro h
    exact Int.ediv_neg_of_neg_of_pos h (by omega)
theorem mk_low {z : Int} {d : Nat} (hd : 0 < d) : (mkRat z d).den = d ↔ Nat.gcd z.natAbs d = 1 := by
  rw [mk_den hd]
  constructor
  · intro h
    have h1 : Nat.gcd z.natAbs d * (d / Nat.gcd z.natAbs d) = d := Nat.mul_div_cancel' (Nat.gcd_dvd_right _ _)
    rw [h] at h1
    have h2 : Nat.gcd z.natAbs d * d = 1 * d := by omega
    exact Nat.eq_of_mul_eq_mul_right hd h2
  · intro h; rw [h, Nat.div_one]
theorem mk_id {z : Int} {d : Nat} (hd : 0 < d) (hg : Nat.gcd z.natAbs d = 1) : (mkRat z d).num = z ∧ (mkRat z d).den = d := by
  refine ⟨?_, (mk_low hd).2 hg⟩
  rw [Rat.num_mkRat, if_neg (by omega), Nat.gcd_comm, hg]; simp
theorem mk_self (q : Rat) : mkRat q.num q.den = q := Rat.mkRat_self q
/-- how long the numbers of a quotient are -/
def RLim (k : Nat) (q : Rat) : Prop := Lim k q.num.natAbs ∧ Lim k q.den
theorem RLim.mono {k m : Nat} {q : Rat} (h : RLim k q) (hk : k ≤ m) : RLim m q := ⟨h.1.mono hk, h.2.mono hk⟩
theorem RLim.mk {k d : Nat} {z : Int} (h1 : Lim k z.natAbs) (h2 : Lim k d) (hd : 0 < d) : RLim k (mkRat z d) := by
  refine ⟨?_, ?_⟩
  · rw [mk_abs hd]; exact h1.le (Nat.div_le_self _ _)
  · rw [mk_den hd]; exact h2.le (Nat.div_le_self _ _)
theorem lim_addI {j k : Nat} {x y : Int} (h : Lim j x.natAbs) (g : Lim k y.natAbs) : Lim (max j k + 1) (x + y).natAbs := (h.add g).le (Int.natAbs_add_le _ _)
theorem lim_mulI {j k : Nat} {x y : Int} (h : Lim j x.natAbs) (g : Lim k y.natAbs) : Lim (j + k) (x * y).natAbs := by rw [Int.natAbs_mul]; exact h.mul g
theorem RLim.add {j k : Nat} {p q : Rat} (h : RLim j p) (g : RLim k q) : RLim (j + k + 1) (p + q) := by
  rw [← mk_self p, ← mk_self q, Rat.mkRat_add_mkRat _ _ p.den_nz q.den_nz]
  refine RLim.mk ?_ ((h.2.mul g.2).mono (by omega)) (Nat.mul_pos p.den_pos q.den_pos)
  have h1 : Lim (j + k) (p.num * q.den).natAbs := lim_mulI h.1 (by simpa using g.2)
  have h2 : Lim (j + k) (q.num * p.den).natAbs := by rw [Nat.add_comm]; exact lim_mulI g.1 (by simpa using h.2)
  exact (lim_addI h1 h2).mono (by omega)
theorem RLim.mul {j k : Nat} {p q : Rat} (h : RLim j p) (g : RLim k q) : RLim (j + k) (p * q) := by
  rw [← mk_self p, ← mk_self q, Rat.mkRat_mul_mkRat]
  exact RLim.mk (lim_mulI h.1 g.1) (h.2.mul g.2) (Nat.mul_pos p.den_pos q.den_pos)
theorem RLim.neg {j : Nat} {p : Rat} (h : RLim j p) : RLim j (-p) := by
  refine ⟨?_, ?_⟩
  · rw [Rat.neg_num, Int.natAbs_neg]; exact h.1
  · rw [Rat.neg_den]; exact h.2
theorem RLim.sub {j k : Nat} {p q : Rat} (h : RLim j p) (g : RLim k q) : RLim (j + k + 1) (p - q) := by
  rw [Rat.sub_eq_add_neg]; exact h.add g.neg
end Go.Dw
