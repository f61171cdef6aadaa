/- Plain: the factor of a clip at a sample. -/
import Derived.Test.YtlmgdofhmgpljaaDoorEdtO
import Derived.Test.YtlmgdofhmgpljaaDoorRatP
namespace Go.Dw
open Go.RowKit

/-- a point's factor -/
def ratQ (p : Pnt) : Rat := mkRat (numZ p.n) (valD p.d.data.toList)
/-- between two points -/
def segQ (p q : Pnt) (i : Int) : Rat := ratQ p + (ratQ q - ratQ p) * mkRat (i - p.at_) (q.at_ - p.at_).toNat
/-- how many points lie before sample i -/
def lowP (e : List Pnt) (i : Int) : Nat := (e.takeWhile (fun p => decide (p.at_ < i))).length
/-- the factor at sample i -/
def valQ (e : List Pnt) (i : Int) : Rat :=
  if lowP e i = 0 then ratQ (e.getD 0 dPnt) else if lowP e i = e.length then ratQ (e.getD (e.length - 1) dPnt) else segQ (e.getD (lowP e i - 1) dPnt) (e.getD (lowP e i) dPnt) i
/-- the points increase -/
def IncP (e : List Pnt) : Prop := ∀ k, k + 1 < e.length → (e.getD k dPnt).at_ < (e.getD (k + 1) dPnt).at_
theorem lowP_le (e : List Pnt) (i : Int) : lowP e i ≤ e.length := (List.takeWhile_sublist _).length_le
theorem lowP_lt : ∀ (e : List Pnt) (i : Int) (k : Nat), k < lowP e i → (e.getD k dPnt).at_ < i
  | [], i, k, h => by simp [lowP] at h
  | p :: e, i, k, h => by
    unfold lowP at h
    rw [List.takeWhile_cons] at h
    split at h
    · rename_i hp
      cases k with
      | zero => simpa using hp
      | succ k => exact lowP_lt e i k (by simpa [lowP] using h)
    · simp at h
theorem lowP_ge : ∀ (e : List Pnt) (i : Int), lowP e i < e.length → i ≤ (e.getD (lowP e i) dPnt).at_
  | [], i, h => by simp at h
  | p :: e, i, h => by
    by_cases hp : p.at_ < i
    · have e1 : lowP (p :: e) i = lowP e i + 1 := by
        unfold lowP
        rw [List.takeWhile_cons, if_pos (by simpa using hp), List.length_cons]
      rw [e1] at h ⊢
      simpa using lowP_ge e i (by simpa using h)
    · have e1 : lowP (p :: e) i = 0 := by
        unfold lowP
        rw [List.takeWhile_cons, if_neg (by simpa using hp)]; rfl
      rw [e1]
      simpa using hp
/-- whoever is the first that does not lie before i -/
theorem lowP_of {e : List Pnt} {i : Int} {k : Nat} (hk : k ≤ e.length) (h1 : ∀ j, j < k → (e.getD j dPnt).at_ < i) (h2 : k < e.length → i ≤ (e.getD k dPnt).at_) : lowP e i = k := by
  have hl := lowP_le e i
  rcases Nat.lt_trichotomy (lowP e i) k with h | h | h
  · have a := h1 _ h
    have b := lowP_ge e i (by omega)
    omega
  · exact h
  · have a := lowP_lt e i k h
    have b := h2 (by omega)
    omega
theorem inc_lt {e : List Pnt} (h : IncP e) : ∀ (d j : Nat), j + d + 1 < e.length → (e.getD j dPnt).at_ < (e.getD (j + d + 1) dPnt).at_
  | 0, j, hk => h j hk
  | d + 1, j, hk => by
    have := inc_lt h d j (by omega)
    have h2 := h (j + d + 1) (by omega)
    have e1 : j + (d + 1) + 1 = j + d + 1 + 1 := by omega
    rw [e1]
    omega
theorem inc_le {e : List Pnt} (h : IncP e) {j k : Nat} (hj : j ≤ k) (hk : k < e.length) : (e.getD j dPnt).at_ ≤ (e.getD k dPnt).at_ := by
  rcases Nat.lt_or_ge j k with g | g
  · have := inc_lt h (k - j - 1) j (by omega)
    have e1 : j + (k - j - 1) + 1 = k := by omega
    rw [e1] at this
    omega
  · have : j = k := by omega
    subst this; omega
theorem mk_one {n : Nat} (h : 0 < n) : mkRat (n : Int) n = 1 := by
  rw [show (1 : Rat) = mkRat 1 1 from rfl, Rat.mkRat_eq_iff (by omega) (by omega)]
  omega
theorem segQ_end {p q : Pnt} (h : p.at_ < q.at_) : segQ p q q.at_ = ratQ q := by
  unfold segQ
  have e1 : q.at_ - p.at_ = (((q.at_ - p.at_).toNat : Nat) : Int) := by omega
  have e2 : mkRat (q.at_ - p.at_) (q.at_ - p.at_).toNat = 1 := by
    have := mk_one (n := (q.at_ - p.at_).toNat) (by omega)
    rw [← e1] at this
    exact this
  rw [e2, Rat.mul_one, Rat.sub_eq_add_neg, Rat.add_comm (ratQ q), ← Rat.add_assoc, Rat.add_neg_cancel, Rat.zero_add]
/-- the factor where a point lies -/
theorem valQ_at {e : List Pnt} {i : Int} (h : IncP e) (hk : lowP e i < e.length) (ha : (e.getD (lowP e i) dPnt).at_ = i) : valQ e i = ratQ (e.getD (lowP e i) dPnt) := by
  unfold valQ
  by_cases h0 : lowP e i = 0
  · rw [if_pos h0, h0]
  · rw [if_neg h0, if_neg (by omega)]
    have h1 := h (lowP e i - 1) (by omega)
    rw [show lowP e i - 1 + 1 = lowP e i by omega] at h1
    have := segQ_end h1
    rw [ha] at this
    exact this
theorem valQ_zero {e : List Pnt} {i : Int} (h : lowP e i = 0) : valQ e i = ratQ (e.getD 0 dPnt) := by unfold valQ; rw [if_pos h]
theorem valQ_last {e : List Pnt} {i : Int} (h0 : lowP e i ≠ 0) (h : lowP e i = e.length) : valQ e i = ratQ (e.getD (e.length - 1) dPnt) := by unfold valQ; rw [if_neg h0, if_pos h]
theorem valQ_seg {e : List Pnt} {i : Int} (h0 : lowP e i ≠ 0) (h : lowP e i ≠ e.length) : valQ e i = segQ (e.getD (lowP e i - 1) dPnt) (e.getD (lowP e i) dPnt) i := by unfold valQ; rw [if_neg h0, if_neg h]
/-- a quotient as texts -/
def topT (q : Rat) : List UInt8 := (if q.num < 0 then [45] else []) ++ Lib.decDigits q.num.natAbs
def botT (q : Rat) : List UInt8 := Lib.decDigits q.den
/-- right points increase -/
theorem envF_inc {ln : Int} {e : List Pnt} (h : envF ln e = 0) : IncP e := fun k hk => by
  unfold envF at h
  split at h
  · omega
  · split at h
    · omega
    · have h1 := firstNZ_zer h (k + 1) hk
      unfold pntF at h1
      split at h1
      · omega
      · split at h1
        · omega
        · rename_i h2
          rw [Nat.add_sub_cancel] at h2
          omega
/-- a right ratio is in lowest terms -/
theorem ratQ_low {n d : ByteArray} (h : ratF n d = 0) : (mkRat (numZ n) (valD d.data.toList)).num = numZ n ∧ (mkRat (numZ n) (valD d.data.toList)).den = valD d.data.toList ∧ 0 < valD d.data.toList := by
  have hr := ratR_of h
  have hd : 0 < valD d.data.toList := hr.p
  have hg : Nat.gcd (numZ n).natAbs (valD d.data.toList) = 1 := by rw [numZ_abs]; exact hr.g
  obtain ⟨h1, h2⟩ := mk_id hd hg
  exact ⟨h1, h2, hd⟩
end Go.Dw
