/- Plain: the order of hits; hits put in order one after the other, and sorted. -/
import Derived.Test.YtgjmjdpddionmaaDoorLocA
import Derived.Test.YtgjmjdpddionmaaDoorStP
import Derived.Test.YtgjmjdpddionmaaDoorInsP
namespace Go.Proofs.YtgjmjdpddionmaaDoor
open Go.Dw

/-- a before b by their bits and what was compared -/
def betP (x y : Ht) : Prop := x.b * y.c < y.b * x.c ∨ x.b * y.c = y.b * x.c ∧ y.c < x.c
theorem bet_neg (x y : Ht) : bet x y < 0 ↔ betP x y := by
  unfold bet betP orI cmpI
  by_cases h1 : x.b * y.c < y.b * x.c
  · simp [h1]
  · by_cases h2 : y.b * x.c < x.b * y.c
    · have h3 : ¬ x.b * y.c = y.b * x.c := by omega
      simp [h1, h2, h3]
    · have h3 : x.b * y.c = y.b * x.c := by omega
      by_cases h4 : y.c < x.c
      · simp [h3, h4]
      · by_cases h5 : x.c < y.c <;> simp [h3, h4, h5]
theorem bet_pos (x y : Ht) : 0 < bet x y ↔ betP y x := by
  unfold bet betP orI cmpI
  by_cases h1 : x.b * y.c < y.b * x.c
  · have h3 : ¬ y.b * x.c < x.b * y.c := by omega
    have h4 : ¬ y.b * x.c = x.b * y.c := by omega
    simp [h1, h3, h4]
  · by_cases h2 : y.b * x.c < x.b * y.c
    · simp [h1, h2]
    · have h3 : y.b * x.c = x.b * y.c := by omega
      by_cases h4 : y.c < x.c
      · have h5 : ¬ x.c < y.c := by omega
        simp [h3, h4, h5]
      · by_cases h5 : x.c < y.c <;> simp [h3, h4, h5]
/-- a hit with something compared -/
def Ht.good (h : Ht) : Prop := h.small ∧ 0 < h.c
theorem ratio_le {a1 c1 a2 c2 a3 c3 : Int} (h1 : 0 < c1) (h2 : 0 < c2) (h3 : 0 < c3) (h : a1 * c2 ≤ a2 * c1) (k : a2 * c3 ≤ a3 * c2) : a1 * c3 ≤ a3 * c1 := by
  have e1 : a1 * c2 * c3 ≤ a2 * c1 * c3 := Int.mul_le_mul_of_nonneg_right h (by omega)
  have e2 : a2 * c3 * c1 ≤ a3 * c2 * c1 := Int.mul_le_mul_of_nonneg_right k (by omega)
  have e3 : a1 * c3 * c2 ≤ a3 * c1 * c2 := by
    have f1 : a1 * c2 * c3 = a1 * c3 * c2 := by rw [Int.mul_assoc, Int.mul_comm c2, ← Int.mul_assoc]
    have f2 : a2 * c1 * c3 = a2 * c3 * c1 := by rw [Int.mul_assoc, Int.mul_comm c1, ← Int.mul_assoc]
    have f3 : a3 * c2 * c1 = a3 * c1 * c2 := by rw [Int.mul_assoc, Int.mul_comm c2, ← Int.mul_assoc]
    omega
  exact Int.le_of_mul_le_mul_right e3 h2
theorem ratio_lt {a1 c1 a2 c2 a3 c3 : Int} (h1 : 0 < c1) (h2 : 0 < c2) (h3 : 0 < c3) (h : a1 * c2 < a2 * c1) (k : a2 * c3 ≤ a3 * c2) : a1 * c3 < a3 * c1 := by
  rcases Int.lt_or_le (a1 * c3) (a3 * c1) with h' | h'
  · exact h'
  · have := ratio_le h2 h3 h1 k h'
    omega
theorem ratio_lt' {a1 c1 a2 c2 a3 c3 : Int} (h1 : 0 < c1) (h2 : 0 < c2) (h3 : 0 < c3) (h : a1 * c2 ≤ a2 * c1) (k : a2 * c3 < a3 * c2) : a1 * c3 < a3 * c1 := by
  rcases Int.lt_or_le (a1 * c3) (a3 * c1) with h' | h'
  · exact h'
  · have := ratio_le h3 h1 h2 h' h
    omega
/-- the weak order -/
def betL (x y : Ht) : Prop := x.b * y.c < y.b * x.c ∨ x.b * y.c = y.b * x.c ∧ y.c ≤ x.c
theorem betL_not {x y : Ht} : ¬ betP y x ↔ betL x y := by unfold betP betL; omega
theorem betL_trans {x y z : Ht} (hx : 0 < x.c) (hy : 0 < y.c) (hz : 0 < z.c) (h : betL x y) (k : betL y z) : betL x z := by
  unfold betL at *
  rcases h with h | ⟨h, h'⟩
  · exact .inl (ratio_lt hx hy hz h (by omega))
  · rcases k with k | ⟨k, k'⟩
    · exact .inl (ratio_lt' hx hy hz (by omega) k)
    · have h1 := ratio_le hx hy hz (by omega : x.b * y.c ≤ y.b * x.c) (by omega : y.b * z.c ≤ z.b * y.c)
      have h2 := ratio_le hz hy hx (by omega : z.b * y.c ≤ y.b * z.c) (by omega : y.b * x.c ≤ x.b * y.c)
      exact .inr ⟨by omega, by omega⟩
theorem betP_L {x y : Ht} : betP x y ↔ betL x y ∧ ¬ betL y x := by unfold betP betL; omega
theorem betP_trans {x y z : Ht} (hx : 0 < x.c) (hy : 0 < y.c) (hz : 0 < z.c) (h : betP x y) (k : betL y z) : betP x z := by
  rw [betP_L] at *
  exact ⟨betL_trans hx hy hz h.1 k, fun j => h.2 (betL_trans hy hz hx k j)⟩
theorem betP_trans' {x y z : Ht} (hx : 0 < x.c) (hy : 0 < y.c) (hz : 0 < z.c) (h : betL x y) (k : betP y z) : betP x z := by
  rw [betP_L] at *
  exact ⟨betL_trans hx hy hz h k.1, fun j => k.2 (betL_trans hz hx hy j h)⟩
/-- the order of hits, names last -/
def ltH (x y : Ht) : Prop := betP x y ∨ ¬ betP y x ∧ ¬ betP x y ∧ sLt x.n y.n
theorem ltH_irr (x : Ht) : ¬ ltH x x := by
  rintro (h | ⟨_, _, h⟩)
  · unfold betP at h; omega
  · exact sLt_irr _ h
theorem ltH_trans {x y z : Ht} (hx : 0 < x.c) (hy : 0 < y.c) (hz : 0 < z.c) (h : ltH x y) (k : ltH y z) : ltH x z := by
  rcases h with h | ⟨h1, h2, h3⟩
  · rcases k with k | ⟨k1, k2, k3⟩
    · exact .inl (betP_trans hx hy hz h (betP_L.1 k).1)
    · exact .inl (betP_trans hx hy hz h (betL_not.1 k1))
  · rcases k with k | ⟨k1, k2, k3⟩
    · exact .inl (betP_trans' hx hy hz (betL_not.1 h1) k)
    · refine .inr ⟨betL_not.2 (betL_trans hx hy hz (betL_not.1 h1) (betL_not.1 k1)), betL_not.2 (betL_trans hz hy hx (betL_not.1 k2) (betL_not.1 h2)), sLt_trans h3 k3⟩
/-- neither before the other: nothing parts them -/
theorem ltH_tri (x y : Ht) : ltH x y ∨ ltH y x ∨ (¬ betP x y ∧ ¬ betP y x ∧ x.n = y.n) := by
  by_cases h1 : betP x y
  · exact .inl (.inl h1)
  · by_cases h2 : betP y x
    · exact .inr (.inl (.inl h2))
    · rcases sLt_tri x.n y.n with h | h | h
      · exact .inl (.inr ⟨h2, h1, h⟩)
      · exact .inr (.inr ⟨h1, h2, h⟩)
      · exact .inr (.inl (.inr ⟨h1, h2, h⟩))
abbrev Hs := {h : Ht // h.good}
instance : Inhabited Hs := ⟨⟨⟨⟨#[]⟩, 0, 0, 1⟩, by unfold Ht.good Ht.small; decide⟩⟩
def cfH (x y : Hs) : Int := orI (bet x.1 y.1) (cmpS x.1.n y.1.n)
theorem cfH_neg (x y : Hs) : cfH x y < 0 ↔ ltH x.1 y.1 := by
  unfold cfH orI ltH
  by_cases h : bet x.1 y.1 = 0
  · rw [if_pos h, cmpS_lt]
    have h1 : ¬ betP x.1 y.1 := fun hh => by have := (bet_neg x.1 y.1).2 hh; omega
    have h2 : ¬ betP y.1 x.1 := fun hh => by have := (bet_pos x.1 y.1).2 hh; omega
    exact ⟨fun k => .inr ⟨h2, h1, k⟩, fun k => by rcases k with k | ⟨_, _, k⟩; exact absurd k h1; exact k⟩
  · rw [if_neg h, bet_neg]
    refine ⟨.inl, fun k => ?_⟩
    rcases k with k | ⟨k1, k2, _⟩
    · exact k
    · have e1 : ¬ bet x.1 y.1 < 0 := fun hh => k2 ((bet_neg _ _).1 hh)
      have e2 : ¬ 0 < bet x.1 y.1 := fun hh => k1 ((bet_pos _ _).1 hh)
      omega
def geH (y x : Ht) : Bool := decide (bet y x ≤ 0)
def geS (y x : Hs) : Bool := geH y.1 x.1
theorem geS_t (y x : Hs) : geS y x = true ↔ ¬ betP x.1 y.1 := by
  unfold geS geH; rw [decide_eq_true_eq, ← bet_pos]; omega
/-- sorted out of names in order: as put in one after the other -/
theorem sorted_isH {V d : List Hs} (hV : V.Pairwise (fun x y => sLt x.1.n y.1.n)) (hp : d.Perm V) (hs : d.Pairwise (fun x y => ¬ ltH y.1 x.1)) : d = insAll geS [] V := by
  have hne : d.Pairwise (fun x y => x.1.n ≠ y.1.n) := hp.symm.pairwise (hV.imp fun {x y} h e => by rw [e] at h; exact sLt_irr _ h) (fun h e => h e.symm)
  have h1 : d.Pairwise (fun x y : Hs => ltH x.1 y.1) := by
    refine (hs.and hne).imp ?_
    rintro x y ⟨h, h2⟩
    rcases ltH_tri x.1 y.1 with k | k | ⟨_, _, k⟩
    · exact k
    · exact absurd k h
    · exact absurd k h2
  have h2 : (insAll geS [] V).Pairwise (fun x y : Hs => ltH x.1 y.1) := by
    refine insAll_pw (lt := fun x y : Hs => ltH x.1 y.1) (key := fun y x : Hs => sLt y.1.n x.1.n) (fun x y z => ltH_trans x.2.2 y.2.2 z.2.2) ?_ ?_ (by simp) hV (by simp)
    · intro y x hk hg
      rw [geS_t] at hg
      by_cases hb : betP y.1 x.1
      · exact .inl hb
      · exact .inr ⟨hg, hb, hk⟩
    · intro y x hk hg
      have : ¬ geS y x = true := by rw [hg]; simp
      rw [geS_t] at this
      exact .inl (Classical.not_not.1 this)
  exact pw_ext (lt := fun x y : Hs => ltH x.1 y.1) (fun x => ltH_irr x.1) (fun x y z => ltH_trans x.2.2 y.2.2 z.2.2) h1 h2 (fun x => by rw [hp.mem_iff, mem_insAll]; simp)
end Go.Proofs.YtgjmjdpddionmaaDoor
