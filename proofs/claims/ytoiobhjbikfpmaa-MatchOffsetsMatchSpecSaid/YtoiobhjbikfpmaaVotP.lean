/- Plain: how many marks are equal with an offset, by both ways. -/
import Derived.Test.YtoiobhjbikfpmaaInsP
namespace Go.Proofs.Ytoiobhjbikfpmaa
open Go.RowKit Go.Dw

structure Vot where
  d : Int
  n : Nat
instance : Inhabited Vot := ⟨⟨0, 0⟩⟩
section
variable (xs ys : List Int)
/-- at the place k with the offset d, within the first N of xs -/
def hitN (N : Nat) (d : Int) (k : Nat) : Bool := decide (0 ≤ (k : Int) + d) && decide ((k : Int) + d < N) && decide (xs.getD ((k : Int) + d).toNat 0 = ys.getD k 0)
def cntN (N : Nat) (d : Int) : Nat → Nat
  | 0 => 0
  | m + 1 => cntN N d m + if hitN xs ys N d m then 1 else 0
/-- how many are equal with the offset d -/
def cntV (d : Int) : Nat := cntN xs ys xs.length d ys.length
/-- as they are met: the mark i against the first k -/
def rowC (i : Nat) (d : Int) : Nat → Nat
  | 0 => 0
  | k + 1 => rowC i d k + if xs.getD i 0 = ys.getD k 0 ∧ (i : Int) - k = d then 1 else 0
def matC (d : Int) : Nat → Nat
  | 0 => 0
  | i + 1 => matC d i + rowC xs ys i d ys.length
theorem cntN_zero (d : Int) : ∀ m, cntN xs ys 0 d m = 0
  | 0 => rfl
  | m + 1 => by
    rw [cntN, cntN_zero d m, if_neg]
    unfold hitN
    simp
    intro h1 h2; omega
theorem cntN_succ (N : Nat) (d : Int) : ∀ m, cntN xs ys (N + 1) d m = cntN xs ys N d m + rowC xs ys N d m
  | 0 => rfl
  | m + 1 => by
    rw [cntN, cntN, rowC, cntN_succ N d m]
    have h : (if hitN xs ys (N + 1) d m then 1 else 0) = (if hitN xs ys N d m then 1 else 0) + (if xs.getD N 0 = ys.getD m 0 ∧ (N : Int) - m = d then 1 else 0 : Nat) := by
      unfold hitN
      by_cases h1 : (N : Int) - m = d
      · have e : ((m : Int) + d).toNat = N := by omega
        have e2 : ¬ (m : Int) + d < (N : Int) := by omega
        have e3 : (m : Int) + d < ((N + 1 : Nat) : Int) := by omega
        have e4 : 0 ≤ (m : Int) + d := by omega
        rw [e, decide_eq_true e3, decide_eq_true e4, decide_eq_false e2]
        simp [h1]
      · have e : ((m : Int) + d < ((N + 1 : Nat) : Int)) ↔ ((m : Int) + d < (N : Int)) := by omega
        have e5 : (if xs.getD N 0 = ys.getD m 0 ∧ (N : Int) - m = d then 1 else 0 : Nat) = 0 := if_neg (fun hh => h1 hh.2)
        rw [e5]
        simp only [e, Nat.add_zero]
    omega
theorem matC_eq (d : Int) : ∀ i, matC xs ys d i = cntN xs ys i d ys.length
  | 0 => by rw [matC, cntN_zero]
  | i + 1 => by rw [matC, matC_eq d i, cntN_succ]
theorem matC_all (d : Int) : matC xs ys d xs.length = cntV xs ys d := matC_eq xs ys d xs.length
theorem cntN_le (N : Nat) (d : Int) : ∀ m, cntN xs ys N d m ≤ m
  | 0 => Nat.le_refl _
  | m + 1 => by
    have := cntN_le N d m
    rw [cntN]; split <;> omega
theorem rowC_le (i : Nat) (d : Int) : ∀ k, rowC xs ys i d k ≤ k
  | 0 => Nat.le_refl _
  | k + 1 => by
    have := rowC_le i d k
    rw [rowC]; split <;> omega
theorem cntN_pos (N : Nat) (d : Int) : ∀ m, 0 < cntN xs ys N d m → -(m : Int) < d ∧ d < N
  | 0, h => by simp [cntN] at h
  | m + 1, h => by
    rw [cntN] at h
    by_cases hh : hitN xs ys N d m
    · unfold hitN at hh
      simp at hh
      omega
    · rw [if_neg hh] at h
      have := cntN_pos N d m (by omega)
      omega
theorem cntV_pos (d : Int) (h : 0 < cntV xs ys d) : -(ys.length : Int) < d ∧ d < xs.length := cntN_pos xs ys xs.length d ys.length h
theorem cntV_le (d : Int) : cntV xs ys d ≤ ys.length := cntN_le xs ys xs.length d ys.length
/-- the votes of the first offsets, in their order -/
def eR : Nat → List Vot
  | 0 => []
  | j + 1 => eR j ++ if 0 < cntV xs ys (-(ys.length : Int) + j) then [⟨-(ys.length : Int) + j, cntV xs ys (-(ys.length : Int) + j)⟩] else []
theorem eR_mem (x : Vot) : ∀ J, x ∈ eR xs ys J ↔ ∃ j : Nat, j < J ∧ x = ⟨-(ys.length : Int) + j, cntV xs ys (-(ys.length : Int) + j)⟩ ∧ 0 < cntV xs ys (-(ys.length : Int) + j)
  | 0 => by simp [eR]
  | J + 1 => by
    rw [eR, List.mem_append, eR_mem x J]
    constructor
    · rintro (⟨j, h1, h2⟩ | h)
      · exact ⟨j, by omega, h2⟩
      · split at h
        · rename_i hc
          simp at h
          exact ⟨J, by omega, h, hc⟩
        · simp at h
    · rintro ⟨j, h1, h2, h3⟩
      by_cases hj : j = J
      · subst hj
        right; rw [if_pos h3]; simp [h2]
      · exact .inl ⟨j, by omega, h2, h3⟩
def keyV (x y : Vot) : Prop := x.d < y.d
def ltV (x y : Vot) : Prop := y.n < x.n ∨ x.n = y.n ∧ x.d < y.d
def geV (y x : Vot) : Bool := decide (x.n ≤ y.n)
theorem ltV_irrefl (x : Vot) : ¬ ltV x x := by unfold ltV; omega
theorem ltV_trans (x y z : Vot) (h1 : ltV x y) (h2 : ltV y z) : ltV x z := by unfold ltV at *; omega
theorem ltV_total (x y : Vot) (h : x.d ≠ y.d) : ltV x y ∨ ltV y x := by unfold ltV; omega
theorem eR_pw : ∀ J, (eR xs ys J).Pairwise keyV ∧ (eR xs ys J).length ≤ J
  | 0 => by simp [eR]
  | J + 1 => by
    obtain ⟨h1, h2⟩ := eR_pw J
    rw [eR]
    refine ⟨?_, by rw [List.length_append]; split <;> simp <;> omega⟩
    rw [List.pairwise_append]
    refine ⟨h1, by split <;> simp, fun x hx y hy => ?_⟩
    obtain ⟨j, h3, rfl, _⟩ := (eR_mem xs ys x J).1 hx
    split at hy
    · simp at hy; subst hy
      unfold keyV; simp only; omega
    · simp at hy
/-- all of them -/
def refV : List Vot := insAll geV [] (eR xs ys (xs.length + ys.length + 1))
theorem refV_pw : (refV xs ys).Pairwise ltV :=
  insAll_pw ltV_trans (fun y x hk hg => by
    have hg : x.n ≤ y.n := of_decide_eq_true hg
    unfold keyV at hk
    unfold ltV; omega) (fun y x hk hg => by
    have hg : ¬ x.n ≤ y.n := of_decide_eq_false hg
    exact .inl (by omega)) (by simp) (eR_pw xs ys _).1 (by simp)
theorem refV_mem (x : Vot) : x ∈ refV xs ys ↔ x.n = cntV xs ys x.d ∧ 0 < x.n := by
  rw [refV, mem_insAll, eR_mem]
  constructor
  · rintro (h | ⟨j, _, rfl, h⟩)
    · simp at h
    · exact ⟨rfl, h⟩
  · rintro ⟨h1, h2⟩
    right
    have h3 := cntV_pos xs ys x.d (by omega)
    have e : -(ys.length : Int) + ((x.d + ys.length).toNat : Nat) = x.d := by omega
    refine ⟨(x.d + ys.length).toNat, by omega, ?_, by rw [e]; omega⟩
    rw [e, ← h1]
theorem refV_length : (refV xs ys).length ≤ xs.length + ys.length + 1 := by
  rw [refV, insAll_length]
  have := (eR_pw xs ys (xs.length + ys.length + 1)).2
  simp; omega
/-- what was collected, in order, is that -/
theorem sorted_isV {V d : List Vot} (hd : V.Pairwise (fun x y => x.d ≠ y.d)) (hm : ∀ x, x ∈ V ↔ x.n = cntV xs ys x.d ∧ 0 < x.n) (hp : d.Perm V) (hs : d.Pairwise (fun x y => ¬ ltV y x)) : d = refV xs ys := by
  have hn : d.Pairwise (fun x y => x.d ≠ y.d) := (hp.pairwise_iff (fun {x y} h => Ne.symm h)).2 hd
  have hs2 : d.Pairwise ltV := by
    refine (hs.and hn).imp ?_
    rintro x y ⟨h1, h2⟩
    rcases ltV_total x y h2 with h | h
    · exact h
    · exact absurd h h1
  refine pw_ext ltV_irrefl ltV_trans hs2 (refV_pw xs ys) fun x => ?_
  rw [hp.mem_iff, hm, refV_mem]
end
end Go.Proofs.Ytoiobhjbikfpmaa
