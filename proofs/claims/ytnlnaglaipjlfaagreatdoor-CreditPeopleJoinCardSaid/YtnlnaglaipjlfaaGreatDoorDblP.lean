/- Plain: groups of numbers that hang together. -/
import Derived.Test.YtnlnaglaipjlfaaGreatDoorBase
namespace Go.Dw
section
variable (al : Nat → Nat → Bool) (n : Nat)
/-- i and k, if they are alike, come into one group -/
def stp (i k : Nat) (st : List Nat) : List Nat :=
  if st.getD i 0 ≠ st.getD k 0 ∧ al i k = true then st.map (fun x => if x = max (st.getD i 0) (st.getD k 0) then min (st.getD i 0) (st.getD k 0) else x) else st
def rowD (i : Nat) (st : List Nat) : Nat → List Nat
  | 0 => st
  | m + 1 => stp al i m (rowD i st m)
def grpD : Nat → List Nat
  | 0 => List.range n
  | i + 1 => rowD al i (grpD i) i
/-- before and within round i -/
def InvD (i : Nat) (st : List Nat) : Prop := st.length = n ∧ (∀ j, j < n → st.getD j 0 ≤ j) ∧ ∀ j, j < n → i < j → st.getD j 0 = j
theorem getD_map {α : Type} (f : α → α) (d : α) (l : List α) (j : Nat) (h : j < l.length) : (l.map f).getD j d = f (l.getD j d) := by
  rw [List.getD_eq_getElem?_getD, List.getD_eq_getElem?_getD, List.getElem?_map, List.getElem?_eq_getElem h]; rfl
theorem stp_inv {i k : Nat} {st : List Nat} (hi : i < n) (hk : k < i) (h : InvD n i st) : InvD n i (stp al i k st) := by
  obtain ⟨h1, h2, h3⟩ := h
  unfold stp
  split
  · refine ⟨by simpa using h1, fun j hj => ?_, fun j hj hij => ?_⟩
    · rw [getD_map _ _ _ _ (by omega)]
      have a1 := h2 j hj
      have a2 := h2 i hi
      have a3 := h2 k (by omega)
      split <;> omega
    · rw [getD_map _ _ _ _ (by omega), h3 j hj hij, if_neg]
      have a2 := h2 i hi
      have a3 := h2 k (by omega)
      omega
  · exact ⟨h1, h2, h3⟩
theorem rowD_inv {i : Nat} {st : List Nat} (hi : i < n) (h : InvD n i st) : ∀ m, m ≤ i → InvD n i (rowD al i st m)
  | 0, _ => h
  | m + 1, hm => stp_inv al n hi (by omega) (rowD_inv hi h m (by omega))
theorem grpD_inv : ∀ i, i ≤ n → (grpD al n i).length = n ∧ (∀ j, j < n → (grpD al n i).getD j 0 ≤ j) ∧ ∀ j, j < n → i ≤ j → (grpD al n i).getD j 0 = j
  | 0, _ => by
    refine ⟨by simp [grpD], fun j hj => ?_, fun j hj _ => ?_⟩ <;> simp [grpD, List.getD_eq_getElem?_getD, hj]
  | i + 1, hi => by
    obtain ⟨h1, h2, h3⟩ := grpD_inv i (by omega)
    obtain ⟨k1, k2, k3⟩ := rowD_inv al n (by omega) ⟨h1, h2, fun j hj hij => h3 j hj (by omega)⟩ i (Nat.le_refl _)
    exact ⟨k1, k2, fun j hj hij => k3 j hj (by omega)⟩
theorem grpD_start {i : Nat} (hi : i < n) : InvD n i (grpD al n i) := by
  obtain ⟨h1, h2, h3⟩ := grpD_inv al n i (by omega)
  exact ⟨h1, h2, fun j hj hij => h3 j hj (by omega)⟩
/-- the members of group g -/
def mem1 (st : List Nat) (g : Nat) : Nat → List Nat
  | 0 => []
  | i + 1 => if st.getD i 0 = g then mem1 st g i ++ [i] else mem1 st g i
theorem mem1_len (st : List Nat) (g : Nat) : ∀ i, (mem1 st g i).length ≤ i ∧ ∀ x ∈ mem1 st g i, x < i
  | 0 => by simp [mem1]
  | i + 1 => by
    obtain ⟨h1, h2⟩ := mem1_len st g i
    rw [mem1]
    split
    · refine ⟨by simp; omega, fun x hx => ?_⟩
      rcases List.mem_append.1 hx with hx | hx
      · have := h2 x hx; omega
      · simp at hx; omega
    · exact ⟨by omega, fun x hx => by have := h2 x hx; omega⟩
/-- the groups of at least two -/
def outD (st : List Nat) (n : Nat) : Nat → List (List Nat)
  | 0 => []
  | g + 1 => if 1 < (mem1 st g n).length then outD st n g ++ [mem1 st g n] else outD st n g
theorem outD_len (st : List Nat) (n : Nat) : ∀ g, (outD st n g).length ≤ g ∧ ∀ l ∈ outD st n g, l.length ≤ n ∧ ∀ x ∈ l, x < n
  | 0 => by simp [outD]
  | g + 1 => by
    obtain ⟨h1, h2⟩ := outD_len st n g
    rw [outD]
    split
    · refine ⟨by simp; omega, fun l hl => ?_⟩
      rcases List.mem_append.1 hl with hl | hl
      · exact h2 l hl
      · simp at hl; subst hl; exact mem1_len st g n
    · exact ⟨by omega, h2⟩
def grpsF : List (List Nat) := outD (grpD al n n) n n
end
theorem stp_congr {al al' : Nat → Nat → Bool} {i k : Nat} {st : List Nat} (h : al i k = al' i k) : stp al i k st = stp al' i k st := by unfold stp; rw [h]
theorem rowD_congr {al al' : Nat → Nat → Bool} {i : Nat} {st : List Nat} : ∀ {m : Nat}, (∀ k, k < m → al i k = al' i k) → rowD al i st m = rowD al' i st m
  | 0, _ => rfl
  | m + 1, h => by rw [rowD, rowD, rowD_congr (fun k hk => h k (by omega)), stp_congr (h m (by omega))]
theorem grpD_congr {al al' : Nat → Nat → Bool} {n : Nat} : ∀ {i : Nat}, (∀ a b, b < a → a < i → al a b = al' a b) → grpD al n i = grpD al' n i
  | 0, _ => rfl
  | i + 1, h => by rw [grpD, grpD, grpD_congr (fun a b hb ha => h a b hb (by omega)), rowD_congr (fun k hk => h i k hk (by omega))]
end Go.Dw
