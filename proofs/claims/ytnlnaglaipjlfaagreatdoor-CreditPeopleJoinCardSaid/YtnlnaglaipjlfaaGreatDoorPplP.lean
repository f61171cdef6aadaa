/- Plain: groups of persons; two ways to find them. -/
import Derived.Test.YtnlnaglaipjlfaaGreatDoorBase
namespace Go.Dw

/-- a labelling that the edges keep -/
def Compat (E : List (Nat × Nat)) (g : Nat → Nat) : Prop := ∀ e ∈ E, g e.1 = g e.2
/-- together by the edges -/
def Conn (E : List (Nat × Nat)) (i j : Nat) : Prop := ∀ g : Nat → Nat, Compat E g → g i = g j
theorem Conn.refl (E : List (Nat × Nat)) (i : Nat) : Conn E i i := by intro _ _; rfl
theorem Conn.symm {E : List (Nat × Nat)} {i j : Nat} (h : Conn E i j) : Conn E j i := fun g hg => (h g hg).symm
theorem Conn.trans {E : List (Nat × Nat)} {i j k : Nat} (h : Conn E i j) (h' : Conn E j k) : Conn E i k := fun g hg => (h g hg).trans (h' g hg)
theorem Conn.edge {E : List (Nat × Nat)} {a b : Nat} (h : (a, b) ∈ E) : Conn E a b := fun _ hg => hg (a, b) h
/-- the least of each group -/
structure Least (E : List (Nat × Nat)) (g : Nat → Nat) : Prop where
  compat : Compat E g
  conn : ∀ i, Conn E i (g i)
  le : ∀ i, g i ≤ i
theorem Least.unique {E : List (Nat × Nat)} {f g : Nat → Nat} (hf : Least E f) (hg : Least E g) : f = g := by
  funext i
  have h1 : g (f i) = g i := (hf.conn i g hg.compat).symm
  have h2 : f (g i) = f i := (hg.conn i f hf.compat).symm
  have h3 := hg.le (f i)
  have h4 := hf.le (g i)
  omega
theorem Least.idem {E : List (Nat × Nat)} {g : Nat → Nat} (h : Least E g) (i : Nat) : g (g i) = g i := (h.conn i g h.compat).symm
/-- one merge -/
def mergeL (f : Nat → Nat) (e : Nat × Nat) : Nat → Nat := if f e.1 = f e.2 then f else fun i => if f i = max (f e.1) (f e.2) then min (f e.1) (f e.2) else f i
def labF (E : List (Nat × Nat)) : Nat → Nat := E.foldl mergeL id
theorem labF_snoc (E : List (Nat × Nat)) (e : Nat × Nat) : labF (E ++ [e]) = mergeL (labF E) e := by simp [labF]
theorem Conn.more {E : List (Nat × Nat)} {i j : Nat} (h : Conn E i j) (e : Nat × Nat) : Conn (E ++ [e]) i j := fun g hg => h g fun x hx => hg x (by simp [hx])
theorem labF_least' : ∀ (n : Nat) (E : List (Nat × Nat)), E.length = n → Least E (labF E)
  | 0, E, h => by
    have : E = [] := List.eq_nil_of_length_eq_zero h
    subst this
    exact ⟨fun e he => by simp at he, fun i => Conn.refl _ i, fun i => Nat.le_refl _⟩
  | n + 1, E, h => by
    have hne : E ≠ [] := by intro e; rw [e] at h; simp at h
    rw [← List.dropLast_concat_getLast hne]
    generalize hD : E.dropLast = D
    generalize E.getLast hne = e
    have ih := labF_least' n D (by rw [← hD]; simp [h])
    rw [labF_snoc]
    obtain ⟨a, b⟩ := e
    have hab : Conn (D ++ [(a, b)]) a b := Conn.edge (by simp)
    have hA : Conn (D ++ [(a, b)]) (labF D a) (labF D b) := ((ih.conn a).more _).symm.trans (hab.trans ((ih.conn b).more _))
    unfold mergeL
    simp only
    split
    · rename_i heq
      refine ⟨fun x hx => ?_, fun i => (ih.conn i).more _, ih.le⟩
      rcases List.mem_append.1 hx with hx | hx
      · exact ih.compat x hx
      · simp at hx; subst hx; exact heq
    · rename_i hne2
      refine ⟨fun x hx => ?_, fun i => ?_, fun i => ?_⟩
      · rcases List.mem_append.1 hx with hx | hx
        · have := ih.compat x hx
          simp only [this]
        · simp at hx; subst hx
          simp only
          rcases Nat.lt_or_ge (labF D a) (labF D b) with hlt | hge
          · have e1 : max (labF D a) (labF D b) = labF D b := by omega
            have e2 : min (labF D a) (labF D b) = labF D a := by omega
            rw [e1, e2, if_pos rfl]; split <;> omega
          · have e1 : max (labF D a) (labF D b) = labF D a := by omega
            have e2 : min (labF D a) (labF D b) = labF D b := by omega
            rw [e1, e2, if_pos rfl]; split <;> omega
      · show Conn _ i (if _ then _ else _)
        split
        · rename_i h1
          have h2 := (ih.conn i).more (a, b)
          rcases Nat.lt_or_ge (labF D a) (labF D b) with hlt | hge
          · have e1 : max (labF D a) (labF D b) = labF D b := by omega
            have e2 : min (labF D a) (labF D b) = labF D a := by omega
            rw [e2]; rw [h1, e1] at h2; exact h2.trans hA.symm
          · have e1 : max (labF D a) (labF D b) = labF D a := by omega
            have e2 : min (labF D a) (labF D b) = labF D b := by omega
            rw [e2]; rw [h1, e1] at h2; exact h2.trans hA
        · exact (ih.conn i).more _
      · show (if _ then _ else _) ≤ i
        have := ih.le i
        have h3 := Nat.min_le_left (labF D a) (labF D b)
        have h4 := Nat.le_max_left (labF D a) (labF D b)
        split
        · rename_i h5; exact Nat.le_trans h3 (Nat.le_trans h4 (h5 ▸ this))
        · exact this
theorem labF_least (E : List (Nat × Nat)) : Least E (labF E) := labF_least' _ E rfl
/-- the reference's way: a list of labels, made less pair by pair -/
structure OutI (E : List (Nat × Nat)) (out : List Nat) : Prop where
  conn : ∀ i (h : i < out.length), Conn E i out[i]
  le : ∀ i (h : i < out.length), out[i] ≤ i
def outS (out : List Nat) : Nat := out.foldl (· + ·) 0
theorem OutI.start (E : List (Nat × Nat)) (n : Nat) : OutI E (List.range n) := ⟨fun i h => by simp; exact Conn.refl _ _, fun i h => by simp⟩
theorem OutI.set {E : List (Nat × Nat)} {out : List Nat} (h : OutI E out) {a m : Nat} (hm : Conn E a m) (hle : m ≤ a) : OutI E (out.set a m) := by
  refine ⟨fun i hi => ?_, fun i hi => ?_⟩
  · rw [List.getElem_set]
    split
    · rename_i e; subst e; exact hm
    · exact h.conn i (by simpa using hi)
  · rw [List.getElem_set]
    split
    · rename_i e; subst e; exact hle
    · exact h.le i (by simpa using hi)
theorem OutI.pair {E : List (Nat × Nat)} {out : List Nat} (h : OutI E out) {a b : Nat} (ha : a < out.length) (hb : b < out.length) (he : (a, b) ∈ E) : OutI E ((out.set a (min out[a] out[b])).set b (min out[a] out[b])) := by
  have c1 := h.conn a ha
  have c2 := h.conn b hb
  have l1 := h.le a ha
  have l2 := h.le b hb
  have cab : Conn E a b := Conn.edge he
  have cm : Conn E a (min out[a] out[b]) := by
    rcases Nat.lt_or_ge out[a] out[b] with hlt | hge
    · rw [show min out[a] out[b] = out[a] by omega]; exact c1
    · rw [show min out[a] out[b] = out[b] by omega]; exact cab.trans c2
  exact (h.set cm (by omega)).set (cab.symm.trans cm) (by omega)
theorem sum_acc : ∀ (l : List Nat) (a : Nat), l.foldl (· + ·) a = a + l.foldl (· + ·) 0
  | [], a => rfl
  | x :: l, a => by rw [List.foldl_cons, List.foldl_cons, sum_acc l (a + x), sum_acc l (0 + x)]; omega
theorem outS_cons (x : Nat) (l : List Nat) : outS (x :: l) = x + outS l := by
  show (x :: l).foldl (· + ·) 0 = _
  rw [List.foldl_cons, sum_acc]; simp [outS]
theorem outS_set : ∀ (l : List Nat) (a m : Nat) (h : a < l.length), outS (l.set a m) + l[a] = outS l + m
  | [], a, m, h => by simp at h
  | x :: l, 0, m, h => by simp [outS_cons]; omega
  | x :: l, a + 1, m, h => by
    have := outS_set l a m (by simpa using h)
    simp [outS_cons]; omega
theorem outS_pair {out : List Nat} {a b : Nat} (ha : a < out.length) (hb : b < out.length) (hne : out[a] ≠ out[b]) : outS ((out.set a (min out[a] out[b])).set b (min out[a] out[b])) < outS out := by
  have hab : a ≠ b := fun e => by subst e; exact hne rfl
  have h1 := outS_set out a (min out[a] out[b]) ha
  have h2 := outS_set (out.set a (min out[a] out[b])) b (min out[a] out[b]) (by simpa using hb)
  rw [List.getElem_set_ne hab] at h2
  omega
theorem out_done {E : List (Nat × Nat)} {out : List Nat} (h : OutI E out) (hE : ∀ e ∈ E, e.1 < out.length ∧ e.2 < out.length) (hc : ∀ e ∈ E, out.getD e.1 0 = out.getD e.2 0) : ∀ i (hi : i < out.length), out[i] = labF E i := by
  have hL : Least E (fun i => out.getD i i) := by
    refine ⟨fun e he => ?_, fun i => ?_, fun i => ?_⟩
    · have h1 := hE e he
      have h2 := hc e he
      simp only [List.getD_eq_getElem?_getD, List.getElem?_eq_getElem h1.1, List.getElem?_eq_getElem h1.2, Option.getD_some] at h2 ⊢
      exact h2
    · by_cases hi : i < out.length
      · simp only [List.getD_eq_getElem?_getD, List.getElem?_eq_getElem hi, Option.getD_some]; exact h.conn i hi
      · simp only [List.getD_eq_getElem?_getD, List.getElem?_eq_none (by omega : out.length ≤ i), Option.getD_none]; exact Conn.refl _ _
    · by_cases hi : i < out.length
      · simp only [List.getD_eq_getElem?_getD, List.getElem?_eq_getElem hi, Option.getD_some]; exact h.le i hi
      · simp only [List.getD_eq_getElem?_getD, List.getElem?_eq_none (by omega : out.length ≤ i), Option.getD_none]; exact Nat.le_refl _
  intro i hi
  have := congrFun (hL.unique (labF_least E)) i
  rw [← this]
  simp only [List.getD_eq_getElem?_getD, List.getElem?_eq_getElem hi, Option.getD_some]
end Go.Dw
