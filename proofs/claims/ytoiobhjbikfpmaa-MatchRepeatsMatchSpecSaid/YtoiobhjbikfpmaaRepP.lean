/- Plain: what comes again within marks, by both ways. -/
import Derived.Test.YtoiobhjbikfpmaaInsP
namespace Go.Proofs.Ytoiobhjbikfpmaa
open Go.RowKit Go.Dw

structure Rep where
  a : Nat
  b : Nat
  n : Nat
instance : Inhabited Rep := ⟨⟨0, 0, 0⟩⟩
instance : DecidableEq Rep := fun x y =>
  decidable_of_iff (x.a = y.a ∧ x.b = y.b ∧ x.n = y.n) ⟨fun h => by cases x; cases y; simp_all, fun h => by subst h; exact ⟨rfl, rfl, rfl⟩⟩
section
variable (l : List Int)
/-- the mark j comes again d later -/
def eqD (d j : Nat) : Bool := decide (j + d < l.length) && decide (l.getD j 0 = l.getD (j + d) 0)
theorem eqD_out {d j : Nat} (h : ¬ j + d < l.length) : eqD l d j = false := by unfold eqD; rw [decide_eq_false h]; rfl
/-- the rows of one distance that end before k; where the last one begins -/
def mIn (least d : Nat) : Nat → Nat × List Rep
  | 0 => (0, [])
  | k + 1 => if eqD l d k then mIn least d k else (k + 1, if least ≤ k - (mIn least d k).1 then (mIn least d k).2 ++ [⟨(mIn least d k).1, (mIn least d k).1 + d, k - (mIn least d k).1⟩] else (mIn least d k).2)
def mOut (least : Nat) : Nat → List Rep
  | 0 => []
  | k + 1 => mOut least k ++ (mIn l least (k + 1) (l.length - (k + 1) + 1)).2
/-- a row that is as long as possible -/
def Mx (d a n : Nat) : Prop := (∀ i, i < n → eqD l d (a + i) = true) ∧ eqD l d (a + n) = false ∧ (a = 0 ∨ eqD l d (a - 1) = false)
theorem Mx.uniq {l : List Int} {d a n m : Nat} (h1 : Mx l d a n) (h2 : Mx l d a m) : n = m := by
  rcases Nat.lt_trichotomy n m with h | h | h
  · have := h2.1 n h; rw [h1.2.1] at this; simp at this
  · exact h
  · have := h1.1 m h; rw [h2.2.1] at this; simp at this
theorem mIn_inv (least d : Nat) : ∀ k, (mIn l least d k).1 ≤ k ∧ (∀ j, (mIn l least d k).1 ≤ j → j < k → eqD l d j = true) ∧ ((mIn l least d k).1 = 0 ∨ eqD l d ((mIn l least d k).1 - 1) = false) ∧
    (∀ x, x ∈ (mIn l least d k).2 ↔ ∃ a n, x = ⟨a, a + d, n⟩ ∧ least ≤ n ∧ a + n < (mIn l least d k).1 ∧ Mx l d a n) ∧ (mIn l least d k).2.Pairwise (fun x y => x.a < y.a) ∧ (mIn l least d k).2.length ≤ k
  | 0 => by simp [mIn]
  | k + 1 => by
    obtain ⟨h1, h2, h3, h4, h5, h6⟩ := mIn_inv least d k
    rw [mIn]
    generalize mIn l least d k = st at *
    obtain ⟨f, out⟩ := st
    simp only at *
    by_cases he : eqD l d k = true
    · rw [if_pos he]
      refine ⟨by omega, fun j hj1 hj2 => ?_, h3, h4, h5, Nat.le_succ_of_le h6⟩
      by_cases hjk : j = k
      · subst hjk; exact he
      · exact h2 j hj1 (by omega)
    · have he' : eqD l d k = false := by simpa using he
      rw [if_neg he]
      refine ⟨by simp, fun j hj1 hj2 => by simp only at hj1; omega, .inr (by simpa using he'), ?_, ?_, ?_⟩
      · intro x
        have hM : Mx l d f (k - f) := ⟨fun i hi => h2 (f + i) (by omega) (by omega), by rw [show f + (k - f) = k by omega]; exact he', h3⟩
        have key : (∃ a n, x = ⟨a, a + d, n⟩ ∧ least ≤ n ∧ a + n < k + 1 ∧ Mx l d a n) ↔ (x ∈ out ∨ (least ≤ k - f ∧ x = ⟨f, f + d, k - f⟩)) := by
          constructor
          · rintro ⟨a, n, rfl, hn, hak, hm⟩
            by_cases hlt : a + n < f
            · exact .inl ((h4 _).2 ⟨a, n, rfl, hn, hlt, hm⟩)
            · have hk : a + n = k := by
                by_cases hlt2 : a + n < k
                · have := h2 (a + n) (by omega) hlt2; rw [hm.2.1] at this; simp at this
                · omega
              have haf : a = f := by
                rcases Nat.lt_trichotomy a f with h | h | h
                · rcases h3 with h3 | h3
                  · omega
                  · have := hm.1 (f - 1 - a) (by omega)
                    rw [show a + (f - 1 - a) = f - 1 by omega, h3] at this; simp at this
                · exact h
                · rcases hm.2.2 with h0 | h0
                  · omega
                  · have := h2 (a - 1) (by omega) (by omega); rw [h0] at this; simp at this
              subst haf
              have : n = k - a := by omega
              subst this
              exact .inr ⟨hn, rfl⟩
          · rintro (h | ⟨h, rfl⟩)
            · obtain ⟨a, n, rfl, hn, hlt, hm⟩ := (h4 _).1 h
              exact ⟨a, n, rfl, hn, by omega, hm⟩
            · exact ⟨f, k - f, rfl, h, by omega, hM⟩
        rw [key]
        simp only
        by_cases hl : least ≤ k - f
        · simp [hl]
        · simp [hl]
      · simp only
        by_cases hl : least ≤ k - f
        · rw [if_pos hl, List.pairwise_append]
          refine ⟨h5, by simp, fun x hx y hy => ?_⟩
          obtain ⟨a, n, rfl, _, hlt, _⟩ := (h4 x).1 hx
          simp at hy
          subst hy
          simp only; omega
        · rw [if_neg hl]; exact h5
      · simp only
        by_cases hl : least ≤ k - f
        · rw [if_pos hl, List.length_append, List.length_singleton]; omega
        · rw [if_neg hl]; omega
theorem mIn_mem (least d : Nat) (hl : 1 ≤ least) (hd : d ≤ l.length) (x : Rep) : x ∈ (mIn l least d (l.length - d + 1)).2 ↔ ∃ a n, x = ⟨a, a + d, n⟩ ∧ least ≤ n ∧ Mx l d a n := by
  obtain ⟨h1, h2, h3, h4, _, _⟩ := mIn_inv l least d (l.length - d + 1)
  have hf : (mIn l least d (l.length - d + 1)).1 = l.length - d + 1 := by
    by_cases he : (mIn l least d (l.length - d + 1)).1 = l.length - d + 1
    · exact he
    · have := h2 (l.length - d) (by omega) (by omega)
      unfold eqD at this
      simp at this
      omega
  rw [h4, hf]
  constructor
  · rintro ⟨a, n, h, h5, _, h6⟩; exact ⟨a, n, h, h5, h6⟩
  · rintro ⟨a, n, h, h5, h6⟩
    refine ⟨a, n, h, h5, ?_, h6⟩
    have := h6.1 (n - 1) (by omega)
    unfold eqD at this
    simp at this
    omega
theorem mOut_inv (least : Nat) (hl : 1 ≤ least) : ∀ k, k ≤ l.length → (∀ x, x ∈ mOut l least k ↔ ∃ d a n, 1 ≤ d ∧ d ≤ k ∧ x = ⟨a, a + d, n⟩ ∧ least ≤ n ∧ Mx l d a n) ∧ (mOut l least k).Pairwise (· ≠ ·) ∧ (mOut l least k).length ≤ k * (l.length + 1)
  | 0, _ => by
    refine ⟨fun x => ?_, by simp [mOut], by simp [mOut]⟩
    simp [mOut]
    intro d h1 h2; omega
  | k + 1, hk => by
    obtain ⟨h1, h2, h3⟩ := mOut_inv least hl k (by omega)
    obtain ⟨_, _, _, _, h5, h6⟩ := mIn_inv l least (k + 1) (l.length - (k + 1) + 1)
    have hm := mIn_mem l least (k + 1) hl hk
    rw [mOut]
    refine ⟨fun x => ?_, ?_, ?_⟩
    · rw [List.mem_append, h1, hm]
      constructor
      · rintro (⟨d, a, n, a1, a2, a3⟩ | ⟨a, n, a1⟩)
        · exact ⟨d, a, n, a1, by omega, a3⟩
        · exact ⟨k + 1, a, n, by omega, by omega, a1⟩
      · rintro ⟨d, a, n, a1, a2, a3⟩
        by_cases hd : d = k + 1
        · subst hd; exact .inr ⟨a, n, a3⟩
        · exact .inl ⟨d, a, n, a1, by omega, a3⟩
    · rw [List.pairwise_append]
      refine ⟨h2, h5.imp (fun {x y} h e => by subst e; omega), fun x hx y hy => ?_⟩
      obtain ⟨d, a, n, a1, a2, rfl, _⟩ := (h1 x).1 hx
      obtain ⟨a', n', rfl, _⟩ := (hm y).1 hy
      intro e
      injection e with e1 e2 e3
      omega
    · rw [List.length_append, Nat.succ_mul]
      have : l.length - (k + 1) + 1 ≤ l.length + 1 := by omega
      omega
/-- how far a row goes -/
def run (d : Nat) : Nat → Nat → Nat
  | 0, _ => 0
  | f + 1, j => if eqD l d j then run d f (j + 1) + 1 else 0
theorem run_inv (d : Nat) : ∀ f j, l.length ≤ j + f → (∀ i, i < run l d f j → eqD l d (j + i) = true) ∧ eqD l d (j + run l d f j) = false
  | 0, j, h => by
    exact ⟨by simp [run], eqD_out l (by rw [run]; omega)⟩
  | f + 1, j, h => by
    obtain ⟨h1, h2⟩ := run_inv d f (j + 1) (by omega)
    rw [run]
    by_cases he : eqD l d j = true
    · rw [if_pos he]
      refine ⟨fun i hi => ?_, by rw [show j + (run l d f (j + 1) + 1) = j + 1 + run l d f (j + 1) by omega]; exact h2⟩
      rcases Nat.eq_zero_or_pos i with rfl | hp
      · exact he
      · have := h1 (i - 1) (by omega)
        rwa [show j + 1 + (i - 1) = j + i by omega] at this
    · rw [if_neg he]
      exact ⟨by simp, by simpa using he⟩
/-- what begins at two marks -/
def cand (least a b : Nat) : List Rep :=
  if eqD l (b - a) a && (a == 0 || !eqD l (b - a) (a - 1)) && decide (least ≤ run l (b - a) l.length a) then [⟨a, b, run l (b - a) l.length a⟩] else []
def rIn (least a : Nat) : Nat → List Rep
  | 0 => []
  | k + 1 => rIn least a k ++ cand l least a (a + 1 + k)
def rOut (least : Nat) : Nat → List Rep
  | 0 => []
  | a + 1 => rOut least a ++ rIn l least a (l.length - a - 1)
theorem cand_mem (least a b : Nat) (hl : 1 ≤ least) (_ : a < b) (x : Rep) : x ∈ cand l least a b ↔ ∃ n, x = ⟨a, b, n⟩ ∧ least ≤ n ∧ Mx l (b - a) a n := by
  obtain ⟨r1, r2⟩ := run_inv l (b - a) l.length a (by omega)
  unfold cand
  constructor
  · intro h
    split at h
    · rename_i hc
      simp at hc h
      obtain ⟨⟨c1, c2⟩, c3⟩ := hc
      exact ⟨_, h, c3, r1, r2, c2⟩
    · simp at h
  · rintro ⟨n, rfl, hn, hm⟩
    have hr : run l (b - a) l.length a = n := by
      have h0 : Mx l (b - a) a (run l (b - a) l.length a) := ⟨r1, r2, hm.2.2⟩
      exact h0.uniq hm
    have h0 := hm.1 0 (by omega)
    rw [if_pos (by simp only [hr, Nat.add_zero] at *; simp [h0, hn]; exact hm.2.2)]
    simp [hr]
theorem rIn_mem (least a : Nat) (hl : 1 ≤ least) : ∀ k x, x ∈ rIn l least a k ↔ ∃ d n, 1 ≤ d ∧ d ≤ k ∧ x = ⟨a, a + d, n⟩ ∧ least ≤ n ∧ Mx l d a n
  | 0, x => by
    simp [rIn]
    intro d h1 h2; omega
  | k + 1, x => by
    rw [rIn, List.mem_append, rIn_mem least a hl k, cand_mem l least a _ hl (by omega), show a + 1 + k - a = k + 1 by omega]
    constructor
    · rintro (⟨d, n, a1, a2, a3⟩ | ⟨n, a1, a2⟩)
      · exact ⟨d, n, a1, by omega, a3⟩
      · exact ⟨k + 1, n, by omega, by omega, by rw [a1]; congr 1; omega, a2⟩
    · rintro ⟨d, n, a1, a2, a3, a4⟩
      by_cases hd : d = k + 1
      · subst hd; exact .inr ⟨n, by rw [a3]; congr 1; omega, a4⟩
      · exact .inl ⟨d, n, a1, by omega, a3, a4⟩
theorem rOut_mem (least : Nat) (hl : 1 ≤ least) : ∀ k x, x ∈ rOut l least k ↔ ∃ d a n, a < k ∧ 1 ≤ d ∧ d ≤ l.length - a - 1 ∧ x = ⟨a, a + d, n⟩ ∧ least ≤ n ∧ Mx l d a n
  | 0, x => by simp [rOut]
  | k + 1, x => by
    rw [rOut, List.mem_append, rOut_mem least hl k, rIn_mem l least k hl]
    constructor
    · rintro (⟨d, a, n, a1, a2⟩ | ⟨d, n, a1⟩)
      · exact ⟨d, a, n, by omega, a2⟩
      · exact ⟨d, k, n, by omega, a1⟩
    · rintro ⟨d, a, n, a1, a2⟩
      by_cases ha : a = k
      · subst ha; exact .inr ⟨d, n, a2⟩
      · exact .inl ⟨d, a, n, by omega, a2⟩
/-- the order of the pairs of marks -/
def keyR (x y : Rep) : Prop := x.a < y.a ∨ x.a = y.a ∧ x.b < y.b
def ltR (x y : Rep) : Prop := y.n < x.n ∨ x.n = y.n ∧ keyR x y
def geR (y x : Rep) : Bool := decide (x.n ≤ y.n)
theorem ltR_irrefl (x : Rep) : ¬ ltR x x := by unfold ltR keyR; omega
theorem ltR_trans (x y z : Rep) (h1 : ltR x y) (h2 : ltR y z) : ltR x z := by unfold ltR keyR at *; omega
theorem ltR_total (x y : Rep) (h : x ≠ y) : ltR x y ∨ ltR y x := by
  by_cases h1 : x.a = y.a
  · by_cases h2 : x.b = y.b
    · by_cases h3 : x.n = y.n
      · exact absurd (by cases x; cases y; simp_all) h
      · unfold ltR; omega
    · unfold ltR keyR; omega
  · unfold ltR keyR; omega
theorem rIn_pw (least a : Nat) (hl : 1 ≤ least) : ∀ k, (rIn l least a k).Pairwise keyR ∧ (rIn l least a k).length ≤ k
  | 0 => by simp [rIn]
  | k + 1 => by
    obtain ⟨h1, h2⟩ := rIn_pw least a hl k
    rw [rIn]
    have hc : (cand l least a (a + 1 + k)).length ≤ 1 := by unfold cand; split <;> simp
    refine ⟨?_, by rw [List.length_append]; omega⟩
    rw [List.pairwise_append]
    refine ⟨h1, ?_, fun x hx y hy => ?_⟩
    · unfold cand; split <;> simp
    · obtain ⟨d, n, a1, a2, rfl, _⟩ := (rIn_mem l least a hl k x).1 hx
      obtain ⟨n', rfl, _⟩ := (cand_mem l least a _ hl (by omega) y).1 hy
      exact .inr ⟨rfl, by simp only; omega⟩
theorem rOut_pw (least : Nat) (hl : 1 ≤ least) : ∀ k, (rOut l least k).Pairwise keyR ∧ (rOut l least k).length ≤ k * l.length
  | 0 => by simp [rOut]
  | k + 1 => by
    obtain ⟨h1, h2⟩ := rOut_pw least hl k
    obtain ⟨h3, h4⟩ := rIn_pw l least k hl (l.length - k - 1)
    rw [rOut]
    refine ⟨?_, by rw [List.length_append, Nat.succ_mul]; omega⟩
    rw [List.pairwise_append]
    refine ⟨h1, h3, fun x hx y hy => ?_⟩
    obtain ⟨d, a, n, a1, _, _, rfl, _⟩ := (rOut_mem l least hl k x).1 hx
    obtain ⟨d', n', _, _, rfl, _⟩ := (rIn_mem l least k hl _ y).1 hy
    exact .inl a1
/-- both ways list the same -/
theorem same_mem (least : Nat) (hl : 1 ≤ least) (x : Rep) : x ∈ mOut l least (l.length - 1) ↔ x ∈ rOut l least l.length := by
  rw [(mOut_inv l least hl (l.length - 1) (by omega)).1, rOut_mem l least hl]
  have hb : ∀ d a n, least ≤ n → Mx l d a n → a + d < l.length := fun d a n hn hm => by
    have := hm.1 0 (by omega)
    unfold eqD at this
    simp at this
    omega
  constructor
  · rintro ⟨d, a, n, h1, h2, h3, h4, h5⟩
    have := hb d a n h4 h5
    exact ⟨d, a, n, by omega, h1, by omega, h3, h4, h5⟩
  · rintro ⟨d, a, n, h1, h2, h3, h4, h5, h6⟩
    exact ⟨d, a, n, h2, by omega, h4, h5, h6⟩
/-- what the reference has -/
def refR (least : Nat) : List Rep := insAll geR [] (rOut l least l.length)
theorem refR_pw (least : Nat) (hl : 1 ≤ least) : (refR l least).Pairwise ltR :=
  insAll_pw ltR_trans (fun y x hk hg => by
    have hg : x.n ≤ y.n := of_decide_eq_true hg
    by_cases h : x.n = y.n
    · exact .inr ⟨h.symm, hk⟩
    · exact .inl (by omega)) (fun y x hk hg => by
    have hg : ¬ x.n ≤ y.n := of_decide_eq_false hg
    exact .inl (by omega)) (by simp) (rOut_pw l least hl l.length).1 (by simp)
/-- a permutation of what is found, in order, is what the reference has -/
theorem sorted_is (least : Nat) (hl : 1 ≤ least) {d : List Rep} (hp : d.Perm (mOut l least (l.length - 1))) (hs : d.Pairwise (fun x y => ¬ ltR y x)) : d = refR l least := by
  have hn : d.Pairwise (· ≠ ·) := (hp.pairwise_iff (fun {x y} h => Ne.symm h)).2 (mOut_inv l least hl (l.length - 1) (by omega)).2.1
  have hs2 : d.Pairwise ltR := by
    refine (hs.and hn).imp ?_
    rintro x y ⟨h1, h2⟩
    rcases ltR_total x y h2 with h | h
    · exact h
    · exact absurd h h1
  refine pw_ext ltR_irrefl ltR_trans hs2 (refR_pw l least hl) fun x => ?_
  rw [hp.mem_iff, same_mem l least hl, refR, mem_insAll]
  simp
theorem refR_length (least : Nat) : (refR l least).length = (rOut l least l.length).length := by
  rw [refR, insAll_length]; simp
theorem len_le : ∀ (l1 l2 : List Rep), l1.Pairwise (· ≠ ·) → (∀ x ∈ l1, x ∈ l2) → l1.length ≤ l2.length
  | [], _, _, _ => by simp
  | x :: l1, l2, h1, h2 => by
    rw [List.pairwise_cons] at h1
    have hx := h2 x (by simp)
    have := len_le l1 (l2.erase x) h1.2 (fun y hy => (List.mem_erase_of_ne (fun e => h1.1 y hy e.symm)).2 (h2 y (by simp [hy])))
    rw [List.length_erase_of_mem hx] at this
    have := List.length_pos_of_mem hx
    rw [List.length_cons]; omega
/-- how many there are -/
theorem same_length (least : Nat) (hl : 1 ≤ least) : (mOut l least (l.length - 1)).length = (rOut l least l.length).length := by
  have h1 := len_le _ _ (mOut_inv l least hl (l.length - 1) (by omega)).2.1 (fun x hx => (same_mem l least hl x).1 hx)
  have h2 := len_le (rOut l least l.length) _ ((rOut_pw l least hl l.length).1.imp (fun {x y} h e => by subst e; unfold keyR at h; omega)) (fun x hx => (same_mem l least hl x).2 hx)
  omega
end
end Go.Proofs.Ytoiobhjbikfpmaa
