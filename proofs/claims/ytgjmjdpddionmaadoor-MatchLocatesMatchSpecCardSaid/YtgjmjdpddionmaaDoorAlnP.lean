/- Plain: the best scores of an alignment; the links of the best one; what links cost. -/
import Derived.Test.YtgjmjdpddionmaaDoorBase
namespace Go.Dw
/-- a score: the cost, the links -/
abbrev Scr := Int × Int
def bfr (x y : Scr) : Bool := decide (x.1 < y.1) || (decide (x.1 = y.1) && decide (y.2 < x.2))
def sel (s t : Scr) : Scr := if bfr t s then t else s
def lnk (s : Scr) (d : Int) : Scr := (s.1 + d, s.2 + 1)
def skp (s : Scr) (g : Int) : Scr := (s.1 + g, s.2)
/-- a row of the table, from its end on: m marks of the second list are left, n + 1 of the first -/
def bsRow (g : Int) (n : Nat) (prev : Nat → Scr) (d : Nat → Int) : Nat → Scr
  | 0 => (g * (n + 1 : Int), 0)
  | m + 1 => sel (sel (sel (g * ((n : Int) + 1 + (m + 1)), 0) (lnk (prev m) (d m))) (skp (prev (m + 1)) g)) (skp (bsRow g n prev d m) g)
/-- the best score where n marks of the first list and m of the second are left; D n m: how far the marks are apart behind which n and m are left -/
def bs (g : Int) (D : Nat → Nat → Int) : Nat → Nat → Scr
  | 0 => fun m => (g * (m : Int), 0)
  | n + 1 => bsRow g n (bs g D n) (D n)
section
variable {g : Int} {D : Nat → Nat → Int}
theorem bs_0 (m : Nat) : bs g D 0 m = (g * (m : Int), 0) := rfl
theorem bs_n0 (n : Nat) : bs g D n 0 = (g * (n : Int), 0) := by
  cases n with
  | zero => rfl
  | succ n => show (g * (n + 1 : Int), (0 : Int)) = _; rw [Int.natCast_add]; rfl
theorem bs_ss (n m : Nat) : bs g D (n + 1) (m + 1) = sel (sel (sel (g * ((n : Int) + 1 + (m + 1)), 0) (lnk (bs g D n m) (D n m))) (skp (bs g D n (m + 1)) g)) (skp (bs g D (n + 1) m) g) := rfl

theorem g_step (g a : Int) : g * a + g = g * (a + 1) := by rw [Int.mul_add, Int.mul_one]
def le2 (x y : Scr) : Prop := x.1 < y.1 ∨ (x.1 = y.1 ∧ y.2 ≤ x.2)
theorem bfr_iff (x y : Scr) : bfr x y = true ↔ x.1 < y.1 ∨ (x.1 = y.1 ∧ y.2 < x.2) := by simp [bfr]
theorem sel_le_l (s t : Scr) : le2 (sel s t) s := by
  unfold sel le2
  split
  · rename_i h; rw [bfr_iff] at h; omega
  · omega
theorem sel_le_r (s t : Scr) : le2 (sel s t) t := by
  unfold sel le2
  split
  · omega
  · rename_i h; rw [bfr_iff] at h; omega
theorem le2_trans {x y z : Scr} (h : le2 x y) (k : le2 y z) : le2 x z := by unfold le2 at *; omega
theorem sel_or (s t : Scr) : sel s t = s ∨ sel s t = t := by unfold sel; split <;> simp
theorem bs_le0 (n m : Nat) : le2 (bs g D n m) (g * ((n : Int) + m), 0) := by
  cases n with
  | zero => rw [bs_0]; exact .inr ⟨by simp, by simp⟩
  | succ n =>
    cases m with
    | zero => rw [bs_n0]; exact .inr ⟨by simp, by simp⟩
    | succ m =>
      rw [bs_ss]
      have := le2_trans (sel_le_l (sel (sel (g * ((n : Int) + 1 + (m + 1)), 0) (lnk (bs g D n m) (D n m))) (skp (bs g D n (m + 1)) g)) (skp (bs g D (n + 1) m) g)) (le2_trans (sel_le_l _ _) (sel_le_l _ _))
      simpa using this
theorem bs_leL (n m : Nat) : le2 (bs g D (n + 1) (m + 1)) (lnk (bs g D n m) (D n m)) := by
  rw [bs_ss]; exact le2_trans (sel_le_l _ _) (le2_trans (sel_le_l _ _) (sel_le_r _ _))
theorem bs_leD (n m : Nat) : le2 (bs g D (n + 1) m) (skp (bs g D n m) g) := by
  cases m with
  | zero =>
    rw [bs_n0, bs_n0]
    refine .inr ⟨?_, by simp [skp]⟩
    simp [skp, Int.mul_add]
  | succ m => rw [bs_ss]; exact le2_trans (sel_le_l _ _) (sel_le_r _ _)
theorem bs_leR (n m : Nat) : le2 (bs g D n (m + 1)) (skp (bs g D n m) g) := by
  cases n with
  | zero =>
    rw [bs_0, bs_0]
    refine .inr ⟨?_, by simp [skp]⟩
    simp [skp, Int.mul_add]
  | succ n => rw [bs_ss]; exact sel_le_r _ _
theorem bs_one (n m : Nat) : bs g D (n + 1) (m + 1) = (g * ((n : Int) + 1 + (m + 1)), 0) ∨ bs g D (n + 1) (m + 1) = lnk (bs g D n m) (D n m) ∨ bs g D (n + 1) (m + 1) = skp (bs g D n (m + 1)) g ∨ bs g D (n + 1) (m + 1) = skp (bs g D (n + 1) m) g := by
  rw [bs_ss]
  rcases sel_or (sel (sel (g * ((n : Int) + 1 + (m + 1)), 0) (lnk (bs g D n m) (D n m))) (skp (bs g D n (m + 1)) g)) (skp (bs g D (n + 1) m) g) with h | h
  · rw [h]
    rcases sel_or (sel (g * ((n : Int) + 1 + (m + 1)), 0) (lnk (bs g D n m) (D n m))) (skp (bs g D n (m + 1)) g) with h | h
    · rw [h]
      rcases sel_or (g * ((n : Int) + 1 + (m + 1)), 0) (lnk (bs g D n m) (D n m)) with h | h
      · exact .inl h
      · exact .inr (.inl h)
    · exact .inr (.inr (.inl h))
  · exact .inr (.inr (.inr h))
/-- what holds of each best score -/
def Fit (g : Int) (n m : Nat) (s : Scr) : Prop := 0 ≤ s.1 ∧ s.1 ≤ g * ((n : Int) + m) ∧ 0 ≤ s.2 ∧ s.2 ≤ n ∧ s.2 ≤ m ∧ (s.2 = 0 → s.1 = g * ((n : Int) + m))
theorem bs_fit (hg : 0 ≤ g) (hD : ∀ n m, 0 ≤ D n m) : ∀ n m, Fit g n m (bs g D n m) := by
  intro n
  induction n with
  | zero =>
    intro m
    rw [bs_0]
    have : 0 ≤ g * (m : Int) := Int.mul_nonneg hg (by omega)
    exact ⟨this, by simp, by simp, by simp, by simp, by simp⟩
  | succ n ihn =>
    intro m
    induction m with
    | zero =>
      rw [bs_n0]
      have : 0 ≤ g * ((n + 1 : Nat) : Int) := Int.mul_nonneg hg (by omega)
      exact ⟨this, by simp, by simp, by simp; omega, by simp, by simp⟩
    | succ m ihm =>
      have h0 := bs_le0 (g := g) (D := D) (n + 1) (m + 1)
      have a1 := ihn m
      have a2 := ihn (m + 1)
      have e1 : g * (((n : Nat) : Int) + ((m + 1 : Nat) : Int)) + g = g * (((n + 1 : Nat) : Int) + ((m + 1 : Nat) : Int)) := by
        rw [g_step]; congr 1 <;> omega
      have e2 : g * (((n + 1 : Nat) : Int) + ((m : Nat) : Int)) + g = g * (((n + 1 : Nat) : Int) + ((m + 1 : Nat) : Int)) := by
        rw [g_step]; congr 1 <;> omega
      have e0 : 0 ≤ g * (((n + 1 : Nat) : Int) + ((m + 1 : Nat) : Int)) := Int.mul_nonneg hg (by omega)
      have hd := hD n m
      unfold Fit le2 at *
      rcases bs_one (g := g) (D := D) n m with h | h | h | h
      · rw [h]; simp only; refine ⟨?_, ?_, by omega, by omega, by omega, fun _ => ?_⟩
        · simpa using e0
        · simp
        · simp
      · rw [h] at h0 ⊢; simp only [lnk] at *; refine ⟨by omega, by omega, by omega, by omega, by omega, by omega⟩
      · rw [h]; simp only [skp] at *; refine ⟨by omega, by omega, by omega, by omega, by omega, by omega⟩
      · rw [h]; simp only [skp] at *; refine ⟨by omega, by omega, by omega, by omega, by omega, by omega⟩
/-- the score that begins with the link behind which p and q are left, where n and m are -/
def via (g : Int) (D : Nat → Nat → Int) (n m p q : Nat) : Scr := ((bs g D p q).1 + D p q + g * ((n : Int) - 1 - p + ((m : Int) - 1 - q)), (bs g D p q).2 + 1)
theorem bs_via : ∀ n m, 0 < (bs g D n m).2 → ∃ p q, p < n ∧ q < m ∧ bs g D n m = via g D n m p q := by
  intro n
  induction n with
  | zero => intro m h; rw [bs_0] at h; simp at h
  | succ n ihn =>
    intro m
    induction m with
    | zero => intro h; rw [bs_n0] at h; simp at h
    | succ m ihm =>
      intro h
      rcases bs_one (g := g) (D := D) n m with e | e | e | e
      · rw [e] at h; simp at h
      · refine ⟨n, m, by omega, by omega, ?_⟩
        rw [e]; unfold lnk via
        have : ((n + 1 : Nat) : Int) - 1 - n + (((m + 1 : Nat) : Int) - 1 - m) = 0 := by omega
        rw [this]; simp
      · rw [e] at h
        obtain ⟨p, q, hp, hq, hv⟩ := ihn (m + 1) h
        refine ⟨p, q, by omega, by omega, ?_⟩
        rw [e, hv]; unfold skp via
        have : ((n + 1 : Nat) : Int) - 1 - p + (((m + 1 : Nat) : Int) - 1 - q) = ((n : Nat) : Int) - 1 - p + (((m + 1 : Nat) : Int) - 1 - q) + 1 := by omega
        rw [this, ← g_step]
        ext
        · simp only; omega
        · rfl
      · rw [e] at h
        obtain ⟨p, q, hp, hq, hv⟩ := ihm h
        refine ⟨p, q, by omega, by omega, ?_⟩
        rw [e, hv]; unfold skp via
        have : ((n + 1 : Nat) : Int) - 1 - p + (((m + 1 : Nat) : Int) - 1 - q) = ((n + 1 : Nat) : Int) - 1 - p + (((m : Nat) : Int) - 1 - q) + 1 := by omega
        rw [this, ← g_step]
        ext
        · simp only; omega
        · rfl
/-- no link is better -/
theorem bs_le_via : ∀ n m p q, p < n → q < m → (bs g D n m).1 ≤ (via g D n m p q).1 := by
  have row : ∀ k n m, (bs g D (n + k) m).1 ≤ (bs g D n m).1 + g * k := by
    intro k
    induction k with
    | zero => intro n m; simp
    | succ k ih =>
      intro n m
      have h1 := ih n m
      have h2 := bs_leD (g := g) (D := D) (n + k) m
      unfold le2 skp at h2
      have e : g * ((k + 1 : Nat) : Int) = g * (k : Int) + g := by rw [Int.natCast_add, Int.mul_add]; simp
      rw [e]
      show (bs g D (n + k + 1) m).1 ≤ _
      simp only at h2; omega
  have col : ∀ k n m, (bs g D n (m + k)).1 ≤ (bs g D n m).1 + g * k := by
    intro k
    induction k with
    | zero => intro n m; simp
    | succ k ih =>
      intro n m
      have h1 := ih n m
      have h2 := bs_leR (g := g) (D := D) n (m + k)
      unfold le2 skp at h2
      have e : g * ((k + 1 : Nat) : Int) = g * (k : Int) + g := by rw [Int.natCast_add, Int.mul_add]; simp
      rw [e]
      show (bs g D n (m + k + 1)).1 ≤ _
      simp only at h2; omega
  intro n m p q hp hq
  obtain ⟨i, rfl⟩ : ∃ i, n = p + 1 + i := ⟨n - (p + 1), by omega⟩
  obtain ⟨j, rfl⟩ : ∃ j, m = q + 1 + j := ⟨m - (q + 1), by omega⟩
  have h1 := row i (p + 1) (q + 1 + j)
  have h2 := col j (p + 1) (q + 1)
  have h3 := bs_leL (g := g) (D := D) p q
  unfold le2 lnk at h3
  unfold via
  have e : g * ((((p + 1 + i : Nat)) : Int) - 1 - p + (((q + 1 + j : Nat) : Int) - 1 - q)) = g * i + g * j := by rw [← Int.mul_add]; congr 1; omega
  simp only at h3 ⊢
  rw [e]; omega
/-- the cost in the other direction -/
theorem bs_swap {D' : Nat → Nat → Int} (h : ∀ n m, D' m n = D n m) : ∀ n m, (bs g D' m n).1 = (bs g D n m).1 := by
  intro n
  induction n with
  | zero => intro m; rw [bs_n0, bs_0]
  | succ n ihn =>
    intro m
    induction m with
    | zero => rw [bs_n0, bs_0]
    | succ m ihm =>
      have a1 := ihn m
      have a2 := ihn (m + 1)
      have p0 := bs_le0 (g := g) (D := D) (n + 1) (m + 1)
      have p1 := bs_leL (g := g) (D := D) n m
      have p2 := bs_leD (g := g) (D := D) n (m + 1)
      have p3 := bs_leR (g := g) (D := D) (n + 1) m
      have q0 := bs_le0 (g := g) (D := D') (m + 1) (n + 1)
      have q1 := bs_leL (g := g) (D := D') m n
      have q2 := bs_leD (g := g) (D := D') m (n + 1)
      have q3 := bs_leR (g := g) (D := D') (m + 1) n
      have e0 : g * (((n + 1 : Nat) : Int) + ((m + 1 : Nat) : Int)) = g * (((m + 1 : Nat) : Int) + ((n + 1 : Nat) : Int)) := by congr 1; omega
      have e1 : g * ((n : Int) + 1 + (m + 1)) = g * (((n + 1 : Nat) : Int) + ((m + 1 : Nat) : Int)) := by congr 1
      have e2 : g * ((m : Int) + 1 + (n + 1)) = g * (((m + 1 : Nat) : Int) + ((n + 1 : Nat) : Int)) := by congr 1
      have hd := h n m
      have o1 := bs_one (g := g) (D := D) n m
      have o2 := bs_one (g := g) (D := D') m n
      unfold le2 lnk skp at *
      simp only at *
      apply Int.le_antisymm
      · rcases o1 with o | o | o | o <;> rw [o] <;> simp only <;> omega
      · rcases o2 with o | o | o | o <;> rw [o] <;> simp only <;> omega
/-- equal lists -/
theorem bs_diag (hg : 0 ≤ g) (hD : ∀ n m, 0 ≤ D n m) (h0 : ∀ n, D n n = 0) : ∀ n, (bs g D n n).1 = 0 := by
  intro n
  have h1 := (bs_fit hg hD n n).1
  have h2 : (bs g D n n).1 ≤ 0 := by
    clear h1
    induction n with
    | zero => rw [bs_0]; simp
    | succ n ih =>
      have := bs_leL (g := g) (D := D) n n
      have := h0 n
      unfold le2 lnk at *
      simp only at *; omega
  omega
end
/-- how many bits are set -/
def popN : Nat → Nat → Nat
  | 0, _ => 0
  | f + 1, n => n % 2 + popN f (n / 2)
/-- in how many bits two marks differ -/
def bd (a b : Int) : Int := popN 8 (a.toNat ^^^ b.toNat)
theorem popN_le : ∀ f n, popN f n ≤ f
  | 0, _ => Nat.le_refl _
  | f + 1, n => by have := popN_le f (n / 2); unfold popN; omega
theorem bd_nn (a b : Int) : 0 ≤ bd a b := by unfold bd; omega
theorem bd_le (a b : Int) : bd a b ≤ 8 := by unfold bd; have := popN_le 8 (a.toNat ^^^ b.toNat); omega
theorem bd_comm (a b : Int) : bd a b = bd b a := by unfold bd; rw [Nat.xor_comm]
theorem bd_self (a : Int) : bd a a = 0 := by unfold bd; rw [Nat.xor_self]; rfl
/-- how far the marks are apart behind which n and m are left -/
def DD (a b : List Int) (n m : Nat) : Int := bd (a.getD (a.length - 1 - n) 0) (b.getD (b.length - 1 - m) 0)
theorem DD_nn (a b : List Int) (n m : Nat) : 0 ≤ DD a b n m := bd_nn _ _
theorem DD_swap (a b : List Int) (n m : Nat) : DD b a m n = DD a b n m := bd_comm _ _
theorem DD_self (a : List Int) (n : Nat) : DD a a n n = 0 := bd_self _
/-- the best score from the places i and j on -/
def bst (g : Int) (a b : List Int) (i j : Nat) : Scr := bs g (DD a b) (a.length - i) (b.length - j)
section
variable {g : Int} {a b : List Int}
/-- the score that begins with the link of p and q -/
def lkS (g : Int) (a b : List Int) (p q : Nat) : Scr := ((bst g a b (p + 1) (q + 1)).1 + bd (a.getD p 0) (b.getD q 0), (bst g a b (p + 1) (q + 1)).2 + 1)
def hitB (g : Int) (a b : List Int) (i j p q : Nat) : Bool := decide ((lkS g a b p q).1 + g * ((p : Int) - i + q - j) = (bst g a b i j).1 ∧ (lkS g a b p q).2 = (bst g a b i j).2)
theorem via_eq {i j p q : Nat} (hp : p < a.length) (hq : q < b.length) (hi : i ≤ p) (hj : j ≤ q) :
    via g (DD a b) (a.length - i) (b.length - j) (a.length - (p + 1)) (b.length - (q + 1)) = ((lkS g a b p q).1 + g * ((p : Int) - i + q - j), (lkS g a b p q).2) := by
  unfold via lkS bst
  have e1 : DD a b (a.length - (p + 1)) (b.length - (q + 1)) = bd (a.getD p 0) (b.getD q 0) := by
    unfold DD
    rw [show a.length - 1 - (a.length - (p + 1)) = p by omega, show b.length - 1 - (b.length - (q + 1)) = q by omega]
  rw [e1]
  congr 3
  omega
theorem bst_fit (hg : 0 ≤ g) (i j : Nat) : Fit g (a.length - i) (b.length - j) (bst g a b i j) := bs_fit hg (DD_nn a b) _ _
/-- the least link with which a best alignment begins -/
def Nxt (g : Int) (a b : List Int) (i j p q : Nat) : Prop :=
  i ≤ p ∧ p < a.length ∧ j ≤ q ∧ q < b.length ∧ hitB g a b i j p q = true ∧ (∀ p' q', i ≤ p' → p' < p → j ≤ q' → q' < b.length → hitB g a b i j p' q' = false) ∧ ∀ q', j ≤ q' → q' < q → hitB g a b i j p q' = false
theorem Nxt.uniq {i j p q p' q' : Nat} (h : Nxt g a b i j p q) (k : Nxt g a b i j p' q') : p = p' ∧ q = q' := by
  obtain ⟨h1, h2, h3, h4, h5, h6, h7⟩ := h
  obtain ⟨k1, k2, k3, k4, k5, k6, k7⟩ := k
  have hp : p = p' := by
    rcases Nat.lt_trichotomy p p' with c | c | c
    · rw [k6 p q h1 c h3 h4] at h5; cases h5
    · exact c
    · rw [h6 p' q' k1 c k3 k4] at k5; cases k5
  subst hp
  refine ⟨rfl, ?_⟩
  rcases Nat.lt_trichotomy q q' with c | c | c
  · rw [k7 q h3 c] at h5; cases h5
  · exact c
  · rw [h7 q' k3 c] at k5; cases k5
/-- somewhere there is one -/
theorem hit_some {i j : Nat} (hl : 0 < (bst g a b i j).2) : ∃ p q, i ≤ p ∧ p < a.length ∧ j ≤ q ∧ q < b.length ∧ hitB g a b i j p q = true := by
  obtain ⟨n, m, hn, hm, hv⟩ := bs_via (g := g) (D := DD a b) _ _ hl
  refine ⟨a.length - (n + 1), b.length - (m + 1), by omega, by omega, by omega, by omega, ?_⟩
  have := via_eq (g := g) (a := a) (b := b) (i := i) (j := j) (p := a.length - (n + 1)) (q := b.length - (m + 1)) (by omega) (by omega) (by omega) (by omega)
  rw [show a.length - (a.length - (n + 1) + 1) = n by omega, show b.length - (b.length - (m + 1) + 1) = m by omega, ← hv] at this
  unfold hitB
  have e1 := congrArg Prod.fst this
  have e2 := congrArg Prod.snd this
  simp only at e1 e2
  unfold bst at *
  simp only [decide_eq_true_eq]
  exact ⟨e1.symm, e2.symm⟩
/-- behind a link there is one link less -/
theorem hit_len {i j p q : Nat} (h : hitB g a b i j p q = true) : (bst g a b i j).2 = (bst g a b (p + 1) (q + 1)).2 + 1 := by
  unfold hitB lkS at h
  simp only [decide_eq_true_eq] at h
  exact h.2.symm
theorem hit_cost {i j p q : Nat} (h : hitB g a b i j p q = true) : (bst g a b i j).1 = (bst g a b (p + 1) (q + 1)).1 + bd (a.getD p 0) (b.getD q 0) + g * ((p : Int) - i + q - j) := by
  unfold hitB lkS at h
  simp only [decide_eq_true_eq] at h
  exact h.1.symm
theorem bst_le {i j p q : Nat} (hi : i ≤ p) (hp : p < a.length) (hj : j ≤ q) (hq : q < b.length) : (bst g a b i j).1 ≤ (bst g a b (p + 1) (q + 1)).1 + bd (a.getD p 0) (b.getD q 0) + g * ((p : Int) - i + q - j) := by
  have h := bs_le_via (g := g) (D := DD a b) (a.length - i) (b.length - j) (a.length - (p + 1)) (b.length - (q + 1)) (by omega) (by omega)
  rw [via_eq hp hq hi hj] at h
  exact h
/-- the links of the best alignment from i and j on -/
def Path (g : Int) (a b : List Int) : Nat → Nat → List (Int × Int) → Prop
  | i, j, [] => (bst g a b i j).2 = 0
  | i, j, k :: r => 0 < (bst g a b i j).2 ∧ ∃ p q : Nat, k = ((p : Int), (q : Int)) ∧ Nxt g a b i j p q ∧ Path g a b (p + 1) (q + 1) r
theorem Path.uniq : ∀ {l l' : List (Int × Int)} {i j : Nat}, Path g a b i j l → Path g a b i j l' → l = l'
  | [], [], _, _, _, _ => rfl
  | [], _ :: _, _, _, h, k => by unfold Path at h k; omega
  | _ :: _, [], _, _, h, k => by unfold Path at h k; omega
  | x :: l, y :: l', i, j, h, k => by
    unfold Path at h k
    obtain ⟨_, p, q, rfl, hn, hr⟩ := h
    obtain ⟨_, p', q', rfl, kn, kr⟩ := k
    obtain ⟨rfl, rfl⟩ := hn.uniq kn
    rw [Path.uniq hr kr]
theorem Path.len : ∀ {l : List (Int × Int)} {i j : Nat}, Path g a b i j l → (l.length : Int) = (bst g a b i j).2
  | [], _, _, h => by unfold Path at h; simp [h]
  | x :: l, i, j, h => by
    unfold Path at h
    obtain ⟨_, p, q, rfl, hn, hr⟩ := h
    rw [hit_len hn.2.2.2.2.1, ← Path.len hr]; simp
/-- a way so far, at i and j -/
def Sofar (g : Int) (a b : List Int) (i j : Nat) (l : List (Int × Int)) : Prop := ∀ r, Path g a b i j r → Path g a b 0 0 (l ++ r)
theorem Sofar.start : Sofar g a b 0 0 [] := fun _ h => h
theorem Sofar.step {i j p q : Nat} {l : List (Int × Int)} (h : Sofar g a b i j l) (hl : 0 < (bst g a b i j).2) (hn : Nxt g a b i j p q) : Sofar g a b (p + 1) (q + 1) (l ++ [((p : Int), (q : Int))]) := by
  intro r hr
  rw [List.append_assoc]
  exact h _ ⟨hl, p, q, rfl, hn, hr⟩
theorem Sofar.fin {i j : Nat} {l : List (Int × Int)} (h : Sofar g a b i j l) (h0 : (bst g a b i j).2 = 0) : Path g a b 0 0 l := by
  have := h [] h0
  rwa [List.append_nil] at this

def ordB (k : Int × Int) : Option (Int × Int) → Bool
  | none => false
  | some p => decide (k.1 ≤ p.1 ∨ k.2 ≤ p.2)
/-- Cost: what is left of links behind those ahead of them -/
def coGo (g : Int) (a b : List Int) : Option (Int × Int) → Int → List (Int × Int) → Int × Int
  | _, c, [] => (c, 0)
  | pr, c, k :: r =>
    if ¬ (0 ≤ k.1 ∧ k.1 < a.length ∧ 0 ≤ k.2 ∧ k.2 < b.length) then (0, 1) else
    if ordB k pr then (0, 8) else
    coGo g a b (some k) (c + bd (a.getD k.1.toNat 0) (b.getD k.2.toNat 0) - 2 * g) r
/-- links from i and j on cost no less -/
def frm : Option (Int × Int) → Nat × Nat
  | none => (0, 0)
  | some p => (p.1.toNat + 1, p.2.toNat + 1)
theorem co_ge : ∀ (l : List (Int × Int)) (pr : Option (Int × Int)) (c n : Int), coGo g a b pr c l = (n, 0) → (∀ p, pr = some p → 0 ≤ p.1 ∧ 0 ≤ p.2) →
    c - g * (((a.length - (frm pr).1 : Nat) : Int) + ((b.length - (frm pr).2 : Nat) : Int)) + (bst g a b (frm pr).1 (frm pr).2).1 ≤ n
  | [], pr, c, n, h, _ => by
    unfold coGo at h
    have hn : c = n := congrArg Prod.fst h
    have h0 := bs_le0 (g := g) (D := DD a b) (a.length - (frm pr).1) (b.length - (frm pr).2)
    unfold bst
    unfold le2 at h0
    simp only at h0; omega
  | k :: r, pr, c, n, h, hp => by
    unfold coGo at h
    split at h
    · exact absurd (congrArg Prod.snd h) (by simp)
    · rename_i hr
      have hr : 0 ≤ k.1 ∧ k.1 < a.length ∧ 0 ≤ k.2 ∧ k.2 < b.length := Decidable.not_not.1 hr
      obtain ⟨r1, r2, r3, r4⟩ := hr
      split at h
      · exact absurd (congrArg Prod.snd h) (by simp)
      · rename_i ho
        have ih := co_ge r (some k) _ n h (fun p hh => by cases hh; exact ⟨r1, r3⟩)
        have hfr : (frm pr).1 ≤ k.1.toNat ∧ (frm pr).2 ≤ k.2.toNat := by
          cases pr with
          | none => exact ⟨Nat.zero_le _, Nat.zero_le _⟩
          | some p =>
            have := hp p rfl
            simp only [ordB, decide_eq_true_eq, not_or] at ho
            simp only [frm]; omega
        have hle := bst_le (g := g) (a := a) (b := b) hfr.1 (by omega : k.1.toNat < a.length) hfr.2 (by omega : k.2.toNat < b.length)
        simp only [frm] at ih
        have e : g * (((a.length - (frm pr).1 : Nat) : Int) + ((b.length - (frm pr).2 : Nat) : Int)) = g * (((a.length - (k.1.toNat + 1) : Nat) : Int) + ((b.length - (k.2.toNat + 1) : Nat) : Int)) + g * ((k.1.toNat : Int) - (frm pr).1 + k.2.toNat - (frm pr).2) + 2 * g := by
          rw [Int.mul_comm 2 g, ← Int.mul_add, ← Int.mul_add]; congr 1; omega
        rw [e]
        generalize g * (((a.length - (k.1.toNat + 1) : Nat) : Int) + ((b.length - (k.2.toNat + 1) : Nat) : Int)) = X at *
        generalize g * ((k.1.toNat : Int) - (frm pr).1 + k.2.toNat - (frm pr).2) = Y at *
        generalize bd (a.getD k.1.toNat 0) (b.getD k.2.toNat 0) = Z at *
        omega
/-- those of the best alignment cost just this -/
theorem co_path : ∀ (l : List (Int × Int)) (pr : Option (Int × Int)) (c : Int), Path g a b (frm pr).1 (frm pr).2 l → 0 ≤ g → (∀ p, pr = some p → 0 ≤ p.1 ∧ 0 ≤ p.2) →
    coGo g a b pr c l = (c - g * (((a.length - (frm pr).1 : Nat) : Int) + ((b.length - (frm pr).2 : Nat) : Int)) + (bst g a b (frm pr).1 (frm pr).2).1, 0)
  | [], pr, c, h, hg, _ => by
    unfold coGo
    unfold Path at h
    have := (bst_fit (a := a) (b := b) hg (frm pr).1 (frm pr).2).2.2.2.2.2 h
    rw [this]
    congr 1; omega
  | k :: r, pr, c, h, hg, hp => by
    unfold Path at h
    obtain ⟨_, p, q, rfl, hn, hr⟩ := h
    obtain ⟨n1, n2, n3, n4, n5, _, _⟩ := hn
    unfold coGo
    simp only at *
    rw [if_neg (by simp only [Decidable.not_not]; omega)]
    have hm : ordB ((p : Int), (q : Int)) pr = false := by
      cases pr with
      | none => rfl
      | some x =>
        have := hp x rfl
        simp only [frm] at n1 n3
        simp only [ordB, decide_eq_false_iff_not, not_or]; omega
    rw [hm, if_neg (by simp)]
    have ih := co_path r (some ((p : Int), (q : Int))) (c + bd (a.getD ((p : Int)).toNat 0) (b.getD ((q : Int)).toNat 0) - 2 * g) hr hg (fun x hx => by cases hx; exact ⟨by simp, by simp⟩)
    have hc := hit_cost n5
    have ef : frm (some ((p : Int), (q : Int))) = (p + 1, q + 1) := by simp [frm]
    rw [ef] at ih
    rw [ih, hc]
    simp only [Int.toNat_natCast]
    have e : g * (((a.length - (frm pr).1 : Nat) : Int) + ((b.length - (frm pr).2 : Nat) : Int)) = g * (((a.length - (p + 1) : Nat) : Int) + ((b.length - (q + 1) : Nat) : Int)) + g * ((p : Int) - (frm pr).1 + q - (frm pr).2) + 2 * g := by
      rw [Int.mul_comm 2 g, ← Int.mul_add, ← Int.mul_add]; congr 1; omega
    rw [e]
    congr 1; omega
end
end Go.Dw
