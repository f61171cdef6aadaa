/- Plain: credits that are compared. -/
import Derived.Test.YtibkohnoibjimaaDoorCrP
namespace Go.Proofs.YtibkohnoibjimaaDoor
open Go.RowKit Go.Dw

def sameK (a b : Crp) : Bool := decide (a.r = b.r) && decide (a.p = b.p)
theorem sameK_t {a b : Crp} : sameK a b = true ↔ a.r = b.r ∧ a.p = b.p := by unfold sameK; simp
theorem sameK_f {a b : Crp} : sameK a b = false ↔ ¬ (a.r = b.r ∧ a.p = b.p) := by rw [← sameK_t]; simp
theorem sameK_self (a : Crp) : sameK a a = true := sameK_t.2 ⟨rfl, rfl⟩
/-- the first among the first n with the same role and person -/
def fstK (l : List Crp) (c : Crp) : Nat → Option Nat
  | 0 => none
  | n + 1 => match fstK l c n with
    | some i => some i
    | none => if sameK (l.getD n dCrp) c = true then some n else none
section
variable {l : List Crp} {c : Crp}
theorem fstK_more {n i : Nat} (h : fstK l c n = some i) : ∀ m, n ≤ m → fstK l c m = some i
  | 0, hm => by
    have : n = 0 := by omega
    rw [← this]; exact h
  | m + 1, hm => by
    by_cases he : n = m + 1
    · rw [← he]; exact h
    · rw [fstK, fstK_more h m (by omega)]
theorem fstK_hit {n : Nat} (h : fstK l c n = none) (hs : sameK (l.getD n dCrp) c = true) : fstK l c (n + 1) = some n := by
  rw [fstK, h]; simp only [hs, if_true]
theorem fstK_miss {n : Nat} (h : fstK l c n = none) (hs : sameK (l.getD n dCrp) c = false) : fstK l c (n + 1) = none := by
  rw [fstK, h]; simp only [hs]; rfl
theorem fstK_some : ∀ {n i : Nat}, fstK l c n = some i → i < n ∧ sameK (l.getD i dCrp) c = true
  | 0, i, h => by simp [fstK] at h
  | n + 1, i, h => by
    rw [fstK] at h
    cases hn : fstK l c n with
    | some j =>
      rw [hn] at h
      simp only [Option.some.injEq] at h
      subst h
      have := fstK_some hn
      exact ⟨by omega, this.2⟩
    | none =>
      rw [hn] at h
      simp only at h
      split at h
      · rename_i hs
        injection h with h
        subst h
        exact ⟨by omega, hs⟩
      · cases h
theorem fstK_none : ∀ {n : Nat}, fstK l c n = none → ∀ i, i < n → sameK (l.getD i dCrp) c = false
  | 0, _, i, hi => by omega
  | n + 1, h, i, hi => by
    rw [fstK] at h
    cases hn : fstK l c n with
    | some j => rw [hn] at h; cases h
    | none =>
      rw [hn] at h
      by_cases he : i = n
      · subst he
        cases hs : sameK (l.getD i dCrp) c with
        | false => rfl
        | true => simp only [hs, if_true] at h; cases h
      · exact fstK_none hn i (by omega)
theorem fstK_congr {c' : Crp} (h1 : c.r = c'.r) (h2 : c.p = c'.p) : ∀ n, fstK l c n = fstK l c' n
  | 0 => rfl
  | n + 1 => by
    rw [fstK, fstK, fstK_congr h1 h2 n]
    have : sameK (l.getD n dCrp) c = sameK (l.getD n dCrp) c' := by unfold sameK; rw [h1, h2]
    rw [this]
end
/-- does one of the first n come again? -/
def dupB (l : List Crp) : Nat → Bool
  | 0 => false
  | n + 1 => dupB l n || (fstK l (l.getD n dCrp) n).isSome
theorem dupB_more {l : List Crp} {n : Nat} (h : dupB l n = true) : ∀ m, n ≤ m → dupB l m = true
  | 0, hm => by
    have : n = 0 := by omega
    rw [← this]; exact h
  | m + 1, hm => by
    by_cases he : n = m + 1
    · rw [← he]; exact h
    · rw [dupB, dupB_more h m (by omega)]; rfl
/-- a mistake -/
structure Mis where
  k : Int
  r : ByteArray
  p : ByteArray
def Mis.cs (m : Mis) : List Value := [.int .i64 m.k, .string m.r, .string m.p]
def mkM (k : Int) (c : Crp) : Mis := ⟨k, c.r, c.p⟩
def misF (H W : List Crp) : Nat → List Mis
  | 0 => []
  | n + 1 => if fstK H (W.getD n dCrp) H.length = none then misF H W n ++ [mkM 1 (W.getD n dCrp)] else misF H W n
def extB (H W : List Crp) (n : Nat) : Bool := (fstK H (H.getD n dCrp) n).isSome || (fstK W (H.getD n dCrp) W.length).isNone
def extF (H W : List Crp) : Nat → List Mis
  | 0 => []
  | n + 1 => if extB H W n = true then extF H W n ++ [mkM 2 (H.getD n dCrp)] else extF H W n
def othB (H W : List Crp) (n : Nat) : Bool := match fstK H (W.getD n dCrp) H.length with
  | some i => !(decide ((H.getD i dCrp).n = (W.getD n dCrp).n) && decide ((H.getD i dCrp).l = (W.getD n dCrp).l))
  | none => false
def othF (H W : List Crp) : Nat → List Mis
  | 0 => []
  | n + 1 => if othB H W n = true then othF H W n ++ [mkM 3 (W.getD n dCrp)] else othF H W n
/-- the first at another place -/
def ordF (H W : List Crp) : Nat → List Mis
  | 0 => []
  | n + 1 => if (ordF H W n).isEmpty = true then (if sameK (H.getD n dCrp) (W.getD n dCrp) = true then [] else [mkM 4 (H.getD n dCrp)]) else ordF H W n
theorem misF_len (H W : List Crp) : ∀ n, (misF H W n).length ≤ n
  | 0 => by simp [misF]
  | n + 1 => by have := misF_len H W n; rw [misF]; split <;> simp <;> omega
theorem extF_len (H W : List Crp) : ∀ n, (extF H W n).length ≤ n
  | 0 => by simp [extF]
  | n + 1 => by have := extF_len H W n; rw [extF]; split <;> simp <;> omega
theorem othF_len (H W : List Crp) : ∀ n, (othF H W n).length ≤ n
  | 0 => by simp [othF]
  | n + 1 => by have := othF_len H W n; rw [othF]; split <;> simp <;> omega
theorem extF_nil {H W : List Crp} : ∀ {n : Nat}, extF H W n = [] → ∀ i, i < n → extB H W i = false
  | 0, _, i, hi => by omega
  | n + 1, h, i, hi => by
    rw [extF] at h
    split at h
    · simp at h
    · rename_i hb
      by_cases he : i = n
      · subst he; simpa using hb
      · exact extF_nil h i (by omega)
/-- all but the order -/
def wroF (H W : List Crp) : List Mis := misF H W W.length ++ extF H W H.length ++ othF H W W.length
def wrongF (H W : List Crp) : List Mis × Int :=
  if crsF H ≠ 0 then ([], crsF H) else if crsF W ≠ 0 then ([], crsF W) else if dupB W W.length = true then ([], 7) else
  if (wroF H W).length = 0 then (ordF H W H.length, 0) else (wroF H W, 0)
theorem inj_le : ∀ (n m : Nat) (g : Nat → Nat), (∀ i, i < m → g i < n) → (∀ i j, i < j → j < m → g i ≠ g j) → m ≤ n
  | 0, m, g, h1, _ => by
    rcases Nat.eq_zero_or_pos m with h | h
    · omega
    · have := h1 0 h; omega
  | n + 1, m, g, h1, h2 => by
    rcases Nat.eq_zero_or_pos m with h | h
    · omega
    · have := inj_le n (m - 1) (fun i => if g i = n then g (m - 1) else g i) (fun i hi => by
        have a1 := h1 i (by omega)
        have a2 := h1 (m - 1) (by omega)
        have a3 := h2 i (m - 1) (by omega) (by omega)
        show (if g i = n then g (m - 1) else g i) < n
        split <;> omega) (fun i j hij hj => by
        have a1 := h2 i j hij (by omega)
        have a3 := h2 i (m - 1) (by omega) (by omega)
        have a4 := h2 j (m - 1) (by omega) (by omega)
        show (if g i = n then g (m - 1) else g i) ≠ (if g j = n then g (m - 1) else g j)
        split <;> split <;> omega)
      omega
/-- where nothing is missing or too much, what is there is no longer than what should be -/
theorem wro_len {H W : List Crp} (h : (wroF H W).length = 0) : H.length ≤ W.length := by
  have he : extF H W H.length = [] := by
    unfold wroF at h
    simp only [List.length_append] at h
    exact List.eq_nil_of_length_eq_zero (by omega)
  have hb := extF_nil he
  have hs : ∀ i, i < H.length → fstK H (H.getD i dCrp) i = none ∧ ∃ j, fstK W (H.getD i dCrp) W.length = some j := fun i hi => by
    have := hb i hi
    unfold extB at this
    rw [Bool.or_eq_false_iff] at this
    refine ⟨?_, ?_⟩
    · cases hq : fstK H (H.getD i dCrp) i with
      | none => rfl
      | some j => rw [hq] at this; simp at this
    · cases hq : fstK W (H.getD i dCrp) W.length with
      | none => rw [hq] at this; simp at this
      | some j => exact ⟨j, rfl⟩
  refine inj_le W.length H.length (fun i => (fstK W (H.getD i dCrp) W.length).getD 0) (fun i hi => ?_) (fun i j hij hj heq => ?_)
  · obtain ⟨j, hj⟩ := (hs i hi).2
    simp only [hj, Option.getD_some]
    exact (fstK_some hj).1
  · obtain ⟨a, ha⟩ := (hs i (by omega)).2
    obtain ⟨b, hb2⟩ := (hs j hj).2
    simp only [ha, hb2, Option.getD_some] at heq
    subst heq
    have e1 := sameK_t.1 (fstK_some ha).2
    have e2 := sameK_t.1 (fstK_some hb2).2
    have e3 := fstK_none (hs j hj).1 i hij
    rw [sameK_f] at e3
    exact e3 ⟨by rw [← e1.1, e2.1], by rw [← e1.2, e2.2]⟩
/-- credits against themselves -/
theorem fst_self {W : List Crp} (h : dupB W W.length = false) : ∀ n, n < W.length → fstK W (W.getD n dCrp) n = none ∧ fstK W (W.getD n dCrp) W.length = some n := fun n hn => by
  have h0 : fstK W (W.getD n dCrp) n = none := by
    cases hq : fstK W (W.getD n dCrp) n with
    | none => rfl
    | some j =>
      have h1 : dupB W (n + 1) = true := by rw [dupB, hq]; simp
      rw [dupB_more h1 W.length (by omega)] at h; cases h
  exact ⟨h0, fstK_more (fstK_hit h0 (sameK_self _)) _ (by omega)⟩
theorem wrong_self (W : List Crp) : wrongF W W = ([], if crsF W ≠ 0 then crsF W else if dupB W W.length = true then 7 else 0) := by
  unfold wrongF
  by_cases h1 : crsF W ≠ 0
  · rw [if_pos h1, if_pos h1]
  rw [if_neg h1, if_neg h1, if_neg h1]
  by_cases h2 : dupB W W.length = true
  · rw [if_pos h2, if_pos h2]
  rw [if_neg h2, if_neg h2]
  have hd : dupB W W.length = false := by simpa using h2
  have hm : ∀ n, n ≤ W.length → misF W W n = [] ∧ extF W W n = [] ∧ othF W W n = [] ∧ ordF W W n = [] := by
    intro n
    induction n with
    | zero => intro _; exact ⟨rfl, rfl, rfl, rfl⟩
    | succ n ih =>
      intro hn
      obtain ⟨a1, a2, a3, a4⟩ := ih (by omega)
      obtain ⟨b1, b2⟩ := fst_self hd n (by omega)
      refine ⟨?_, ?_, ?_, ?_⟩
      · rw [misF, b2, if_neg (by simp)]; exact a1
      · rw [extF, if_neg (by unfold extB; rw [b1, b2]; simp)]; exact a2
      · rw [othF, if_neg (by unfold othB; rw [b2]; simp)]; exact a3
      · rw [ordF, a4]; simp [sameK_self]
  obtain ⟨a1, a2, a3, a4⟩ := hm W.length (Nat.le_refl _)
  have h0 : wroF W W = [] := by unfold wroF; rw [a1, a2, a3]; rfl
  rw [h0, a4]
  rfl
end Go.Proofs.YtibkohnoibjimaaDoor
