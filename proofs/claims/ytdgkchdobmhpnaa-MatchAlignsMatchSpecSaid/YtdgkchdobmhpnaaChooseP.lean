/- Plain: the tables of the chooser, and their bounds. -/
import Derived.Test.YtdgkchdobmhpnaaChooseA
namespace Go.Proofs.Ytdgkchdobmhpnaa
open Go.RowKit Go.Dw

def vmaxT (rows : List (List Int)) (cost : Int) (t c : Nat) : Nat → Int
  | 0 => NONE
  | u + 1 => max (vmaxT rows cost t c u) (thn rows cost t c u)
def cellV (last : Bool) (rows : List (List Int)) (cost : Int) (T : Nat) (p : Int) (t c : Nat) : Int :=
  if p < 0 ∨ (if last then 0 else vmaxT rows cost t c T) = NONE then NONE else (if last then 0 else vmaxT rows cost t c T) + p
def rowV (last : Bool) (rows : List (List Int)) (cost : Int) (T M : Nat) (p : Int) (t : Nat) : List Int := (List.range (M + 1)).map fun c => cellV last rows cost T p t c
def tabV (last : Bool) (rows : List (List Int)) (cost : Int) (T M : Nat) (pl : List Int) : List (List Int) := (List.range T).map fun t => rowV last rows cost T M (pl.getD t 0) t
/-- the table of each section -/
def tabs (T M : Nat) (cost : Int) : List (List Int) → List (List (List Int))
  | [] => []
  | p :: r => tabV r.isEmpty ((tabs T M cost r).headD []) cost T M p :: tabs T M cost r
/-- the table of the section s -/
def tb (T M : Nat) (cost : Int) (pts : List (List Int)) (s : Nat) : List (List Int) := (tabs T M cost (pts.drop s)).headD []
theorem rowV_length (last : Bool) (rows : List (List Int)) (cost : Int) (T M : Nat) (p : Int) (t : Nat) : (rowV last rows cost T M p t).length = M + 1 := by simp [rowV]
theorem rowV_getD (last : Bool) (rows : List (List Int)) (cost : Int) (T M : Nat) (p : Int) (t c : Nat) (hc : c ≤ M) : (rowV last rows cost T M p t).getD c 0 = cellV last rows cost T p t c := by
  rw [rowV, List.getD_eq_getElem?_getD, List.getElem?_map, List.getElem?_range (by omega)]; rfl
theorem tabV_length (last : Bool) (rows : List (List Int)) (cost : Int) (T M : Nat) (pl : List Int) : (tabV last rows cost T M pl).length = T := by simp [tabV]
theorem tabV_at (last : Bool) (rows : List (List Int)) (cost : Int) (T M : Nat) (pl : List Int) (t : Nat) (h : t < (tabV last rows cost T M pl).length) : (tabV last rows cost T M pl)[t] = rowV last rows cost T M (pl.getD t 0) t := by simp [tabV]
theorem tb_eq (T M : Nat) (cost : Int) (pts : List (List Int)) (s : Nat) (h : s < pts.length) : tb T M cost pts s = tabV (decide (s + 1 = pts.length)) (tb T M cost pts (s + 1)) cost T M (pts.getD s []) := by
  unfold tb
  rw [List.drop_eq_getElem_cons h]
  have e1 : (pts.drop (s + 1)).isEmpty = decide (s + 1 = pts.length) := by
    by_cases he : s + 1 = pts.length
    · have : pts.drop (s + 1) = [] := List.drop_of_length_le (by omega)
      rw [this]; simp [he]
    · have : pts.drop (s + 1) ≠ [] := by
        intro hh
        have := congrArg List.length hh
        simp at this; omega
      simp [he, this]
  rw [tabs, List.headD_cons, e1, getRow h]
/-- a bound on an entry that is not NONE -/
def Bd (d : Nat) (e : Int) : Prop := e = NONE ∨ (-(1000000 * (d : Int)) ≤ e ∧ e ≤ 1000000 * (d : Int))
def TabD (d T M : Nat) (rows : List (List Int)) : Prop := rows.length = T ∧ ∀ u, u < T → (rows.getD u []).length = M + 1 ∧ ∀ c, c ≤ M → Bd d (en rows u c)
theorem thn_bd {d T M : Nat} {rows : List (List Int)} (h : TabD d T M rows) {cost : Int} (h0 : 0 ≤ cost) (h1 : cost ≤ 1000000) {t c u : Nat} (hu : u < T) (hc : c ≤ M) :
    thn rows cost t c u = NONE ∨ (-(1000000 * (d : Int)) - 1000000 ≤ thn rows cost t c u ∧ thn rows cost t c u ≤ 1000000 * (d : Int)) := by
  unfold thn
  split
  · have := (h.2 u hu).2 c hc
    rcases this with h2 | h2
    · exact .inl h2
    · exact .inr (by omega)
  · split
    · exact .inl rfl
    · split
      · exact .inl rfl
      · have := (h.2 u hu).2 (c - 1) (by omega)
        rcases this with h2 | h2
        · contradiction
        · exact .inr (by omega)
theorem vmaxT_bd {d T M : Nat} {rows : List (List Int)} (h : TabD d T M rows) (hd : d ≤ 1000) {cost : Int} (h0 : 0 ≤ cost) (h1 : cost ≤ 1000000) {t c : Nat} (hc : c ≤ M) : ∀ u, u ≤ T →
    vmaxT rows cost t c u = NONE ∨ (-(1000000 * (d : Int)) - 1000000 ≤ vmaxT rows cost t c u ∧ vmaxT rows cost t c u ≤ 1000000 * (d : Int))
  | 0, _ => .inl rfl
  | u + 1, hu => by
    have h2 := vmaxT_bd h hd h0 h1 hc u (by omega) (t := t)
    have h3 := thn_bd h h0 h1 (show u < T by omega) hc (t := t)
    unfold vmaxT
    simp only [NONE] at *
    omega
theorem cellV_bd {d T M : Nat} {rows : List (List Int)} (last : Bool) (h : last = false → TabD d T M rows) (hd : d ≤ 1000) {cost : Int} (h0 : 0 ≤ cost) (h1 : cost ≤ 1000000) {p : Int} (hp : p ≤ 1000000) {t c : Nat} (hc : c ≤ M) :
    Bd (d + 1) (cellV last rows cost T p t c) := by
  unfold cellV
  cases last with
  | true =>
    simp only [if_true]
    split
    · exact .inl rfl
    · exact .inr (by simp only [NONE] at *; omega)
  | false =>
    have := vmaxT_bd (h rfl) hd h0 h1 hc T (Nat.le_refl _) (t := t)
    simp only [Bool.false_eq_true, if_false]
    split
    · exact .inl rfl
    · refine .inr ?_
      simp only [NONE] at *
      omega
theorem tb_bd (T M : Nat) (cost : Int) (pts : List (List Int)) (h0 : 0 ≤ cost) (h1 : cost ≤ 1000000) (hp : ∀ s t, (pts.getD s []).getD t 0 ≤ 1000000) (hl : pts.length ≤ 60) :
    ∀ k s, s + k + 1 = pts.length → TabD (k + 1) T M (tb T M cost pts s) := by
  have key : ∀ k s, s < pts.length → (decide (s + 1 = pts.length) = false → TabD k T M (tb T M cost pts (s + 1))) → k ≤ 1000 → TabD (k + 1) T M (tb T M cost pts s) := by
    intro k s hs hn hk
    rw [tb_eq T M cost pts s hs]
    refine ⟨tabV_length _ _ _ _ _ _, fun u hu => ?_⟩
    have hu' : u < (tabV (decide (s + 1 = pts.length)) (tb T M cost pts (s + 1)) cost T M (pts.getD s [])).length := by rw [tabV_length]; exact hu
    refine ⟨by rw [getRow hu', tabV_at, rowV_length], fun c hc => ?_⟩
    have e : en (tabV (decide (s + 1 = pts.length)) (tb T M cost pts (s + 1)) cost T M (pts.getD s [])) u c = cellV (decide (s + 1 = pts.length)) (tb T M cost pts (s + 1)) cost T ((pts.getD s []).getD u 0) u c := by
      unfold en
      rw [getRow hu', tabV_at, rowV, List.getD_eq_getElem?_getD, List.getElem?_map, List.getElem?_range (by omega)]
      rfl
    rw [e]
    exact cellV_bd _ hn hk h0 h1 (hp s u) hc
  intro k
  induction k with
  | zero => intro s hs; exact key 0 s (by omega) (by intro h; simp at h; omega) (by omega)
  | succ k ih => intro s hs; exact key (k + 1) s (by omega) (fun _ => ih (s + 1) (by omega)) (by omega)
theorem TabD.tabB {d T M : Nat} {rows : List (List Int)} (h : TabD d T M rows) (hd : d ≤ 1000) : TabB M rows := by
  intro u hu
  have h2 := h.2 u (by rw [← h.1]; exact hu)
  refine ⟨h2.1, fun c hc => ?_⟩
  rcases h2.2 c hc with h3 | h3
  · simp only [NONE] at h3; omega
  · omega
end Go.Proofs.Ytdgkchdobmhpnaa
