/- Plain: the tables of the reference's Choose, held against those of match.Choose. -/
import Derived.Test.YtdgkchdobmhpnaaChooseR
namespace Go.Proofs.Ytdgkchdobmhpnaa
open Go.RowKit Go.Dw

def NT : Int := -1125899906842624
/-- after: the most that the sections behind one are worth, after u takes -/
def amax (rows : List (List Int)) (cost : Int) (t c : Nat) : Nat → Int
  | 0 => en rows t c
  | u + 1 => if u ≠ t ∧ 0 < c then max (amax rows cost t c u) (en rows u (c - 1) - cost) else amax rows cost t c u
def rcell (last : Bool) (rows : List (List Int)) (cost : Int) (T : Nat) (p : Int) (t c : Nat) : Int :=
  if 0 ≤ p then max NT (p + (if last then 0 else amax rows cost t c T)) else NT
def rrow (last : Bool) (rows : List (List Int)) (cost : Int) (T M : Nat) (p : Int) (t : Nat) : List Int := (List.range (M + 1)).map fun c => rcell last rows cost T p t c
def rtabV (last : Bool) (rows : List (List Int)) (cost : Int) (T M : Nat) (pl : List Int) : List (List Int) := (List.range T).map fun t => rrow last rows cost T M (pl.getD t 0) t
def rtabs (T M : Nat) (cost : Int) : List (List Int) → List (List (List Int))
  | [] => []
  | p :: r => rtabV r.isEmpty ((rtabs T M cost r).headD []) cost T M p :: rtabs T M cost r
def rtb (T M : Nat) (cost : Int) (pts : List (List Int)) (s : Nat) : List (List Int) := (rtabs T M cost (pts.drop s)).headD []
theorem rrow_length (last : Bool) (rows : List (List Int)) (cost : Int) (T M : Nat) (p : Int) (t : Nat) : (rrow last rows cost T M p t).length = M + 1 := by simp [rrow]
theorem rrow_getD (last : Bool) (rows : List (List Int)) (cost : Int) (T M : Nat) (p : Int) (t c : Nat) (hc : c ≤ M) : (rrow last rows cost T M p t).getD c 0 = rcell last rows cost T p t c := by
  rw [rrow, List.getD_eq_getElem?_getD, List.getElem?_map, List.getElem?_range (by omega)]; rfl
theorem rtabV_length (last : Bool) (rows : List (List Int)) (cost : Int) (T M : Nat) (pl : List Int) : (rtabV last rows cost T M pl).length = T := by simp [rtabV]
theorem rtabV_at (last : Bool) (rows : List (List Int)) (cost : Int) (T M : Nat) (pl : List Int) (t : Nat) (h : t < (rtabV last rows cost T M pl).length) : (rtabV last rows cost T M pl)[t] = rrow last rows cost T M (pl.getD t 0) t := by simp [rtabV]
theorem rtb_eq (T M : Nat) (cost : Int) (pts : List (List Int)) (s : Nat) (h : s < pts.length) : rtb T M cost pts s = rtabV (decide (s + 1 = pts.length)) (rtb T M cost pts (s + 1)) cost T M (pts.getD s []) := by
  unfold rtb
  rw [List.drop_eq_getElem_cons h]
  have e1 : (pts.drop (s + 1)).isEmpty = decide (s + 1 = pts.length) := by
    by_cases he : s + 1 = pts.length
    · have : pts.drop (s + 1) = [] := List.drop_of_length_le (by omega)
      rw [this]; simp [he]
    · have : pts.drop (s + 1) ≠ [] := by
        intro hh
        have := congrArg List.length hh
        simp at this; omega
      simp [he, this]
  rw [rtabs, List.headD_cons, e1, getRow h]
theorem en_rtb {T M : Nat} {cost : Int} {pts : List (List Int)} {s t c : Nat} (hs : s < pts.length) (ht : t < T) (hc : c ≤ M) :
    en (rtb T M cost pts s) t c = rcell (decide (s + 1 = pts.length)) (rtb T M cost pts (s + 1)) cost T ((pts.getD s []).getD t 0) t c := by
  rw [rtb_eq T M cost pts s hs]
  unfold en
  have hu' : t < (rtabV (decide (s + 1 = pts.length)) (rtb T M cost pts (s + 1)) cost T M (pts.getD s [])).length := by rw [rtabV_length]; exact ht
  rw [getRow hu', rtabV_at, rrow_getD _ _ _ _ _ _ _ _ hc]

/-- the entry r of the reference's table, held against the entry e -/
def RelE (d : Nat) (e r : Int) : Prop := (e = NONE ∧ NT ≤ r ∧ r ≤ NT + 1000000 * (d : Int)) ∨ (e ≠ NONE ∧ r = e ∧ -(1000000 * (d : Int)) ≤ e ∧ e ≤ 1000000 * (d : Int))
def RelT (d T M : Nat) (rows rrows : List (List Int)) : Prop := rrows.length = T ∧ (∀ u, u < T → (rrows.getD u []).length = M + 1) ∧ ∀ u c, u < T → c ≤ M → RelE d (en rows u c) (en rrows u c)
/-- what the reference's term for the take u is -/
def rterm (rrows : List (List Int)) (cost : Int) (t c u : Nat) : Int := if u = t then en rrows t c else en rrows u (c - 1) - cost
theorem amax_ge (rrows : List (List Int)) (cost : Int) (t c : Nat) : ∀ T, en rrows t c ≤ amax rrows cost t c T ∧ ∀ u, u < T → u ≠ t → 0 < c → rterm rrows cost t c u ≤ amax rrows cost t c T
  | 0 => ⟨Int.le_refl _, fun u hu => by omega⟩
  | T + 1 => by
    obtain ⟨h1, h2⟩ := amax_ge rrows cost t c T
    unfold amax
    refine ⟨by split <;> omega, fun u hu hne hc => ?_⟩
    by_cases he : u = T
    · subst he
      rw [if_pos ⟨hne, hc⟩]
      unfold rterm; rw [if_neg hne]; omega
    · have := h2 u (by omega) hne hc
      split <;> omega
theorem amax_some (rrows : List (List Int)) (cost : Int) (t c : Nat) : ∀ T, amax rrows cost t c T = en rrows t c ∨ ∃ u, u < T ∧ u ≠ t ∧ 0 < c ∧ amax rrows cost t c T = rterm rrows cost t c u
  | 0 => .inl rfl
  | T + 1 => by
    unfold amax
    by_cases hc : T ≠ t ∧ 0 < c
    · rw [if_pos hc]
      by_cases hm : amax rrows cost t c T < en rrows T (c - 1) - cost
      · refine .inr ⟨T, by omega, hc.1, hc.2, ?_⟩
        unfold rterm; rw [if_neg hc.1]; omega
      · rw [show max (amax rrows cost t c T) (en rrows T (c - 1) - cost) = amax rrows cost t c T by omega]
        rcases amax_some rrows cost t c T with h | ⟨u, h1, h2, h3, h4⟩
        · exact .inl h
        · exact .inr ⟨u, by omega, h2, h3, h4⟩
    · rw [if_neg hc]
      rcases amax_some rrows cost t c T with h | ⟨u, h1, h2, h3, h4⟩
      · exact .inl h
      · exact .inr ⟨u, by omega, h2, h3, h4⟩
/-- the two maxima -/
theorem amax_rel {d T M : Nat} {rows rrows : List (List Int)} (h : RelT d T M rows rrows) (hd : d ≤ 100) {cost : Int} (h0 : 0 ≤ cost) (h1 : cost ≤ 1000000) {t c : Nat} (ht : t < T) (hc : c ≤ M) :
    (vmaxT rows cost t c T = NONE ∧ NT ≤ amax rrows cost t c T ∧ amax rrows cost t c T ≤ NT + 1000000 * (d : Int)) ∨
    (vmaxT rows cost t c T ≠ NONE ∧ amax rrows cost t c T = vmaxT rows cost t c T ∧ -(1000000 * (d : Int)) - 1000000 ≤ vmaxT rows cost t c T ∧ vmaxT rows cost t c T ≤ 1000000 * (d : Int)) := by
  have term : ∀ u, u < T → (u = t ∨ 0 < c) → (thn rows cost t c u = NONE ∧ rterm rrows cost t c u ≤ NT + 1000000 * (d : Int) ∧ (u = t → NT ≤ rterm rrows cost t c u)) ∨ (thn rows cost t c u ≠ NONE ∧ rterm rrows cost t c u = thn rows cost t c u ∧ -(1000000 * (d : Int)) - 1000000 ≤ thn rows cost t c u ∧ thn rows cost t c u ≤ 1000000 * (d : Int)) := by
    intro u hu hut
    unfold thn rterm
    by_cases he : u = t
    · rw [if_pos he, if_pos he]
      have := h.2.2 u c hu hc
      subst he
      rcases this with ⟨q1, q2, q3⟩ | ⟨q1, q2, q3, q4⟩
      · exact .inl ⟨q1, q3, fun _ => q2⟩
      · exact .inr ⟨q1, q2, by omega, by omega⟩
    · have hc0 : 0 < c := by rcases hut with h | h; exact absurd h he; exact h
      rw [if_neg he, if_neg he, if_neg (by omega)]
      have := h.2.2 u (c - 1) hu (by omega)
      rcases this with ⟨q1, q2, q3⟩ | ⟨q1, q2, q3, q4⟩
      · rw [if_pos q1]; exact .inl ⟨rfl, by omega, fun hh => absurd hh he⟩
      · rw [if_neg q1]
        refine .inr ⟨by simp only [NONE]; omega, by omega, by omega, by omega⟩
  have htt : rterm rrows cost t c t = en rrows t c := by unfold rterm; rw [if_pos rfl]
  obtain ⟨g1, g2⟩ := amax_ge rrows cost t c T
  have hle : amax rrows cost t c T ≤ NT + 1000000 * (d : Int) ∨ ∃ u, u < T ∧ thn rows cost t c u ≠ NONE ∧ amax rrows cost t c T = thn rows cost t c u := by
    rcases amax_some rrows cost t c T with hs | ⟨u, hu, hut, hc0, hs⟩
    · rcases term t ht (.inl rfl) with ⟨q1, q2, q3⟩ | ⟨q1, q2, q3⟩
      · left; rw [hs, ← htt]; exact q2
      · exact .inr ⟨t, ht, q1, by rw [hs, ← htt]; exact q2⟩
    · rcases term u hu (.inr hc0) with ⟨q1, q2, q3⟩ | ⟨q1, q2, q3⟩
      · left; rw [hs]; exact q2
      · exact .inr ⟨u, hu, q1, by rw [hs]; exact q2⟩
  by_cases hv : vmaxT rows cost t c T = NONE
  · refine .inl ⟨hv, ?_, ?_⟩
    · rcases term t ht (.inl rfl) with ⟨q1, q2, q3⟩ | ⟨q1, q2, q3, q4⟩
      · have := q3 rfl; rw [htt] at this; omega
      · have := vmaxT_ge (rows := rows) (cost := cost) (t := t) (c := c) ht
        simp only [NONE] at *; omega
    · rcases hle with hh | ⟨u, hu, q1, q2⟩
      · exact hh
      · have := vmaxT_ge (rows := rows) (cost := cost) (t := t) (c := c) hu
        have hb := vmaxT_ge (rows := rows) (cost := cost) (t := t) (c := c) hu
        rcases term u hu (by
          by_cases hc0 : 0 < c
          · exact .inr hc0
          · left
            unfold thn at q1
            by_cases he : u = t
            · exact he
            · rw [if_neg he, if_pos (by omega)] at q1; exact absurd rfl q1) with ⟨r1, _⟩ | ⟨_, _, r3, _⟩
        · exact absurd r1 q1
        · simp only [NONE] at *; omega
  · obtain ⟨u0, hu0, he0⟩ := vmaxT_some hv
    have hn0 : thn rows cost t c u0 ≠ NONE := by rw [he0]; exact hv
    have hcase : u0 = t ∨ 0 < c := by
      by_cases hc0 : 0 < c
      · exact .inr hc0
      · left
        unfold thn at hn0
        by_cases he : u0 = t
        · exact he
        · rw [if_neg he, if_pos (by omega)] at hn0; exact absurd rfl hn0
    rcases term u0 hu0 hcase with ⟨r1, _⟩ | ⟨_, r2, r3, r4⟩
    · exact absurd r1 hn0
    · refine .inr ⟨hv, ?_, by omega, by omega⟩
      have hge : rterm rrows cost t c u0 ≤ amax rrows cost t c T := by
        by_cases he : u0 = t
        · rw [he, htt]; exact g1
        · exact g2 u0 hu0 he (by rcases hcase with h | h; exact absurd h he; exact h)
      rcases hle with hh | ⟨u, hu, q1, q2⟩
      · simp only [NT] at *; omega
      · have := vmaxT_ge (rows := rows) (cost := cost) (t := t) (c := c) hu
        omega
theorem rcell_rel {d T M : Nat} {rows rrows : List (List Int)} (last : Bool) (h : last = false → RelT d T M rows rrows) (hd : d ≤ 100) {cost : Int} (h0 : 0 ≤ cost) (h1 : cost ≤ 1000000) {p : Int} (hp : p ≤ 1000000) {t c : Nat} (ht : t < T) (hc : c ≤ M) :
    RelE (d + 1) (cellV last rows cost T p t c) (rcell last rrows cost T p t c) := by
  unfold cellV rcell RelE
  by_cases hp0 : p < 0
  · rw [if_pos (.inl hp0), if_neg (by omega)]
    exact .inl ⟨rfl, Int.le_refl _, by omega⟩
  have hp1 : 0 ≤ p := by omega
  rw [if_pos hp1]
  cases last with
  | true =>
    simp only [if_true]
    rw [if_neg (by simp only [NONE]; omega)]
    refine .inr ⟨by simp only [NONE]; omega, by simp only [NT]; omega, by omega, by omega⟩
  | false =>
    simp only [Bool.false_eq_true, if_false]
    rcases amax_rel (h rfl) hd h0 h1 ht hc with ⟨q1, q2, q3⟩ | ⟨q1, q2, q3, q4⟩
    · rw [if_pos (.inr q1)]
      exact .inl ⟨rfl, by omega, by simp only [NT] at *; omega⟩
    · rw [if_neg (by simp only [not_or]; exact ⟨hp0, q1⟩), q2]
      refine .inr ⟨by simp only [NONE]; omega, by simp only [NT]; omega, by omega, by omega⟩
theorem rtb_rel (T M : Nat) (cost : Int) (pts : List (List Int)) (h0 : 0 ≤ cost) (h1 : cost ≤ 1000000) (hp : ∀ s t, (pts.getD s []).getD t 0 ≤ 1000000) (hl : pts.length ≤ 60) :
    ∀ k s, s + k + 1 = pts.length → RelT (k + 1) T M (tb T M cost pts s) (rtb T M cost pts s) := by
  have key : ∀ k s, s < pts.length → (decide (s + 1 = pts.length) = false → RelT k T M (tb T M cost pts (s + 1)) (rtb T M cost pts (s + 1))) → k ≤ 100 → RelT (k + 1) T M (tb T M cost pts s) (rtb T M cost pts s) := by
    intro k s hs hn hk
    refine ⟨by rw [rtb_eq T M cost pts s hs, rtabV_length], fun u hu => ?_, fun u c hu hc => ?_⟩
    · rw [rtb_eq T M cost pts s hs]
      have hu' : u < (rtabV (decide (s + 1 = pts.length)) (rtb T M cost pts (s + 1)) cost T M (pts.getD s [])).length := by rw [rtabV_length]; exact hu
      rw [getRow hu', rtabV_at, rrow_length]
    · rw [en_tb hs hu hc, en_rtb hs hu hc]
      exact rcell_rel _ hn hk h0 h1 (hp s u) hu hc
  intro k
  induction k with
  | zero => intro s hs; exact key 0 s (by omega) (by intro h; simp at h; omega) (by omega)
  | succ k ih => intro s hs; exact key (k + 1) s (by omega) (fun _ => ih (s + 1) (by omega)) (by omega)
end Go.Proofs.Ytdgkchdobmhpnaa
