/- Plain: sounds: their check, their levels, marks, and silences. -/
import Derived.Test.YtlmgdofhmgpljaaDoorBase
namespace Go.Dw

def okS (n : Int) : Bool := decide (-8388608 ≤ n) && decide (n ≤ 8388607)
theorem okS_t {n : Int} (h : okS n = true) : -8388608 ≤ n ∧ n ≤ 8388607 := by simpa [okS] using h
theorem okS_f {n : Int} (h : okS n = false) : ¬ (-8388608 ≤ n ∧ n ≤ 8388607) := by simp [okS] at h; omega
def trkF (n : Nat) (t : List Int) : Int := if t.length ≠ n then 3 else if t.all okS then 0 else 1
/-- what Check answers -/
def chkS (rate : Int) (T : List (List Int)) : Int :=
  if ¬ (1 ≤ rate ∧ rate ≤ 1000000) then 1 else if T.length = 0 then 9 else if 16 < T.length ∨ 100000 < (T.getD 0 []).length then 2
  else firstNZ (fun j => trkF (T.getD 0 []).length (T.getD j [])) T.length
/-- a sound as it should be -/
def SndOk (rate : Int) (T : List (List Int)) (n : Nat) : Prop :=
  1 ≤ rate ∧ rate ≤ 1000000 ∧ 0 < T.length ∧ T.length ≤ 16 ∧ n ≤ 100000 ∧ ∀ j (h : j < T.length), T[j].length = n ∧ ∀ x ∈ T[j], -8388608 ≤ x ∧ x ≤ 8388607
theorem firstNZ_zero {f : Nat → Int} : ∀ {n : Nat}, firstNZ f n = 0 → ∀ j, j < n → f j = 0
  | 0, _, j, hj => by omega
  | n + 1, h, j, hj => by
    rw [firstNZ] at h
    split at h
    · rename_i h2
      by_cases he : j = n
      · subst he; exact h
      · exact firstNZ_zero h2 j (by omega)
    · rename_i h2; exact absurd h h2
theorem chkS_zero {rate : Int} {T : List (List Int)} (h : chkS rate T = 0) : SndOk rate T (T.getD 0 []).length := by
  unfold chkS at h
  split at h
  · omega
  · rename_i h1
    split at h
    · omega
    · rename_i h2
      split at h
      · omega
      · rename_i h3
        refine ⟨by omega, by omega, by omega, by omega, by omega, fun j hj => ?_⟩
        have h4 := firstNZ_zero h j hj
        have e : T.getD j [] = T[j] := by rw [List.getD_eq_getElem?_getD, List.getElem?_eq_getElem hj, Option.getD_some]
        rw [e] at h4
        unfold trkF at h4
        split at h4
        · omega
        · rename_i h5
          split at h4
          · rename_i h6
            exact ⟨Decidable.not_not.1 h5, fun x hx => okS_t (List.all_eq_true.1 h6 x hx)⟩
          · omega
/-- the size of a number -/
def ab (x : Int) : Int := if x < 0 then -x else x
theorem ab_max (x : Int) : max x (-x) = ab x := by unfold ab; split <;> omega
theorem ab_rng {x : Int} (h1 : -8388608 ≤ x) (h2 : x ≤ 8388607) : 0 ≤ ab x ∧ ab x ≤ 8388608 := by unfold ab; split <;> omega
section
variable (f : Nat → Int)
def colS (part k : Nat) : Nat → Int
  | 0 => 0
  | i + 1 => colS part k i + if i / part = k then f i else 0
def refS (a : Nat) : Nat → Int
  | 0 => 0
  | j + 1 => refS a j + f (a + j)
theorem colS_eq (part k : Nat) (hp : 0 < part) : ∀ i, colS f part k i = refS f (k * part) (min (i - k * part) part)
  | 0 => by simp [colS, refS]
  | i + 1 => by
    rw [colS, colS_eq part k hp i]
    have hdiv : i / part = k ↔ k * part ≤ i ∧ i < k * part + part := by
      rw [Nat.div_eq_iff hp]
      constructor <;> intro h <;> omega
    generalize k * part = a at *
    by_cases h : i / part = k
    · rw [if_pos h]
      obtain ⟨h1, h2⟩ := hdiv.1 h
      have e1 : min (i - a) part = i - a := by omega
      have e2 : min (i + 1 - a) part = (i - a) + 1 := by omega
      rw [e1, e2, refS, show a + (i - a) = i by omega]
    · rw [if_neg h]
      have h3 : ¬ (a ≤ i ∧ i < a + part) := fun hh => h (hdiv.2 hh)
      have e : min (i + 1 - a) part = min (i - a) part := by omega
      rw [e, Int.add_zero]
theorem refS_rng (hf : ∀ i, 0 ≤ f i ∧ f i ≤ 8388608) (a : Nat) : ∀ j, 0 ≤ refS f a j ∧ refS f a j ≤ 8388608 * (j : Int)
  | 0 => by simp [refS]
  | j + 1 => by
    have h1 := refS_rng hf a j
    have h2 := hf (a + j)
    rw [refS]; omega
end
/-- the sizes of a track -/
def trA (T : List (List Int)) (t i : Nat) : Int := ab ((T.getD t []).getD i 0)
def levK (T : List (List Int)) (part k : Nat) : Nat → Int
  | 0 => 0
  | t + 1 => levK T part k t + refS (trA T t) (k * part) part
theorem trA_rng {rate : Int} {T : List (List Int)} {n : Nat} (h : SndOk rate T n) (t i : Nat) : 0 ≤ trA T t i ∧ trA T t i ≤ 8388608 := by
  unfold trA
  by_cases ht : t < T.length
  · rw [List.getD_eq_getElem?_getD (l := T), List.getElem?_eq_getElem ht, Option.getD_some]
    by_cases hi : i < T[t].length
    · rw [List.getD_eq_getElem?_getD, List.getElem?_eq_getElem hi, Option.getD_some]
      have := (h.2.2.2.2.2 t ht).2 _ (List.getElem_mem hi)
      exact ab_rng this.1 this.2
    · rw [List.getD_eq_getElem?_getD, List.getElem?_eq_none (by omega)]; simp [ab]
  · rw [List.getD_eq_getElem?_getD (l := T), List.getElem?_eq_none (by omega)]; simp [ab]
theorem levK_rng {rate : Int} {T : List (List Int)} {n : Nat} (h : SndOk rate T n) (part k : Nat) (hp : part ≤ 100000) : ∀ t, 0 ≤ levK T part k t ∧ levK T part k t ≤ 838860800000 * (t : Int)
  | 0 => by simp [levK]
  | t + 1 => by
    have h1 := levK_rng h part k hp t
    have h2 := refS_rng (trA T t) (trA_rng h t) (k * part) part
    rw [levK]; omega
/-- the levels -/
def lev (T : List (List Int)) (part m : Nat) : List Int := (List.range m).map fun k => levK T part k T.length
theorem lev_length (T : List (List Int)) (part m : Nat) : (lev T part m).length = m := by simp [lev]
theorem map_range_set {α : Type} (g : Nat → α) (m j : Nat) (v : α) : ((List.range m).map g).set j v = (List.range m).map fun k => if k = j then v else g k := by
  apply List.ext_getElem
  · simp
  · intro i h1 h2
    simp only [List.length_set, List.length_map, List.length_range] at h1
    rw [List.getElem_set]
    by_cases h : j = i
    · subst h; simp
    · have h' : ¬ i = j := fun e => h e.symm
      simp [h, h']
theorem map_range_congr {α : Type} {g g' : Nat → α} {m : Nat} (h : ∀ k, k < m → g k = g' k) : (List.range m).map g = (List.range m).map g' :=
  List.map_congr_left fun k hk => h k (List.mem_range.1 hk)
/-- one mark out of levels -/
def mkB (l : List Int) (k : Nat) : Nat → Nat
  | 0 => 0
  | i + 1 => mkB l k i + if l.getD (k + i) 0 < l.getD (k + i + 1) 0 then 2 ^ i else 0
theorem mkB_lt (l : List Int) (k : Nat) : ∀ i, mkB l k i < 2 ^ i
  | 0 => by simp [mkB]
  | i + 1 => by
    have := mkB_lt l k i
    rw [mkB, Nat.pow_succ]; split <;> omega
def mksN (l : List Int) (n : Nat) : List Int := (List.range n).map fun k => (mkB l k 8 : Int)
theorem mksN_succ (l : List Int) (n : Nat) : mksN l (n + 1) = mksN l n ++ [(mkB l n 8 : Int)] := by simp [mksN, List.range_succ]
theorem mksN_length (l : List Int) (n : Nat) : (mksN l n).length = n := by simp [mksN]

/-- spans of what is chosen: where the last one begins, and those before -/
def rowF (q : Nat → Bool) (L : Nat) : Nat → Nat × List (Int × Int)
  | 0 => (0, [])
  | i + 1 => if q i then rowF q L i else (i + 1, if L ≤ i - (rowF q L i).1 then (rowF q L i).2 ++ [(((rowF q L i).1 : Int), (i : Int))] else (rowF q L i).2)
/-- spans in order with something between them, all from 0 to n -/
def Gaps : List (Int × Int) → Prop
  | [] => True
  | [s] => s.1 < s.2
  | s :: t :: r => s.1 < s.2 ∧ s.2 < t.1 ∧ Gaps (t :: r)
theorem gaps_snoc {s : Int × Int} : ∀ {l : List (Int × Int)}, Gaps l → s.1 < s.2 → (∀ x ∈ l, x.2 < s.1) → Gaps (l ++ [s])
  | [], _, h, _ => h
  | [x], hx, h, hl => ⟨hx, hl x (by simp), h⟩
  | x :: y :: r, ⟨h1, h2, h3⟩, h, hl => ⟨h1, h2, gaps_snoc (l := y :: r) h3 h (fun z hz => hl z (by simp only [List.mem_cons] at hz ⊢; exact .inr hz))⟩
theorem rowF_inv (q : Nat → Bool) (L : Nat) (hL : 1 ≤ L) : ∀ i, (rowF q L i).1 ≤ i ∧ Gaps (rowF q L i).2 ∧ (∀ x ∈ (rowF q L i).2, 0 ≤ x.1 ∧ x.2 < ((rowF q L i).1 : Int)) ∧ (rowF q L i).2.length ≤ i
  | 0 => by simp [rowF, Gaps]
  | i + 1 => by
    obtain ⟨h1, h2, h3, h4⟩ := rowF_inv q L hL i
    rw [rowF]
    split
    · exact ⟨by omega, h2, h3, by omega⟩
    · simp only
      refine ⟨Nat.le_refl _, ?_, ?_, ?_⟩
      · split
        · refine gaps_snoc h2 (by simp only; omega) (fun x hx => ?_)
          exact (h3 x hx).2
        · exact h2
      · intro x hx
        split at hx
        · rcases List.mem_append.1 hx with hx | hx
          · have := h3 x hx; omega
          · simp at hx; subst hx; simp only; omega
        · have := h3 x hx; omega
      · split
        · rw [List.length_append]; simp; omega
        · omega
/-- the spans of the numbers below n -/
def rowsOf (q : Nat → Bool) (L n : Nat) : List (Int × Int) := (rowF (fun i => decide (i < n) && q i) L (n + 1)).2
theorem rowsOf_gaps (q : Nat → Bool) (L n : Nat) (hL : 1 ≤ L) : Gaps (rowsOf q L n) ∧ (∀ x ∈ rowsOf q L n, 0 ≤ x.1 ∧ x.2 ≤ (n : Int)) ∧ (rowsOf q L n).length ≤ n + 1 := by
  obtain ⟨h1, h2, h3, h4⟩ := rowF_inv (fun i => decide (i < n) && q i) L hL (n + 1)
  refine ⟨h2, fun x hx => ?_, h4⟩
  have := h3 x hx
  omega
/-- quiet at i -/
def qui (T : List (List Int)) (level : Int) (i : Nat) : Nat → Bool
  | 0 => true
  | t + 1 => qui T level i t && decide (trA T t i ≤ level)
/-- what Silences answers -/
def silF (rate : Int) (T : List (List Int)) (level least : Int) : List (Int × Int) × Int :=
  if chkS rate T ≠ 0 then ([], chkS rate T) else if 0 ≤ level ∧ level ≤ 8388608 ∧ 1 ≤ least ∧ least ≤ 100000 then
    if 1000 < (rowsOf (fun i => qui T level i T.length) least.toNat (T.getD 0 []).length).length then ([], 2) else (rowsOf (fun i => qui T level i T.length) least.toNat (T.getD 0 []).length, 0)
  else ([], 1)
/-- what is between spans -/
def pieR (n : Int) : Int → List (Int × Int) → List (Int × Int)
  | at_, [] => if at_ < n then [(at_, n)] else []
  | at_, (a, b) :: r => (if at_ < a then [(at_, a)] else []) ++ pieR n b r
def pieF (rate : Int) (T : List (List Int)) (level least : Int) : List (Int × Int) × Int :=
  if (silF rate T level least).2 ≠ 0 then ([], (silF rate T level least).2)
  else if 1000 < (pieR ((T.getD 0 []).length : Int) 0 (silF rate T level least).1).length then ([], 2) else (pieR ((T.getD 0 []).length : Int) 0 (silF rate T level least).1, 0)
def levF (rate : Int) (T : List (List Int)) (part : Int) : List Int × Int :=
  if chkS rate T ≠ 0 then ([], chkS rate T) else if 1 ≤ part ∧ part ≤ 100000 then (lev T part.toNat ((T.getD 0 []).length / part.toNat), 0) else ([], 1)
def mrkF (rate : Int) (T : List (List Int)) (part : Int) : List Int × Int :=
  if (levF rate T part).2 ≠ 0 then ([], (levF rate T part).2) else if 500 < (levF rate T part).1.length - 8 then ([], 2)
  else (mksN (levF rate T part).1 ((levF rate T part).1.length - 8), 0)
end Go.Dw
