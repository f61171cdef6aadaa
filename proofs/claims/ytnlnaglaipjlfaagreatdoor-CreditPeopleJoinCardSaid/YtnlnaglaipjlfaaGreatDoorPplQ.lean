/- Plain: the map of a group's first persons, step by step. -/
import Derived.Test.YtnlnaglaipjlfaaGreatDoorPpl
import Derived.Test.YtnlnaglaipjlfaaGreatDoorMap
import Derived.StringKeys
namespace Go.Proofs.YtnlnaglaipjlfaaGreatDoor
open Go.RowKit Go.Dw Go.Maps Go.WideMaps

/-- the first k persons' labels -/
def ofK (ps : List Psp) (f : Nat → Nat) (k : Nat) : Value → Option Value
  | .string s => if ixP ps s < k then some (.string (idAt ps (f (ixP ps s)))) else none
  | _ => none
theorem ofK_at {ps : List Psp} {f : Nat → Nat} {k : Nat} {s : ByteArray} (h : ixP ps s < k) : ofK ps f k (.string s) = some (.string (idAt ps (f (ixP ps s)))) := by
  simp only [ofK]; rw [if_pos h]
theorem ofK_zero (ps : List Psp) (f : Nat → Nat) : ofK ps f 0 = fun _ => none := by
  funext v
  cases v <;> simp [ofK]
theorem ofK_congr {ps : List Psp} {f g : Nat → Nat} {k : Nat} (h : ∀ i, i < k → f i = g i) : ofK ps f k = ofK ps g k := by
  funext v
  cases v with
  | string s =>
    simp only [ofK]
    by_cases hs : ixP ps s < k
    · rw [if_pos hs, if_pos hs, h _ hs]
    · rw [if_neg hs, if_neg hs]
  | _ => rfl
theorem idAt_at {ps : List Psp} {i : Nat} (h : i < ps.length) : idAt ps i = ps[i].id := by unfold idAt; rw [getD_at _ _ i h]
theorem PsR.ixAt {ps : List Psp} (h : PsR ps) {i : Nat} (hi : i < ps.length) : ixP ps (idAt ps i) = i := by rw [idAt_at hi]; exact h.ix hi
theorem PsR.idInj {ps : List Psp} (h : PsR ps) {i j : Nat} (hi : i < ps.length) (hj : j < ps.length) : idAt ps i = idAt ps j ↔ i = j := by
  constructor
  · intro e; rw [idAt_at hi, idAt_at hj] at e; exact h.inj hi hj e
  · rintro rfl; rfl
theorem PsR.idLt {ps : List Psp} (h : PsR ps) {i j : Nat} (hi : i < ps.length) (hj : j < ps.length) : sLt (idAt ps i) (idAt ps j) ↔ i < j := by
  rw [idAt_at hi, idAt_at hj]
  constructor
  · intro hl
    rcases Nat.lt_trichotomy i j with h1 | h1 | h1
    · exact h1
    · subst h1; exact absurd hl (sLt_irr _)
    · exact absurd (h.lt' h1 hi) (sLt_asymm hl)
  · intro hl; exact h.lt' hl hj
theorem ixP_id {ps : List Psp} {s : ByteArray} {i : Nat} (hi : i < ps.length) (h : ixP ps s = i) : s = idAt ps i := by
  subst h; rw [idAt_at hi]; exact (ixP_at hi).symm
/-- person k put in -/
theorem ofK_put1 {ps : List Psp} (h : PsR ps) {f : Nat → Nat} {k : Nat} (hk : k < ps.length) (hf : f k = k) : ofK ps f (k + 1) (.string (idAt ps k)) = some (.string (idAt ps k)) := by
  rw [ofK_at (by rw [h.ixAt hk]; omega), h.ixAt hk, hf]
theorem ofK_put2 {ps : List Psp} {f : Nat → Nat} {k : Nat} (hk : k < ps.length) : ∀ x, x ≠ .string (idAt ps k) → ofK ps f (k + 1) x = ofK ps f k x := by
  intro x hx
  cases x with
  | string s =>
    have hne : ixP ps s ≠ k := fun e => hx (by rw [ixP_id hk e])
    simp only [ofK]
    by_cases h1 : ixP ps s < k
    · rw [if_pos (by omega), if_pos h1]
    · rw [if_neg (by omega), if_neg h1]
  | _ => rfl
/-- a merge, the first j persons done -/
def mrg (g : Nat → Nat) (hi lo j : Nat) : Nat → Nat := fun i => if i < j ∧ g i = hi then lo else g i
theorem mrg_zero (g : Nat → Nat) (hi lo : Nat) : mrg g hi lo 0 = g := by funext i; unfold mrg; rw [if_neg (by omega)]
theorem mrg_end (g : Nat → Nat) (hi lo n : Nat) : ∀ i, i < n → mrg g hi lo n i = if g i = hi then lo else g i := by
  intro i hin; unfold mrg
  by_cases h : g i = hi
  · rw [if_pos ⟨hin, h⟩, if_pos h]
  · rw [if_neg (fun h2 => h h2.2), if_neg h]
theorem mrg_skip {g : Nat → Nat} {hi lo j : Nat} (h : g j ≠ hi) : mrg g hi lo (j + 1) = mrg g hi lo j := by
  funext i; unfold mrg
  by_cases e : i = j
  · subst e; rw [if_neg (fun h2 => h h2.2), if_neg (fun h2 => h h2.2)]
  · by_cases h1 : i < j ∧ g i = hi
    · rw [if_pos h1, if_pos ⟨by omega, h1.2⟩]
    · rw [if_neg h1, if_neg (fun h2 => h1 ⟨by omega, h2.2⟩)]
theorem mrg_at (g : Nat → Nat) (hi lo j : Nat) : mrg g hi lo j j = g j := by unfold mrg; rw [if_neg (by omega)]
theorem ofK_mrg1 {ps : List Psp} (h : PsR ps) {g : Nat → Nat} {hi lo j : Nat} (hj : j < ps.length) (he : g j = hi) : ofK ps (mrg g hi lo (j + 1)) ps.length (.string (idAt ps j)) = some (.string (idAt ps lo)) := by
  rw [ofK_at (by rw [h.ixAt hj]; exact hj), h.ixAt hj]
  unfold mrg; rw [if_pos ⟨by omega, he⟩]
theorem ofK_mrg2 {ps : List Psp} {g : Nat → Nat} {hi lo j : Nat} (hj : j < ps.length) : ∀ x, x ≠ .string (idAt ps j) → ofK ps (mrg g hi lo (j + 1)) ps.length x = ofK ps (mrg g hi lo j) ps.length x := by
  intro x hx
  cases x with
  | string s =>
    have hne : ixP ps s ≠ j := fun e => hx (by rw [ixP_id hj e])
    simp only [ofK]
    by_cases h1 : ixP ps s < ps.length
    · rw [if_pos h1, if_pos h1]
      have : mrg g hi lo (j + 1) (ixP ps s) = mrg g hi lo j (ixP ps s) := by
        unfold mrg
        by_cases h2 : ixP ps s < j ∧ g (ixP ps s) = hi
        · rw [if_pos h2, if_pos ⟨by omega, h2.2⟩]
        · rw [if_neg h2, if_neg (fun h3 => h2 ⟨by omega, h3.2⟩)]
      rw [this]
    · rw [if_neg h1, if_neg h1]
  | _ => rfl
/-- the labels behind the first k claims -/
def labK (p : Ppl) (k : Nat) : Nat → Nat := labF (edg p.ps (p.cs.take k))
theorem labK_zero (p : Ppl) : labK p 0 = id := rfl
theorem labK_end (p : Ppl) : labK p p.cs.length = lab p := by unfold labK lab; rw [List.take_length]
theorem labK_skip {p : Ppl} {k : Nat} (hk : k < p.cs.length) (h : p.cs[k].s = false) : labK p (k + 1) = labK p k := by
  unfold labK edg
  rw [List.take_succ_eq_append_getElem hk, List.filter_append]
  simp [h]
theorem labK_step {p : Ppl} {k : Nat} (hk : k < p.cs.length) (h : p.cs[k].s = true) : labK p (k + 1) = mergeL (labK p k) (ixP p.ps p.cs[k].a, ixP p.ps p.cs[k].b) := by
  unfold labK
  rw [← labF_snoc]
  congr 1
  unfold edg
  rw [List.take_succ_eq_append_getElem hk, List.filter_append]
  simp [h]
theorem labK_same {p : Ppl} {k : Nat} (hk : k < p.cs.length) (h : labK p k (ixP p.ps p.cs[k].a) = labK p k (ixP p.ps p.cs[k].b)) : labK p (k + 1) = labK p k := by
  cases hs : p.cs[k].s with
  | false => exact labK_skip hk hs
  | true => rw [labK_step hk hs]; unfold mergeL; rw [if_pos h]
theorem labK_merge {p : Ppl} {k : Nat} (hk : k < p.cs.length) (hs : p.cs[k].s = true) (h : labK p k (ixP p.ps p.cs[k].a) ≠ labK p k (ixP p.ps p.cs[k].b)) (n : Nat) :
    ∀ i, i < n → mrg (labK p k) (max (labK p k (ixP p.ps p.cs[k].a)) (labK p k (ixP p.ps p.cs[k].b))) (min (labK p k (ixP p.ps p.cs[k].a)) (labK p k (ixP p.ps p.cs[k].b))) n i = labK p (k + 1) i := by
  intro i hi
  rw [mrg_end _ _ _ _ i hi, labK_step hk hs]
  unfold mergeL
  rw [if_neg h]
theorem labK_lt {p : Ppl} (k : Nat) {i : Nat} (hi : i < p.ps.length) : labK p k i < p.ps.length := Nat.lt_of_le_of_lt ((labF_least _).le i) hi
theorem strKeyed : Keyed Tryz.prog 9 := string_keyed Tryz.underlying9
theorem strKey {s : ByteArray} (h : s.size ≤ 9223372036854775807) : keyOf Tryz.prog 9 (.string s) = some (.string s.data.toList) := keyOf_string_mk Tryz.underlying9 (by simpa [maxLen] using h)
theorem zeroStr : ∀ w, (zeroValue 9).run Tryz.prog w = .ok (.string ⟨#[]⟩) w := fun w => Tryz.zeroValue9 w
end Go.Proofs.YtnlnaglaipjlfaaGreatDoor
