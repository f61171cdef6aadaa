/- People that came in; plain: their faults, groups, doubts. -/
import Derived.Test.YtnlnaglaipjlfaaGreatDoorCrP
import Derived.Test.YtnlnaglaipjlfaaGreatDoorNameQ
import Derived.Test.YtnlnaglaipjlfaaGreatDoorPplP
import Derived.Test.YtnlnaglaipjlfaaGreatDoorAgrP
namespace Go.Proofs.YtnlnaglaipjlfaaGreatDoor
open Go.RowKit Go.Dw

/-- a person, plain -/
structure Psp where
  id : ByteArray
  ns : List ByteArray
def dPsp : Psp := ⟨⟨#[]⟩, []⟩
structure Clm where
  a : ByteArray
  b : ByteArray
  s : Bool
def dClm : Clm := ⟨⟨#[]⟩, ⟨#[]⟩, false⟩
def Clm.cs (c : Clm) : List Value := [.string c.a, .string c.b, .bool c.s]
/-- a person in memory -/
structure Psn where
  id : ByteArray
  s : Slc ByteArray
def Psn.cs (p : Psn) : List Value := [.string p.id, p.s.v]
def Psn.x (p : Psn) : Psp := ⟨p.id, p.s.xs⟩
/-- people in memory -/
structure Peo where
  p : Slc Psn
  c : Slc Clm
def Peo.v (x : Peo) : Value := .agg #[x.p.v, x.c.v]
structure Ppl where
  ps : List Psp
  cs : List Clm
def Peo.x (x : Peo) : Ppl := ⟨x.p.xs.map Psn.x, x.c.xs⟩
def PsnOk (w : World) (x : Psn) : Prop := (x.id.size ≤ 9223372036854775807 ∧ x.s.xs.length ≤ x.s.c) ∧ x.s.xs.length ≤ 9223372036854775807 ∧ Rd w x.s.a (sb x.s.xs) ∧ ∀ y ∈ x.s.xs, y.size ≤ 9223372036854775807
theorem PsnOk.below {w w' : World} {x : Psn} (h : PsnOk w x) (hb : Below w.heap.size w w') : PsnOk w' x := ⟨h.1, h.2.1, h.2.2.1.below hb, h.2.2.2⟩
def ClmOk (c : Clm) : Prop := c.a.size ≤ 9223372036854775807 ∧ c.b.size ≤ 9223372036854775807
/-- people that came in -/
structure PeoOk (w : World) (x : Peo) : Prop where
  pl : x.p.xs.length ≤ 9223372036854775807
  pc : x.p.xs.length ≤ x.p.c
  pr : Rd w x.p.a (x.p.xs.flatMap Psn.cs)
  po : ∀ y ∈ x.p.xs, PsnOk w y
  cl : x.c.xs.length ≤ 9223372036854775807
  cr : Rd w x.c.a (x.c.xs.flatMap Clm.cs)
  co : ∀ y ∈ x.c.xs, ClmOk y
theorem PeoOk.below {w w' : World} {x : Peo} (h : PeoOk w x) (hb : Below w.heap.size w w') : PeoOk w' x :=
  ⟨h.pl, h.pc, h.pr.below hb, fun y hy => (h.po y hy).below hb, h.cl, h.cr.below hb, h.co⟩
theorem psn_at {w : World} {A : Option Addr} {xs : List Psn} (h : Rd w A (xs.flatMap Psn.cs)) (hn : 0 < xs.length) :
    ∃ b off, A = some ⟨b, off, none⟩ ∧ b < w.heap.size ∧ ∀ k (hk : k < xs.length), w.cell? ⟨b, off + k * 2, none⟩ = some (.string xs[k].id) ∧ w.cell? ⟨b, off + k * 2 + 1, none⟩ = some (.slice xs[k].s.a xs[k].s.xs.length xs[k].s.c) := by
  obtain ⟨b, off, e, hb, hc⟩ := h.at_ (by rw [flat_len Psn.cs 2 (fun _ => rfl)]; omega)
  have hk2 : ∀ k (hk : k < xs.length) i, i < 2 → (xs.flatMap Psn.cs)[k * 2 + i]? = (xs[k].cs)[i]? := fun k hk i hi => flat_get Psn.cs 2 (fun _ => rfl) xs k i hk hi
  refine ⟨b, off, e, hb, fun k hk => ⟨?_, ?_⟩⟩
  · exact hc (k * 2) _ (by have := hk2 k hk 0 (by omega); rw [Nat.add_zero] at this; rw [this]; rfl)
  · have := hc (k * 2 + 1) (.slice xs[k].s.a xs[k].s.xs.length xs[k].s.c) (by rw [hk2 k hk 1 (by omega)]; rfl)
    rw [Nat.add_assoc]; exact this
theorem clm_at {w : World} {A : Option Addr} {xs : List Clm} (h : Rd w A (xs.flatMap Clm.cs)) (hn : 0 < xs.length) :
    ∃ b off, A = some ⟨b, off, none⟩ ∧ b < w.heap.size ∧ ∀ k (hk : k < xs.length), w.cell? ⟨b, off + k * 3, none⟩ = some (.string xs[k].a) ∧ w.cell? ⟨b, off + k * 3 + 1, none⟩ = some (.string xs[k].b) ∧ w.cell? ⟨b, off + k * 3 + 2, none⟩ = some (.bool xs[k].s) := by
  obtain ⟨b, off, e, hb, hc⟩ := h.at_ (by rw [flat_len Clm.cs 3 (fun _ => rfl)]; omega)
  have hk3 : ∀ k (hk : k < xs.length) i, i < 3 → (xs.flatMap Clm.cs)[k * 3 + i]? = (xs[k].cs)[i]? := fun k hk i hi => flat_get Clm.cs 3 (fun _ => rfl) xs k i hk hi
  refine ⟨b, off, e, hb, fun k hk => ⟨?_, ?_, ?_⟩⟩
  · exact hc (k * 3) _ (by have := hk3 k hk 0 (by omega); rw [Nat.add_zero] at this; rw [this]; rfl)
  · have := hc (k * 3 + 1) (.string xs[k].b) (by rw [hk3 k hk 1 (by omega)]; rfl)
    rw [Nat.add_assoc]; exact this
  · have := hc (k * 3 + 2) (.bool xs[k].s) (by rw [hk3 k hk 2 (by omega)]; rfl)
    rw [Nat.add_assoc]; exact this
/-- the number of a person, the length where there is none -/
def ixP (ps : List Psp) (id : ByteArray) : Nat := ps.findIdx fun x => decide (x.id = id)
theorem ixP_le (ps : List Psp) (id : ByteArray) : ixP ps id ≤ ps.length := List.findIdx_le_length
theorem ixP_at {ps : List Psp} {id : ByteArray} (h : ixP ps id < ps.length) : ps[ixP ps id].id = id := by
  have h1 := List.findIdx_getElem (w := h); exact of_decide_eq_true h1
theorem ixP_before {ps : List Psp} {id : ByteArray} {k : Nat} (h : k < ixP ps id) (hk : k < ps.length) : ¬ ps[k].id = id := by
  have := List.not_of_lt_findIdx h; simpa using this
theorem ixP_none {ps : List Psp} {id : ByteArray} (h : ∀ k (hk : k < ps.length), ¬ ps[k].id = id) : ixP ps id = ps.length := by
  rcases Nat.lt_or_ge (ixP ps id) ps.length with h1 | h1
  · exact absurd (ixP_at h1) (h _ h1)
  · exact Nat.le_antisymm (ixP_le _ _) h1
theorem ixP_first {ps : List Psp} {id : ByteArray} {k : Nat} (hk : k < ps.length) (he : ps[k].id = id) (hb : ∀ j (hj : j < k), ¬ ps[j].id = id) : ixP ps id = k := by
  rcases Nat.lt_trichotomy (ixP ps id) k with h | h | h
  · exact absurd (ixP_at (Nat.lt_trans h hk)) (hb _ h)
  · exact h
  · exact absurd he (ixP_before h hk)
def memS (l : List ByteArray) (q : ByteArray) : Bool := l.any fun x => decide (x = q)
/-- the fault of the k-th name -/
def namF (ns : List ByteArray) (k : Nat) : Int := if isLn (ns.getD k ⟨#[]⟩) = false then 3 else if memS (ns.take k) (ns.getD k ⟨#[]⟩) = true then 7 else 0
def nmsF (ns : List ByteArray) : Int := if ns.length = 0 then 9 else if 10 < ns.length then 2 else firstNZ (namF ns) ns.length
/-- the fault of the i-th person -/
def psF (ps : List Psp) (i : Nat) : Int :=
  if isNm (ps.getD i dPsp).id = false then 5 else if (decide (0 < i) && decide (¬ sLt (ps.getD (i - 1) dPsp).id (ps.getD i dPsp).id)) = true then 8 else nmsF (ps.getD i dPsp).ns
def clLt (x y : Clm) : Bool := decide (sLt x.a y.a) || (decide (x.a = y.a) && decide (sLt x.b y.b))
/-- the fault of the i-th claim -/
def clF (ps : List Psp) (cs : List Clm) (i : Nat) : Int :=
  if ps.length ≤ ixP ps (cs.getD i dClm).a ∨ ps.length ≤ ixP ps (cs.getD i dClm).b then 9
  else if ¬ sLt (cs.getD i dClm).a (cs.getD i dClm).b ∨ (0 < i ∧ clLt (cs.getD (i - 1) dClm) (cs.getD i dClm) = false) then 8 else 0
def edg (ps : List Psp) (cs : List Clm) : List (Nat × Nat) := (cs.filter (·.s)).map fun c => (ixP ps c.a, ixP ps c.b)
def lab (p : Ppl) : Nat → Nat := labF (edg p.ps p.cs)
def clash (p : Ppl) (k : Nat) : Int := if (p.cs.getD k dClm).s = false ∧ lab p (ixP p.ps (p.cs.getD k dClm).a) = lab p (ixP p.ps (p.cs.getD k dClm).b) then 12 else 0
def peoF (p : Ppl) : Int :=
  if 100 < p.ps.length ∨ 200 < p.cs.length then 2 else if firstNZ (psF p.ps) p.ps.length ≠ 0 then firstNZ (psF p.ps) p.ps.length
  else if firstNZ (clF p.ps p.cs) p.cs.length ≠ 0 then firstNZ (clF p.ps p.cs) p.cs.length else firstNZ (clash p) p.cs.length
theorem firstNZ_zero {f : Nat → Int} : ∀ {n : Nat}, firstNZ f n = 0 → ∀ j, j < n → f j = 0
  | 0, _, j, hj => by omega
  | n + 1, h, j, hj => by
    rw [firstNZ] at h
    by_cases h0 : firstNZ f n = 0
    · rw [if_pos h0] at h
      by_cases e : j = n
      · subst e; exact h
      · exact firstNZ_zero h0 j (by omega)
    · rw [if_neg h0] at h; exact absurd h h0
/-- what right persons are -/
structure PsR (ps : List Psp) : Prop where
  name : ∀ i (h : i < ps.length), isNm ps[i].id = true
  ord : ∀ i (h : i + 1 < ps.length), sLt (ps[i]'(by omega)).id ps[i + 1].id
  nms : ∀ i (h : i < ps.length), nmsF ps[i].ns = 0
theorem psR_of {ps : List Psp} (h : firstNZ (psF ps) ps.length = 0) : PsR ps := by
  have h1 := firstNZ_zero h
  have h2 : ∀ i (hi : i < ps.length), isNm ps[i].id = true ∧ (0 < i → sLt (ps[i - 1]'(by omega)).id ps[i].id) ∧ nmsF ps[i].ns = 0 := fun i hi => by
    have := h1 i hi
    unfold psF at this
    rw [getD_at _ _ i hi] at this
    split at this
    · omega
    · rename_i g1
      split at this
      · omega
      · rename_i g2
        refine ⟨by simpa using g1, fun h0 => ?_, this⟩
        rw [getD_at _ _ (i - 1) (by omega)] at g2
        simp only [Bool.and_eq_true, decide_eq_true_eq, not_and] at g2
        exact Decidable.not_not.1 (g2 h0)
  exact ⟨fun i hi => (h2 i hi).1, fun i hi => (h2 (i + 1) hi).2.1 (by omega), fun i hi => (h2 i hi).2.2⟩
theorem PsR.lt {ps : List Psp} (h : PsR ps) : ∀ (d i : Nat) (hj : i + d + 1 < ps.length), sLt (ps[i]'(by omega)).id ps[i + d + 1].id
  | 0, i, hj => h.ord i hj
  | d + 1, i, hj => sLt_trans (h.lt d i (by omega)) (h.ord (i + d + 1) hj)
theorem PsR.lt' {ps : List Psp} (h : PsR ps) {i j : Nat} (hij : i < j) (hj : j < ps.length) : sLt (ps[i]'(by omega)).id ps[j].id := by
  have := h.lt (j - i - 1) i (by omega)
  have e : i + (j - i - 1) + 1 = j := by omega
  simpa only [e] using this
theorem PsR.inj {ps : List Psp} (h : PsR ps) {i j : Nat} (hi : i < ps.length) (hj : j < ps.length) (he : ps[i].id = ps[j].id) : i = j := by
  rcases Nat.lt_trichotomy i j with hlt | heq | hgt
  · have := h.lt' hlt hj; rw [he] at this; exact absurd this (sLt_irr _)
  · exact heq
  · have := h.lt' hgt hi; rw [he] at this; exact absurd this (sLt_irr _)
theorem PsR.ix {ps : List Psp} (h : PsR ps) {i : Nat} (hi : i < ps.length) : ixP ps ps[i].id = i :=
  ixP_first hi rfl fun j hj he => by have := h.inj (by omega) hi he; omega
structure ClR (ps : List Psp) (cs : List Clm) : Prop where
  ia : ∀ c ∈ cs, ixP ps c.a < ps.length
  ib : ∀ c ∈ cs, ixP ps c.b < ps.length
  ab : ∀ c ∈ cs, sLt c.a c.b
  ord : ∀ i (h : i + 1 < cs.length), clLt (cs[i]'(by omega)) cs[i + 1] = true
theorem clR_of {ps : List Psp} {cs : List Clm} (h : firstNZ (clF ps cs) cs.length = 0) : ClR ps cs := by
  have h1 := firstNZ_zero h
  have h2 : ∀ i (hi : i < cs.length), (ixP ps cs[i].a < ps.length ∧ ixP ps cs[i].b < ps.length) ∧ sLt cs[i].a cs[i].b ∧ (0 < i → clLt (cs[i - 1]'(by omega)) cs[i] = true) := fun i hi => by
    have := h1 i hi
    unfold clF at this
    rw [getD_at _ _ i hi] at this
    split at this
    · omega
    · rename_i g1
      split at this
      · omega
      · rename_i g2
        refine ⟨⟨by omega, by omega⟩, Decidable.not_not.1 (fun hh => g2 (.inl hh)), fun h0 => ?_⟩
        rw [getD_at _ _ (i - 1) (by omega)] at g2
        cases hb : clLt cs[i - 1] cs[i] with
        | true => rfl
        | false => exact absurd (.inr ⟨h0, hb⟩) g2
  refine ⟨fun c hc => ?_, fun c hc => ?_, fun c hc => ?_, fun i hi => (h2 (i + 1) hi).2.2 (by omega)⟩
  · obtain ⟨i, hi, rfl⟩ := List.getElem_of_mem hc; exact (h2 i hi).1.1
  · obtain ⟨i, hi, rfl⟩ := List.getElem_of_mem hc; exact (h2 i hi).1.2
  · obtain ⟨i, hi, rfl⟩ := List.getElem_of_mem hc; exact (h2 i hi).2.1
/-- right people -/
structure PplR (p : Ppl) : Prop where
  n : p.ps.length ≤ 100
  m : p.cs.length ≤ 200
  ps : PsR p.ps
  cs : ClR p.ps p.cs
  nc : ∀ k, k < p.cs.length → clash p k = 0
theorem pplR_of {p : Ppl} (h : peoF p = 0) : PplR p := by
  unfold peoF at h
  split at h
  · omega
  · rename_i h1
    split at h
    · exact absurd h ‹_›
    · rename_i h2
      split at h
      · exact absurd h ‹_›
      · rename_i h3
        exact ⟨by omega, by omega, psR_of (Decidable.not_not.1 h2), clR_of (Decidable.not_not.1 h3), firstNZ_zero h⟩
theorem lab_lt {p : Ppl} {i : Nat} (hi : i < p.ps.length) : lab p i < p.ps.length := Nat.lt_of_le_of_lt ((labF_least _).le i) hi
theorem lab_le (p : Ppl) (i : Nat) : lab p i ≤ i := (labF_least _).le i
theorem lab_idem (p : Ppl) (i : Nat) : lab p (lab p i) = lab p i := (labF_least _).idem i
/-- the persons of a group, in order; the groups -/
def idAt (ps : List Psp) (i : Nat) : ByteArray := (ps.getD i dPsp).id
def grpF (p : Ppl) (n m : Nat) : List ByteArray := ((List.range n).filter fun k => decide (lab p k = m)).map (idAt p.ps)
def ledF (p : Ppl) (n : Nat) : List Nat := (List.range n).filter fun i => decide (lab p i = i)
def grpsF (p : Ppl) (n : Nat) : List (List ByteArray) := (ledF p n).map (grpF p n)
end Go.Proofs.YtnlnaglaipjlfaaGreatDoor
