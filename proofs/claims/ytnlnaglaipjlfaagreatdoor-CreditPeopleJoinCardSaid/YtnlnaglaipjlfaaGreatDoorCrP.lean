/- Credits that came in; plain: their faults. -/
import Derived.Test.YtnlnaglaipjlfaaGreatDoorDec
import Derived.Test.YtnlnaglaipjlfaaGreatDoorLin
import Derived.Test.YtnlnaglaipjlfaaGreatDoorStP
import Derived.Test.YtnlnaglaipjlfaaGreatDoorTab
namespace Go.Dw
/-- strings as cells -/
def sb (l : List ByteArray) : List Value := l.map Value.string
theorem sb_len (l : List ByteArray) : (sb l).length = l.length := by simp [sb]
theorem sb_at (l : List ByteArray) (k : Nat) (h : k < l.length) : (sb l)[k]? = some (.string l[k]) := by simp [sb, h]
theorem sb_snoc (l : List ByteArray) (x : ByteArray) : sb (l ++ [x]) = sb l ++ [.string x] := by simp [sb]
theorem bLe_lt {a b : ByteArray} (h : sLt a b) : Op.bytesLess a.toList b.toList = true := by
  rw [ByteArray.toList_eq, ByteArray.toList_eq]; exact h
theorem bLe_eq (a : ByteArray) : Op.bytesLess a.toList a.toList = false ∧ (a.toList == a.toList) = true := by
  rw [ByteArray.toList_eq]; exact ⟨bL_irr _, by simp⟩
theorem bLe_gt {a b : ByteArray} (h : sLt b a) : Op.bytesLess a.toList b.toList = false ∧ (a.toList == b.toList) = false := by
  rw [ByteArray.toList_eq, ByteArray.toList_eq]
  have h2 := sLt_asymm h
  refine ⟨by simpa [sLt, bL] using h2, ?_⟩
  have h3 : ¬ a.data.toList = b.data.toList := fun e => by
    have := ba_ext e
    subst this
    exact sLt_irr a h
  exact beq_eq_false_iff_ne.2 h3
end Go.Dw
namespace Go.Proofs.YtnlnaglaipjlfaaGreatDoor
open Go.RowKit Go.Dw
/-- the fault of the i-th name of a list in order -/
def inF (l : List ByteArray) (i : Nat) : Int :=
  if isNm (l.getD i ⟨#[]⟩) = false then 5 else if (decide (0 < i) && decide (¬ sLt (l.getD (i - 1) ⟨#[]⟩) (l.getD i ⟨#[]⟩))) = true then 8 else 0
/-- .. of the list -/
def insF (l : List ByteArray) : Int := if l.length = 0 then 9 else if 20 < l.length then 2 else firstNZ (inF l) l.length
/-- a credit, plain -/
structure Crp where
  r : ByteArray
  p : ByteArray
  n : ByteArray
  l : List ByteArray
  m : Int
def dCrp : Crp := ⟨⟨#[]⟩, ⟨#[]⟩, ⟨#[]⟩, [], 0⟩
structure Crd where
  r : ByteArray
  p : ByteArray
  n : ByteArray
  s : Slc ByteArray
  m : Int
def Crd.cs (c : Crd) : List Value := [.string c.r, .string c.p, .string c.n, c.s.v, .int .i64 c.m]
def Crd.x (c : Crd) : Crp := ⟨c.r, c.p, c.n, c.s.xs, c.m⟩
def crdF (c : Crp) : Int := if isLn c.r = false ∨ isLn c.n = false then 3 else if isNm c.p = false then 5 else if insF c.l ≠ 0 then insF c.l else if 1 ≤ c.m ∧ c.m ≤ 100000 then 0 else 1
def crsF (L : List Crp) : Int := if 1000 < L.length then 2 else firstNZ (fun i => crdF (L.getD i dCrp)) L.length
/-- one credit in memory -/
def CrOk (w : World) (c : Crd) : Prop := c.r.size ≤ 9223372036854775807 ∧ c.p.size ≤ 9223372036854775807 ∧ c.n.size ≤ 9223372036854775807 ∧ c.s.xs.length ≤ 9223372036854775807 ∧ Rd w c.s.a (sb c.s.xs) ∧ (∀ x ∈ c.s.xs, x.size ≤ 9223372036854775807) ∧ inI64 c.m
theorem CrOk.below {w w' : World} {c : Crd} (h : CrOk w c) (hb : Below w.heap.size w w') : CrOk w' c := ⟨h.1, h.2.1, h.2.2.1, h.2.2.2.1, h.2.2.2.2.1.below hb, h.2.2.2.2.2⟩
/-- credits that came in -/
def Crs (w : World) (x : Slc Crd) : Prop := x.xs.length ≤ 9223372036854775807 ∧ Rd w x.a (x.xs.flatMap Crd.cs) ∧ ∀ c ∈ x.xs, CrOk w c
theorem Crs.below {w w' : World} {x : Slc Crd} (h : Crs w x) (hb : Below w.heap.size w w') : Crs w' x :=
  ⟨h.1, h.2.1.below hb, fun c hc => (h.2.2 c hc).below hb⟩
theorem Crs.at_ {w : World} {x : Slc Crd} (h : Crs w x) (hn : 0 < x.xs.length) :
    ∃ b off, x.a = some ⟨b, off, none⟩ ∧ b < w.heap.size ∧ ∀ k (hk : k < x.xs.length), w.cell? ⟨b, off + k * 5, none⟩ = some (.string x.xs[k].r) ∧ w.cell? ⟨b, off + k * 5 + 1, none⟩ = some (.string x.xs[k].p) ∧ w.cell? ⟨b, off + k * 5 + 2, none⟩ = some (.string x.xs[k].n)
      ∧ w.cell? ⟨b, off + k * 5 + 3, none⟩ = some (.slice x.xs[k].s.a x.xs[k].s.xs.length x.xs[k].s.c) ∧ w.cell? ⟨b, off + k * 5 + 4, none⟩ = some (.int .i64 x.xs[k].m) := by
  obtain ⟨b, off, e, hb, hc⟩ := h.2.1.at_ (by rw [flat_len Crd.cs 5 (fun _ => rfl)]; omega)
  have hk5 : ∀ k (hk : k < x.xs.length) i, i < 5 → (x.xs.flatMap Crd.cs)[k * 5 + i]? = (x.xs[k].cs)[i]? := fun k hk i hi => flat_get Crd.cs 5 (fun _ => rfl) x.xs k i hk hi
  refine ⟨b, off, e, hb, fun k hk => ⟨?_, ?_, ?_, ?_, ?_⟩⟩
  · exact hc (k * 5) _ (by have := hk5 k hk 0 (by omega); rw [Nat.add_zero] at this; rw [this]; rfl)
  · have := hc (k * 5 + 1) (.string x.xs[k].p) (by rw [hk5 k hk 1 (by omega)]; rfl)
    rw [Nat.add_assoc]; exact this
  · have := hc (k * 5 + 2) (.string x.xs[k].n) (by rw [hk5 k hk 2 (by omega)]; rfl)
    rw [Nat.add_assoc]; exact this
  · have := hc (k * 5 + 3) (.slice x.xs[k].s.a x.xs[k].s.xs.length x.xs[k].s.c) (by rw [hk5 k hk 3 (by omega)]; rfl)
    rw [Nat.add_assoc]; exact this
  · have := hc (k * 5 + 4) (.int .i64 x.xs[k].m) (by rw [hk5 k hk 4 (by omega)]; rfl)
    rw [Nat.add_assoc]; exact this
theorem getD_at {α : Type} (l : List α) (d : α) (k : Nat) (h : k < l.length) : l.getD k d = l[k] := by
  rw [List.getD_eq_getElem?_getD, List.getElem?_eq_getElem h]; rfl
end Go.Proofs.YtnlnaglaipjlfaaGreatDoor
