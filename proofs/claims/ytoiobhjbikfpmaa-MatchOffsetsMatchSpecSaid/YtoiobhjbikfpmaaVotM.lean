/- Plain: a map from offsets to how often they were met, and what is collected out of it. -/
import Derived.Test.YtoiobhjbikfpmaaVotP
import Derived.Maps.RangeWalk
import Derived.Maps.OwnOps
namespace Go.Proofs.Ytoiobhjbikfpmaa
open Go.RowKit Go.Dw Go.Maps

def keyD (d : Int) : Lit := .int .i64 d
def litN (n : Int) : DataW Unit := .lit (.int .i64 n)
def MapIs (D : DataW Unit) (f : Int → Nat) : Prop :=
  IsMap D ∧ ∀ d, (f d = 0 → has D (.int .i64 d) = false) ∧ (0 < f d → ∀ z, D.atKey (.int .i64 d) z = .lit (.int .i64 (f d)))
theorem mapIs_start {f : Int → Nat} (hf : ∀ d, f d = 0) : MapIs (.map []) f :=
  ⟨isMap_empty, fun d => ⟨fun _ => rfl, fun h => by have := hf d; omega⟩⟩
theorem mapIs_congr {D : DataW Unit} {f g : Int → Nat} (h : MapIs D f) (e : ∀ d, f d = g d) : MapIs D g :=
  ⟨h.1, fun d => by rw [← e d]; exact h.2 d⟩
theorem mapIs_look {D : DataW Unit} {f : Int → Nat} (h : MapIs D f) {d c : Int} (hat : D.atKey (.int .i64 d) (.lit (.int .i64 0)) = .lit (.int .i64 c)) : c = f d := by
  by_cases h0 : f d = 0
  · rw [atKey_of_not_has ((h.2 d).1 h0)] at hat
    injection hat with hat
    injection hat with _ hat
    omega
  · rw [(h.2 d).2 (by omega)] at hat
    injection hat with hat
    injection hat with _ hat
    omega
theorem mapIs_put {D : DataW Unit} {f g : Int → Nat} (h : MapIs D f) {d c : Int} (hc : c = ((f d + 1 : Nat) : Int)) (hg : ∀ e, g e = if e = d then f e + 1 else f e) : MapIs (D.put (.int .i64 d) (.lit (.int .i64 c))) g := by
  refine ⟨h.1.put _ _, fun e => ?_⟩
  by_cases he : e = d
  · subst he
    rw [hg e, if_pos rfl]
    exact ⟨fun hh => by omega, fun _ z => by rw [atKey_put_same h.1 (show WideAt.IsKeyLit (.int .i64 e) from trivial), hc]⟩
  · have hne : (Lit.int .i64 e) ≠ .int .i64 d := fun hh => by injection hh with _ hh; exact he hh
    rw [hg e, if_neg he, has_put_other hne]
    exact ⟨(h.2 e).1, fun hp z => by rw [atKey_put_other hne]; exact (h.2 e).2 hp z⟩
theorem owns_size {w : World} {P : Program} {k : TypeId} {R : Value → Option (DataW Unit × List MemPlace)} {b n : Nat} {D : DataW Unit} (h : w.ownsMap P k R b n D) : Maps.size D ≤ n := by
  obtain ⟨es, clock, _, _, h3, rfl⟩ := h
  rw [size_eq, length_sorted]
  simpa using h3
/-- V: what was met of a map that is f -/
def Coll (f : Int → Nat) (left : Lit → Bool) (V : List Vot) : Prop :=
  V.Pairwise (fun x y => x.d ≠ y.d) ∧ ∀ x, x ∈ V ↔ x.n = f x.d ∧ 0 < x.n ∧ left (.int .i64 x.d) = false
theorem coll_start {D : DataW Unit} {f : Int → Nat} (h : MapIs D f) : Coll f (Maps.has D) [] := by
  refine ⟨List.Pairwise.nil, fun x => ⟨fun hx => by simp at hx, fun ⟨h1, h2, h3⟩ => ?_⟩⟩
  rw [has_true_of_atKey ((h.2 x.d).2 (by omega))] at h3
  cases h3
theorem coll_at {D : DataW Unit} {f : Int → Nat} (h : MapIs D f) {x c : Int} (hat : ∀ zd, D.atKey (.int .i64 x) zd = .lit (.int .i64 c)) : c = (f x : Int) ∧ 0 < f x := by
  by_cases h0 : f x = 0
  · have := (h.2 x).1 h0
    rw [has_true_of_atKey hat] at this
    cases this
  · have h1 := (h.2 x).2 (by omega) (.lit (.int .i64 0))
    rw [hat] at h1
    injection h1 with h1
    injection h1 with _ h1
    exact ⟨h1, by omega⟩
theorem coll_step {f : Int → Nat} {left : Lit → Bool} {V : List Vot} {x : Int} (h : Coll f left V) (hp : 0 < f x) (hl : left (.int .i64 x) = true) : Coll f (fun z => left z && !z.sameKey (.int .i64 x)) (V ++ [⟨x, f x⟩]) := by
  obtain ⟨h1, h2⟩ := h
  refine ⟨?_, fun y => ?_⟩
  · rw [List.pairwise_append]
    refine ⟨h1, by simp, fun a ha b hb => ?_⟩
    simp at hb
    subst hb
    intro he
    have := ((h2 a).1 ha).2.2
    simp only at he
    rw [he, hl] at this
    cases this
  · rw [List.mem_append, h2 y]
    by_cases hy : y.d = x
    · constructor
      · rintro (⟨_, _, h3⟩ | h3)
        · rw [hy, hl] at h3; cases h3
        · simp at h3; subst h3
          refine ⟨rfl, hp, ?_⟩
          simp only
          rw [WideAt.sameKey_self (by trivial)]; simp
      · rintro ⟨h3, h4, _⟩
        right
        rw [hy] at h3
        obtain ⟨yd, yn⟩ := y
        simp only at hy h3
        subst hy h3
        simp
    · have hne : (Lit.int .i64 y.d) ≠ .int .i64 x := fun hh => by injection hh with _ hh; exact hy hh
      simp only [sameKey_ne hne]
      constructor
      · rintro (⟨h3, h4, h5⟩ | h3)
        · exact ⟨h3, h4, by simp [h5]⟩
        · simp at h3; subst h3; exact absurd rfl hy
      · rintro ⟨h3, h4, h5⟩
        exact .inl ⟨h3, h4, by simpa using h5⟩
theorem coll_end {f : Int → Nat} {left : Lit → Bool} {V : List Vot} (h : Coll f left V) (hl : ∀ kl, left kl = false) : ∀ x, x ∈ V ↔ x.n = f x.d ∧ 0 < x.n := fun x => by
  rw [h.2 x, hl]; simp
/-- what Votes answers -/
def votF (xs ys : List Int) (bo most : Int) : List Vot × Int :=
  if bo ≠ 0 then ([], bo) else if 1 ≤ most ∧ most ≤ 1000 then ((refV xs ys).take most.toNat, 0) else ([], 1)
end Go.Proofs.Ytoiobhjbikfpmaa
