/- Readings that say the type of their block: what is written elsewhere leaves them. -/
import Derived.Test.YtmppccnioiodgaaGreatDoorBase
namespace Go.Dw
open Go.RowKit

/-- each block of a type stays as it is -/
structure KpT (T : TypeId) (w w' : World) : Prop where
  s : w.heap.size ≤ w'.heap.size
  b : ∀ (b : Nat) (cs : Array Value) (fr : Nat × Nat), w.heap[b]? = some (Obj.cells cs T fr) → w'.heap[b]? = w.heap[b]?
theorem KpT.refl (T : TypeId) (w : World) : KpT T w w := ⟨Nat.le_refl _, fun _ _ _ _ => rfl⟩
theorem KpT.trans {T : TypeId} {a b c : World} (h : KpT T a b) (k : KpT T b c) : KpT T a c :=
  ⟨Nat.le_trans h.s k.s, fun i cs fr hi => by
    have h1 := h.b i cs fr hi
    rw [← h1]
    exact k.b i cs fr (by rw [h1]; exact hi)⟩
theorem KpT.of_below {T : TypeId} {w w' : World} (h : Below w.heap.size w w') : KpT T w w' :=
  ⟨h.size, fun i _ _ hi => h.block i (Array.getElem?_eq_some_iff.1 hi).1⟩
/-- a row of another type grows or is written -/
theorem KpT.of_grown {T T' : TypeId} {w w' : World} {row : Option Nat} (hg : w.grownBy w' row) (ht : ∀ g, row = some g → ∃ cs fr, w.heap[g]? = some (.cells cs T' fr)) (hne : T' ≠ T) : KpT T w w' :=
  ⟨hg.size, fun i cs fr hi => by
    refine hg.block i (Array.getElem?_eq_some_iff.1 hi).1 fun e => ?_
    obtain ⟨cs', fr', h1⟩ := ht i e.symm
    rw [hi] at h1
    injection h1 with h1
    injection h1 with _ h1
    exact hne h1.symm⟩
theorem own_ty {w : World} {base n size : Nat} {T : TypeId} {v : Value} {xs : List Value} (h : w.ownsRow base T size v n xs) : ∀ g, v.ownBlock = some g → ∃ cs fr, w.heap[g]? = some (.cells cs T fr) := fun g hg => by
  rcases h.2 with ⟨h1, _⟩ | ⟨g', cap, cur, hv, _, hgg, _⟩
  · subst h1; cases hg
  · subst hv
    injection hg with hg
    subst hg
    exact ⟨_, _, hgg⟩
theorem KpT.own {T T' : TypeId} {w w' : World} {base n size : Nat} {v : Value} {xs : List Value} (h : w.ownsRow base T' size v n xs) (hg : w.grownBy w' v.ownBlock) (hne : T' ≠ T) : KpT T w w' := .of_grown hg (own_ty h) hne
theorem KpT.alloc {T : TypeId} {w w' : World} (h : KpT T w w') (o : Obj) : KpT T w (w'.alloc o) :=
  h.trans (.of_below ((Below.refl _ _).alloc (Nat.le_refl _) _))
theorem KpT.drew {T : TypeId} {w w' : World} (h : KpT T w w') : KpT T w w'.drew := ⟨h.s, h.b⟩
/-- a block stays that is none of the type that is written -/
theorem KpT.setCell {T T' : TypeId} {w w' : World} (h : KpT T w w') {a : Addr} {u : Value} (ht : ∃ cs fr, w'.heap[a.block]? = some (.cells cs T' fr)) (hne : T' ≠ T) : KpT T w (w'.setCell a u) := by
  refine h.trans ⟨by simp, fun i cs fr hi => ?_⟩
  have : i ≠ a.block := fun e => by
    subst e
    obtain ⟨cs', fr', h1⟩ := ht
    rw [hi] at h1
    injection h1 with h1
    injection h1 with _ h1
    exact hne h1.symm
  unfold World.setCell
  simp only [Array.getElem?_modify]
  rw [if_neg (Ne.symm this)]
/-- a slice that reads as cells, in a block of a type -/
def RdT (T : TypeId) (w : World) (A : Option Addr) (vs : List Value) : Prop := Rd w A vs ∧ ∀ b off, A = some ⟨b, off, none⟩ → vs ≠ [] → ∃ cs fr, w.heap[b]? = some (.cells cs T fr)
theorem RdT.rd {T : TypeId} {w : World} {A : Option Addr} {vs : List Value} (h : RdT T w A vs) : Rd w A vs := h.1
theorem RdT.kp {T : TypeId} {w w' : World} {A : Option Addr} {vs : List Value} (h : RdT T w A vs) (hk : KpT T w w') : RdT T w' A vs := by
  obtain ⟨h1, h2⟩ := h
  by_cases h0 : vs = []
  · exact ⟨.inl h0, fun _ _ _ h => absurd h0 h⟩
  · rcases h1 with h1 | ⟨b, off, e, hb, hc⟩
    · exact absurd h1 h0
    · obtain ⟨cs, fr, hbb⟩ := h2 b off e h0
      have hkb := hk.b b cs fr hbb
      refine ⟨.inr ⟨b, off, e, Nat.lt_of_lt_of_le hb hk.s, fun j u hu => (World.cell?_of_block hkb).trans (hc j u hu)⟩, fun b2 off2 e2 _ => ?_⟩
      rw [e] at e2
      injection e2 with e2
      injection e2 with e2 e3
      subst e2
      exact ⟨cs, fr, hkb.trans hbb⟩
theorem RdT.below {T : TypeId} {w w' : World} {A : Option Addr} {vs : List Value} (h : RdT T w A vs) (hb : Below w.heap.size w w') : RdT T w' A vs := h.kp (.of_below hb)
theorem RdT.nil (T : TypeId) (w : World) (A : Option Addr) : RdT T w A [] := ⟨.inl rfl, fun _ _ _ h => absurd rfl h⟩
theorem RdT.of_own {T : TypeId} {w : World} {base size n c : Nat} {A : Option Addr} {xs : List Value} (h : w.ownsRow base T size (.slice A n c) n xs) : RdT T w A xs := by
  refine ⟨Rd.of_own h, fun b off e h0 => ?_⟩
  rcases h.2 with ⟨h1, h2⟩ | ⟨g, cap, cur, hv, hb, hg, _⟩
  · exact absurd (List.eq_nil_of_length_eq_zero (by rw [h.1, h2]; simp)) h0
  · injection hv with hv1 hv2 hv3
    rw [e] at hv1
    injection hv1 with hv1
    injection hv1 with hv1 hv4
    subst hv1
    exact ⟨_, _, hg⟩
end Go.Dw
