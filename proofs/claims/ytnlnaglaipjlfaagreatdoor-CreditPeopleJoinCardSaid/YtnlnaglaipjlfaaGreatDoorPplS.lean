/- Plain: groups, person by person; rows of the call's own in a row of the call's own. -/
import Derived.Test.YtnlnaglaipjlfaaGreatDoorPplQ
import Derived.Laws.OwnMore
import Derived.Deep.AppendLies
namespace Go.Proofs.YtnlnaglaipjlfaaGreatDoor
open Go.RowKit Go.Dw Go.Maps

def posF (p : Ppl) (m : Nat) : Nat := (ledF p m).length
theorem ledF_succ (p : Ppl) (k : Nat) : ledF p (k + 1) = if lab p k = k then ledF p k ++ [k] else ledF p k := by
  unfold ledF
  rw [List.range_succ, List.filter_append]
  by_cases h : lab p k = k
  · rw [if_pos h]; simp [h]
  · rw [if_neg h]; simp [h]
theorem mem_led {p : Ppl} {k m : Nat} : m ∈ ledF p k ↔ m < k ∧ lab p m = m := by
  unfold ledF; simp
theorem grpF_succ (p : Ppl) (k m : Nat) : grpF p (k + 1) m = if lab p k = m then grpF p k m ++ [idAt p.ps k] else grpF p k m := by
  unfold grpF
  rw [List.range_succ, List.filter_append, List.map_append]
  by_cases h : lab p k = m
  · rw [if_pos h]; simp [h]
  · rw [if_neg h]; simp [h]
theorem grpF_new (p : Ppl) (k : Nat) : grpF p k k = [] := by
  unfold grpF
  rw [List.filter_eq_nil_iff.2]
  · rfl
  · intro a ha
    have h1 := List.mem_range.1 ha
    have h2 := lab_le p a
    simp; omega
theorem grps_len (p : Ppl) (k : Nat) : (grpsF p k).length = (ledF p k).length := by unfold grpsF; simp
/-- the leader m stands at its place -/
theorem led_at {p : Ppl} : ∀ {k m : Nat}, m < k → lab p m = m → (ledF p k)[posF p m]? = some m
  | 0, m, h, _ => by omega
  | k + 1, m, h, hm => by
    rw [ledF_succ]
    by_cases e : m = k
    · subst e
      rw [if_pos hm]
      unfold posF
      rw [List.getElem?_append_right (Nat.le_refl _)]
      simp
    · have ih := led_at (p := p) (k := k) (m := m) (by omega) hm
      have hl := (List.getElem?_eq_some_iff.1 ih).1
      split
      · rw [List.getElem?_append_left hl]; exact ih
      · exact ih
theorem pos_lt {p : Ppl} {k m : Nat} (h : m < k) (hm : lab p m = m) : posF p m < (ledF p k).length := (List.getElem?_eq_some_iff.1 (led_at h hm)).1
theorem grps_at {p : Ppl} {k m : Nat} (h : m < k) (hm : lab p m = m) : (grpsF p k)[posF p m]? = some (grpF p k m) := by
  unfold grpsF; rw [List.getElem?_map, led_at h hm]; rfl
theorem led_nodup (p : Ppl) (k : Nat) : (ledF p k).Nodup := List.Pairwise.filter _ List.nodup_range
theorem grps_lead {p : Ppl} {k : Nat} (h : lab p k = k) : grpsF p (k + 1) = grpsF p k ++ [[idAt p.ps k]] := by
  unfold grpsF
  rw [ledF_succ, if_pos h, List.map_append]
  congr 1
  · apply List.map_congr_left
    intro m hm
    rw [grpF_succ, if_neg]
    have := (mem_led.1 hm).1
    omega
  · simp only [List.map_cons, List.map_nil]
    rw [grpF_succ, if_pos h, grpF_new]; rfl
theorem grps_more {p : Ppl} {k : Nat} (h : lab p k ≠ k) : grpsF p (k + 1) = (grpsF p k).set (posF p (lab p k)) (grpF p k (lab p k) ++ [idAt p.ps k]) := by
  have hm : lab p (lab p k) = lab p k := lab_idem p k
  have hlt : lab p k < k := by have := lab_le p k; omega
  have hat := led_at hlt hm
  apply List.ext_getElem?
  intro i
  unfold grpsF
  rw [ledF_succ, if_neg h, List.getElem?_set, List.getElem?_map, List.getElem?_map]
  by_cases e : posF p (lab p k) = i
  · subst e
    rw [if_pos rfl, hat, if_pos (by rw [List.length_map]; exact pos_lt hlt hm)]
    simp only [Option.map_some]
    rw [grpF_succ, if_pos rfl]
  · rw [if_neg e]
    cases hi : (ledF p k)[i]? with
    | none => rfl
    | some m =>
      simp only [Option.map_some]
      rw [grpF_succ, if_neg]
      intro hh
      subst hh
      have h1 := (List.getElem?_eq_some_iff.1 hat)
      have h2 := (List.getElem?_eq_some_iff.1 hi)
      exact e ((List.getElem_inj (led_nodup p k)).1 (h1.2.trans h2.2.symm))
/-- the places of the leaders -/
def atK (p : Ppl) (k : Nat) : Value → Option Value
  | .string s => if ixP p.ps s < k ∧ lab p (ixP p.ps s) = ixP p.ps s then some (.int .i64 (posF p (ixP p.ps s) : Nat)) else none
  | _ => none
theorem atK_zero (p : Ppl) : atK p 0 = fun _ => none := by
  funext v
  cases v <;> simp [atK]
theorem atK_at {p : Ppl} (h : PsR p.ps) {k m : Nat} (hm : m < p.ps.length) (hk : m < k) (hl : lab p m = m) : atK p k (.string (idAt p.ps m)) = some (.int .i64 (posF p m : Nat)) := by
  simp only [atK]
  rw [h.ixAt hm, if_pos ⟨hk, hl⟩]
theorem atK_put2 {p : Ppl} {k : Nat} (hk : k < p.ps.length) : ∀ x, x ≠ .string (idAt p.ps k) → atK p (k + 1) x = atK p k x := by
  intro x hx
  cases x with
  | string s =>
    have hne : ixP p.ps s ≠ k := fun e => hx (by rw [ixP_id hk e])
    simp only [atK]
    by_cases h1 : ixP p.ps s < k ∧ lab p (ixP p.ps s) = ixP p.ps s
    · rw [if_pos h1, if_pos ⟨by omega, h1.2⟩]
    · rw [if_neg h1, if_neg (fun h2 => h1 ⟨by omega, h2.2⟩)]
  | _ => rfl
theorem atK_skip {p : Ppl} {k : Nat} (h : lab p k ≠ k) : atK p (k + 1) = atK p k := by
  funext x
  cases x with
  | string s =>
    simp only [atK]
    by_cases h1 : ixP p.ps s < k ∧ lab p (ixP p.ps s) = ixP p.ps s
    · rw [if_pos h1, if_pos ⟨by omega, h1.2⟩]
    · rw [if_neg h1, if_neg]
      rintro ⟨h2, h3⟩
      by_cases e : ixP p.ps s = k
      · rw [e] at h3; exact h h3
      · exact h1 ⟨by omega, h3⟩
  | _ => rfl
/-- rows of the call's own, in a row of the call's own -/
structure GI (T S : TypeId) (w : World) (B : Nat) (ov : Value) (R : List (Value × List ByteArray)) : Prop where
  o : w.ownsRow B T 1 ov R.length (R.map Prod.fst)
  r : ∀ i (h : i < R.length), w.ownsRow B S 1 R[i].1 R[i].2.length (sb R[i].2)
  d : ∀ i (h : i < R.length), ∀ b, R[i].1.ownBlock = some b → ov.ownBlock ≠ some b
  p : ∀ i j (hi : i < R.length) (hj : j < R.length), i ≠ j → ∀ b, R[i].1.ownBlock = some b → R[j].1.ownBlock ≠ some b
section
variable {T S : TypeId} {w w' : World} {B : Nat} {ov : Value} {R : List (Value × List ByteArray)}
theorem GI.nil (T S : TypeId) (w : World) (B : Nat) : GI T S w B (.slice none 0 0) [] :=
  ⟨World.ownsRow_nil _ _ _ _, fun i h => by simp at h, fun i h => by simp at h, fun i j h => by simp at h⟩
theorem GI.below (h : GI T S w B ov R) (hb : Below w.heap.size w w') : GI T S w' B ov R :=
  ⟨own_belowL h.o hb, fun i hi => own_belowL (h.r i hi) hb, h.d, h.p⟩
theorem own_keep {base e size n : Nat} {v : Value} {xs : List Value} {row : Option Nat} (h : w.ownsRow base e size v n xs) (hg : w.grownBy w' row) (hne : ∀ b, v.ownBlock = some b → row ≠ some b) : w'.ownsRow base e size v n xs :=
  h.kept hg (by
    cases hv : v.ownBlock with
    | none => exact .inl rfl
    | some b => exact .inr (fun e => hne b hv e.symm))
theorem GI.snoc (h : GI T S w B ov R) {g cap n : Nat} (hn : n = R.length + 1) (ho : w'.ownsRow B T 1 (.slice (some ⟨g, 0, none⟩) n cap) n (R.map Prod.fst ++ [.slice none 0 0])) (hg : w.grownBy w' ov.ownBlock) (hat : ov.ownBlock = some g ∨ g = w.heap.size) :
    GI T S w' B (.slice (some ⟨g, 0, none⟩) n cap) (R ++ [(.slice none 0 0, [])]) := by
  subst hn
  have hlast : ∀ i (hi : i < (R ++ [((Value.slice none 0 0 : Value), ([] : List ByteArray))]).length), i < R.length ∨ (R ++ [((Value.slice none 0 0 : Value), ([] : List ByteArray))])[i] = (.slice none 0 0, []) := fun i hi => by
    by_cases h1 : i < R.length
    · exact .inl h1
    · right
      rw [List.getElem_append_right (by omega)]
      simp
  have hget : ∀ i (hi : i < R.length), (R ++ [((Value.slice none 0 0 : Value), ([] : List ByteArray))])[i]'(by simp; omega) = R[i] := fun i hi => List.getElem_append_left hi
  have hnone : ∀ b, (Value.slice none 0 0).ownBlock ≠ some b := fun b e => by cases e
  refine ⟨?_, fun i hi => ?_, fun i hi b hb => ?_, fun i j hi hj hij b hb => ?_⟩
  · rw [List.length_append, List.map_append]; exact ho
  · rcases hlast i hi with h1 | h1
    · rw [hget i h1]
      exact own_keep (h.r i h1) hg (fun b hb => h.d i h1 b hb)
    · rw [h1]; exact World.ownsRow_nil _ _ _ _
  · rcases hlast i hi with h1 | h1
    · rw [hget i h1] at hb
      show some g ≠ some b
      intro e
      injection e with e
      subst e
      rcases hat with h2 | h2
      · exact h.d i h1 _ hb h2
      · have := ((h.r i h1).lt _ hb).2; omega
    · rw [h1] at hb; exact absurd hb (hnone b)
  · rcases hlast i hi with h1 | h1
    · rw [hget i h1] at hb
      rcases hlast j hj with h2 | h2
      · rw [hget j h2]; exact h.p i j h1 h2 hij b hb
      · rw [h2]; exact hnone b
    · rw [h1] at hb; exact absurd hb (hnone b)
/-- a string put behind row i, and the row's value back -/
theorem GI.push {w1 : World} {g n cap : Nat} (h : GI T S w B (.slice (some ⟨g, 0, none⟩) n cap) R) {i : Nat} (hi : i < R.length) {g' m cap' : Nat} {x : ByteArray} (hm : m = R[i].2.length + 1)
    (ho : w1.ownsRow B S 1 (.slice (some ⟨g', 0, none⟩) m cap') m (sb (R[i].2 ++ [x]))) (hg : w.grownBy w1 R[i].1.ownBlock) (hat : R[i].1.ownBlock = some g' ∨ g' = w.heap.size) (_ : True) :
    GI T S (w1.setCell ⟨g, i, none⟩ (.slice (some ⟨g', 0, none⟩) m cap')) B (.slice (some ⟨g, 0, none⟩) n cap) (R.set i (.slice (some ⟨g', 0, none⟩) m cap', R[i].2 ++ [x])) := by
  subst hm
  have hov : (Value.slice (some ⟨g, 0, none⟩) n cap).ownBlock = some g := rfl
  have hgne : g ≠ g' := fun e => by
    rcases hat with h1 | h1
    · exact h.d i hi g' h1 (by rw [hov, e])
    · have := (h.o.lt g hov).2; omega
  have ho1 : w1.ownsRow B T 1 (.slice (some ⟨g, 0, none⟩) n cap) R.length (R.map Prod.fst) := own_keep h.o hg (fun b hb e => h.d i hi b e (by rw [hov] at hb ⊢; exact hb))
  have hlen : n = R.length := by
    rcases h.o.2 with ⟨e, _⟩ | ⟨g2, c2, cur, e, _⟩
    · injection e with e _ _; cases e
    · injection e with _ e _
  subst hlen
  have hset := ho1.stored i (.slice (some ⟨g', 0, none⟩) (R[i].2.length + 1) cap')
  have hfar : ∀ {e size k : Nat} {v : Value} {xs : List Value}, w1.ownsRow B e size v k xs → v.ownBlock ≠ some g → (w1.setCell ⟨g, i, none⟩ (.slice (some ⟨g', 0, none⟩) (R[i].2.length + 1) cap')).ownsRow B e size v k xs := fun h1 h2 =>
    own_keep h1 hset.2 (fun b hb e => by injection e with e; subst e; exact h2 hb)
  have hgi : ∀ j (hj : j < (R.set i (Value.slice (some ⟨g', 0, none⟩) (R[i].2.length + 1) cap', R[i].2 ++ [x])).length), (j = i ∧ (R.set i (Value.slice (some ⟨g', 0, none⟩) (R[i].2.length + 1) cap', R[i].2 ++ [x]))[j] = (Value.slice (some ⟨g', 0, none⟩) (R[i].2.length + 1) cap', R[i].2 ++ [x])) ∨ (j ≠ i ∧ ∃ hj' : j < R.length, (R.set i (Value.slice (some ⟨g', 0, none⟩) (R[i].2.length + 1) cap', R[i].2 ++ [x]))[j] = R[j]) := fun j hj => by
    have hj' : j < R.length := by simpa using hj
    by_cases e : j = i
    · left; subst e; exact ⟨rfl, by rw [List.getElem_set_self]⟩
    · right; exact ⟨e, hj', by rw [List.getElem_set_ne (fun h => e h.symm)]⟩
  refine ⟨?_, fun j hj => ?_, fun j hj b hb => ?_, fun j k hj hk hjk b hb => ?_⟩
  · rw [List.length_set, List.map_set]; exact hset.1
  · rcases hgi j hj with ⟨_, e⟩ | ⟨hne, hj', e⟩
    · rw [e]
      simp only [List.length_append, List.length_cons, List.length_nil]
      exact hfar ho (fun e2 => by injection e2 with e2; exact hgne e2.symm)
    · rw [e]
      refine hfar (own_keep (h.r j hj') hg (fun b hb e2 => h.p i j hi hj' (fun e3 => hne e3.symm) b e2 hb)) (fun e2 => h.d j hj' g e2 hov)
  · rcases hgi j hj with ⟨_, e⟩ | ⟨hne, hj', e⟩
    · rw [e] at hb
      injection hb with hb
      subst hb
      rw [hov]; intro e2; injection e2 with e2; exact hgne e2
    · rw [e] at hb; exact h.d j hj' b hb
  · rcases hgi j hj with ⟨e1, e⟩ | ⟨hne, hj', e⟩
    · rw [e] at hb
      injection hb with hb
      subst hb
      rcases hgi k hk with ⟨e3, _⟩ | ⟨hne2, hk', e2⟩
      · omega
      · rw [e2]
        intro h3
        rcases hat with h1 | h1
        · exact h.p i k hi hk' (fun e4 => hne2 e4.symm) _ h1 h3
        · exact absurd h1 (Nat.ne_of_lt ((h.r k hk').lt _ h3).2)
    · rw [e] at hb
      rcases hgi k hk with ⟨e3, e2⟩ | ⟨hne2, hk', e2⟩
      · rw [e2]
        intro h3
        injection h3 with h3
        subst h3
        rcases hat with h1 | h1
        · exact h.p j i hj' hi hne _ hb h1
        · exact absurd h1 (Nat.ne_of_lt ((h.r j hj').lt _ hb).2)
      · rw [e2]; exact h.p j k hj' hk' hjk b hb
end
end Go.Proofs.YtnlnaglaipjlfaaGreatDoor
