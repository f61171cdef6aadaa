/- Plain: insertion behind all that keep ahead; lists that are strictly in order. -/
import Derived.Test.YtgjmjdpddionmaaDoorBase
namespace Go.Dw
section
variable {α : Type}
/-- x is put behind the first ones that keep ahead of it -/
def insB (ge : α → α → Bool) (x : α) (l : List α) : List α := l.takeWhile (fun y => ge y x) ++ x :: l.dropWhile (fun y => ge y x)
theorem mem_insB {ge : α → α → Bool} {x y : α} {l : List α} : y ∈ insB ge x l ↔ y = x ∨ y ∈ l := by
  unfold insB
  rw [List.mem_append, List.mem_cons]
  have h : y ∈ l ↔ y ∈ l.takeWhile (fun y => ge y x) ∨ y ∈ l.dropWhile (fun y => ge y x) := by
    rw [← List.mem_append, List.takeWhile_append_dropWhile]
  rw [h]
  constructor
  · rintro (h | h | h)
    · exact .inr (.inl h)
    · exact .inl h
    · exact .inr (.inr h)
  · rintro (h | h | h)
    · exact .inr (.inl h)
    · exact .inl h
    · exact .inr (.inr h)
theorem insB_length (ge : α → α → Bool) (x : α) (l : List α) : (insB ge x l).length = l.length + 1 := by
  have h := congrArg List.length (List.takeWhile_append_dropWhile (p := fun y => ge y x) (l := l))
  rw [List.length_append] at h
  unfold insB
  rw [List.length_append, List.length_cons]; omega
theorem insB_pw {lt : α → α → Prop} {ge : α → α → Bool} {x : α} (ht : ∀ x y z, lt x y → lt y z → lt x z) : ∀ {l : List α}, l.Pairwise lt → (∀ y ∈ l, ge y x = true → lt y x) → (∀ y ∈ l, ge y x = false → lt x y) → (insB ge x l).Pairwise lt
  | [], _, _, _ => by simp [insB]
  | y :: l, hp, h1, h2 => by
    rw [List.pairwise_cons] at hp
    by_cases hg : ge y x = true
    · have e : insB ge x (y :: l) = y :: insB ge x l := by simp [insB, hg]
      rw [e, List.pairwise_cons]
      refine ⟨fun z hz => ?_, insB_pw ht hp.2 (fun z hz => h1 z (by simp [hz])) (fun z hz => h2 z (by simp [hz]))⟩
      rcases mem_insB.1 hz with rfl | hz
      · exact h1 y (by simp) hg
      · exact hp.1 z hz
    · have hg' : ge y x = false := by simpa using hg
      have e : insB ge x (y :: l) = x :: y :: l := by simp [insB, hg']
      have hxy := h2 y (by simp) hg'
      rw [e, List.pairwise_cons]
      refine ⟨fun z hz => ?_, List.pairwise_cons.2 hp⟩
      rcases List.mem_cons.1 hz with rfl | hz
      · exact hxy
      · exact ht _ _ _ hxy (hp.1 z hz)
/-- all of a list, one after the other -/
def insAll (ge : α → α → Bool) : List α → List α → List α
  | acc, [] => acc
  | acc, x :: l => insAll ge (insB ge x acc) l
theorem insAll_snoc (ge : α → α → Bool) (x : α) : ∀ (acc l : List α), insAll ge acc (l ++ [x]) = insB ge x (insAll ge acc l)
  | acc, [] => rfl
  | acc, y :: l => by rw [List.cons_append, insAll, insAll, insAll_snoc ge x _ l]
theorem mem_insAll {ge : α → α → Bool} {y : α} : ∀ {l acc : List α}, y ∈ insAll ge acc l ↔ y ∈ acc ∨ y ∈ l
  | [], acc => by simp [insAll]
  | x :: l, acc => by
    rw [insAll, mem_insAll, mem_insB, List.mem_cons]
    constructor
    · rintro ((h | h) | h)
      · exact .inr (.inl h)
      · exact .inl h
      · exact .inr (.inr h)
    · rintro (h | h | h)
      · exact .inl (.inr h)
      · exact .inl (.inl h)
      · exact .inr h
theorem insAll_length (ge : α → α → Bool) : ∀ (l acc : List α), (insAll ge acc l).length = acc.length + l.length
  | [], acc => by simp [insAll]
  | x :: l, acc => by rw [insAll, insAll_length ge l, insB_length, List.length_cons]; omega
/-- items that come in the order 'key', put by 'ge' -/
theorem insAll_pw {lt key : α → α → Prop} {ge : α → α → Bool} (ht : ∀ x y z, lt x y → lt y z → lt x z) (h1 : ∀ y x, key y x → ge y x = true → lt y x) (h2 : ∀ y x, key y x → ge y x = false → lt x y) :
    ∀ {l acc : List α}, acc.Pairwise lt → l.Pairwise key → (∀ y ∈ acc, ∀ x ∈ l, key y x) → (insAll ge acc l).Pairwise lt
  | [], acc, ha, _, _ => ha
  | x :: l, acc, ha, hl, hk => by
    rw [List.pairwise_cons] at hl
    rw [insAll]
    refine insAll_pw (acc := insB ge x acc) ht h1 h2 (insB_pw ht ha (fun y hy => h1 y x (hk y hy x (by simp))) (fun y hy => h2 y x (hk y hy x (by simp)))) hl.2 ?_
    intro y hy z hz
    rcases mem_insB.1 hy with rfl | hy
    · exact hl.1 z hz
    · exact hk y hy z (by simp [hz])
/-- strictly in order, with the same members: the same -/
theorem pw_ext {lt : α → α → Prop} (hi : ∀ x, ¬ lt x x) (ht : ∀ x y z, lt x y → lt y z → lt x z) : ∀ {l1 l2 : List α}, l1.Pairwise lt → l2.Pairwise lt → (∀ x, x ∈ l1 ↔ x ∈ l2) → l1 = l2
  | [], [], _, _, _ => rfl
  | [], y :: l2, _, _, h => by have := (h y).2 (by simp); simp at this
  | x :: l1, [], _, _, h => by have := (h x).1 (by simp); simp at this
  | x :: l1, y :: l2, h1, h2, h => by
    rw [List.pairwise_cons] at h1 h2
    have e : x = y := by
      rcases List.mem_cons.1 ((h x).1 (by simp)) with e | hx
      · exact e
      · rcases List.mem_cons.1 ((h y).2 (by simp)) with e | hy
        · exact e.symm
        · exact absurd (ht _ _ _ (h1.1 y hy) (h2.1 x hx)) (hi x)
    subst e
    congr 1
    refine pw_ext hi ht h1.2 h2.2 fun z => ?_
    constructor
    · intro hz
      rcases List.mem_cons.1 ((h z).1 (by simp [hz])) with e | hz2
      · subst e; exact absurd (h1.1 z hz) (hi z)
      · exact hz2
    · intro hz
      rcases List.mem_cons.1 ((h z).2 (by simp [hz])) with e | hz2
      · subst e; exact absurd (h2.1 z hz) (hi z)
      · exact hz2
end
end Go.Dw
