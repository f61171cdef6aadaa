/- Plain: what a sweep over the edges of two lists of spans chooses; at pieces it is what lies between. -/
import Derived.Test.YtlmgdofhmgpljaaSndP
import Derived.Test.YtlmgdofhmgpljaaInsP
import Derived.Lib.SlicesCompact
namespace Go.Dw

theorem cmp_mem {zs : List Int} {x : Int} : x ∈ Lib.compact zs ↔ x ∈ zs := by
  unfold Lib.compact Lib.compactUpTo
  simp only [List.mem_map, List.mem_filter, List.mem_range]
  constructor
  · rintro ⟨j, ⟨h1, _⟩, rfl⟩
    rw [getElem!_pos zs.toArray j (by simpa using h1)]
    simp
  · intro hx
    have : ∀ n, ∀ j, j < zs.length → j ≤ n → zs.toArray[j]! = x → ∃ a, (a < zs.length ∧ Lib.keeps zs.toArray a = true) ∧ zs.toArray[a]! = x := by
      intro n
      induction n with
      | zero => intro j h1 h2 h3; exact ⟨j, ⟨h1, by unfold Lib.keeps; simp; left; omega⟩, h3⟩
      | succ n ih =>
        intro j h1 h2 h3
        by_cases hk : Lib.keeps zs.toArray j = true
        · exact ⟨j, ⟨h1, hk⟩, h3⟩
        · unfold Lib.keeps at hk
          have hk2 : ¬ (j = 0 ∨ zs.toArray[j]! ≠ zs.toArray[j - 1]!) := by simpa only [decide_eq_true_eq] using hk
          have h4 : j ≠ 0 := fun h => hk2 (.inl h)
          have h5 : zs.toArray[j]! = zs.toArray[j - 1]! := Decidable.not_not.1 (fun h => hk2 (.inr h))
          exact ih (j - 1) (by omega) (by omega) (by rw [← h5]; exact h3)
    obtain ⟨j, hj, he⟩ := List.getElem_of_mem hx
    exact this j j hj (Nat.le_refl _) (by rw [getElem!_pos zs.toArray j (by simpa using hj)]; simpa using he)
theorem cmp_pw {zs : List Int} (h : zs.Pairwise (· ≤ ·)) : (Lib.compact zs).Pairwise (· < ·) := by
  unfold Lib.compact Lib.compactUpTo
  rw [List.pairwise_map]
  have h1 : ((List.range zs.length).filter (Lib.keeps zs.toArray)).Pairwise (fun a b => a < b) := List.Pairwise.filter _ List.pairwise_lt_range
  have h2 : ∀ a ∈ (List.range zs.length).filter (Lib.keeps zs.toArray), a < zs.length ∧ Lib.keeps zs.toArray a = true := fun a ha => by
    rw [List.mem_filter, List.mem_range] at ha; exact ha
  refine (List.Pairwise.and_mem.1 h1).imp ?_
  rintro a b ⟨ha, hb, hab⟩
  obtain ⟨hb1, hb2⟩ := h2 b hb
  have hle : ∀ i j (hi : i ≤ j) (hj : j < zs.length), zs.toArray[i]! ≤ zs.toArray[j]! := fun i j hi hj => by
    rw [getElem!_pos zs.toArray i (by simp; omega), getElem!_pos zs.toArray j (by simpa using hj)]
    by_cases he : i = j
    · subst he; exact Int.le_refl _
    · simpa using (List.pairwise_iff_getElem.1 h) i j (by omega) hj (by omega)
  unfold Lib.keeps at hb2
  have hb3 : b = 0 ∨ zs.toArray[b]! ≠ zs.toArray[b - 1]! := by simpa only [decide_eq_true_eq] using hb2
  rcases hb3 with hb3 | hb3
  · omega
  · have k1 := hle a (b - 1) (by omega) (by omega)
    have k2 := hle (b - 1) b (by omega) hb1
    omega
abbrev Sp := Int × Int
/-- the ends of spans -/
def ends (l : List Sp) : List Int := l.flatMap fun s => [s.1, s.2]
theorem ends_mem {l : List Sp} {x : Int} : x ∈ ends l ↔ ∃ s ∈ l, x = s.1 ∨ x = s.2 := by simp [ends]
theorem ends_length (l : List Sp) : (ends l).length = 2 * l.length := by
  induction l with
  | nil => rfl
  | cons s t ih =>
    have : ends (s :: t) = s.1 :: s.2 :: ends t := rfl
    rw [this]; simp only [List.length_cons, ih]; omega
def edgesOf (a b : List Sp) : List Int := Lib.compact ((ends a ++ ends b).mergeSort fun x y => decide (x ≤ y))
theorem edges_mem (a b : List Sp) (x : Int) : x ∈ edgesOf a b ↔ x ∈ ends a ∨ x ∈ ends b := by
  unfold edgesOf
  rw [cmp_mem, (List.mergeSort_perm _ _).mem_iff, List.mem_append]
theorem edges_pw (a b : List Sp) : (edgesOf a b).Pairwise (· < ·) := by
  refine cmp_pw ?_
  have := List.pairwise_mergeSort (le := fun x y : Int => decide (x ≤ y)) (by intro a b c h1 h2; simp at *; omega) (by intro a b; simp; omega) (ends a ++ ends b)
  exact this.imp (by intro x y h; simpa using h)
def adv (e : Int) (l : List Sp) : List Sp := l.dropWhile fun s => decide (s.2 ≤ e)
def inn (e : Int) : List Sp → Bool
  | [] => false
  | s :: _ => decide (s.1 ≤ e)
/-- add a span that does not begin before the last one -/
def appS (l : List Sp) (s : Sp) : List Sp :=
  match l.getLast? with
  | some t => if s.1 ≤ t.2 then l.dropLast ++ [(t.1, max t.2 s.2)] else l ++ [s]
  | none => l ++ [s]
theorem appS_new {l : List Sp} {s : Sp} (h : ∀ x ∈ l, x.2 < s.1) : appS l s = l ++ [s] := by
  unfold appS
  cases hl : l.getLast? with
  | none => rfl
  | some t =>
    have := h t (List.mem_of_getLast? hl)
    simp only
    rw [if_neg (by omega)]
theorem appS_length (l : List Sp) (s : Sp) : (appS l s).length ≤ l.length + 1 := by
  unfold appS
  cases hl : l.getLast? with
  | none => simp
  | some t =>
    simp only
    split
    · rw [List.length_append, List.length_dropLast, List.length_singleton]; omega
    · simp
def sweepL (keep : Bool → Bool → Bool) : List Int → List Sp → List Sp → List Sp → List Sp
  | e1 :: e2 :: es, la, lb, out => sweepL keep (e2 :: es) (adv e1 la) (adv e1 lb) (if keep (inn e1 (adv e1 la)) (inn e1 (adv e1 lb)) then appS out (e1, e2) else out)
  | [_], _, _, out => out
  | [], _, _, out => out
theorem sweepL_step {keep : Bool → Bool → Bool} {E : List Int} {k : Nat} (h : k + 1 < E.length) (la lb out : List Sp) :
    sweepL keep (E.drop k) la lb out = sweepL keep (E.drop (k + 1)) (adv E[k] la) (adv E[k] lb) (if keep (inn E[k] (adv E[k] la)) (inn E[k] (adv E[k] lb)) then appS out (E[k], E[k + 1]) else out) := by
  rw [List.drop_eq_getElem_cons (show k < E.length by omega), List.drop_eq_getElem_cons h, sweepL]
theorem sweepL_end {keep : Bool → Bool → Bool} {E : List Int} {k : Nat} (h : ¬ k + 1 < E.length) (la lb out : List Sp) : sweepL keep (E.drop k) la lb out = out := by
  cases hd : E.drop k with
  | nil => rw [sweepL]
  | cons x r =>
    cases r with
    | nil => rw [sweepL]
    | cons y r =>
      have := congrArg List.length hd
      simp at this
      omega
def sweepF (keep : Bool → Bool → Bool) (a b : List Sp) : List Sp := sweepL keep (edgesOf a b) a b []

/-- at pieces -/
def keepP (a b : Bool) : Bool := a && !b
def edF (n : Int) : Int → List Sp → List Int
  | at_, [] => at_ :: if at_ < n then [n] else []
  | at_, (a, b) :: r => at_ :: ((if at_ < a then [a] else []) ++ edF n b r)
/-- spans from at on, up to n -/
def Fit_ (n : Int) : Int → List Sp → Prop
  | at_, [] => at_ ≤ n
  | at_, (a, b) :: r => at_ ≤ a ∧ a < b ∧ Fit_ n b r ∧ (∀ s ∈ r, b < s.1)
theorem fit_of {n : Int} : ∀ {l : List Sp} {at_ : Int}, Gaps l → (∀ x ∈ l, at_ ≤ x.1 ∧ x.2 ≤ n) → at_ ≤ n → Fit_ n at_ l
  | [], _, _, _, h => h
  | [(a, b)], at_, hg, h, _ => by
    have hg : a < b := hg
    have := h (a, b) (by simp)
    simp only at this
    exact ⟨this.1, hg, this.2, by simp⟩
  | (a, b) :: (c, d) :: r, at_, hg, h, _ => by
    obtain ⟨h1, h2, h3⟩ := hg
    simp only at h1 h2
    have h4 := h (a, b) (by simp)
    simp only at h4
    have key : ∀ (l : List Sp) (c : Int), Gaps l → (∀ s, l.head? = some s → c < s.1) → ∀ s ∈ l, c < s.1 := by
      intro l
      induction l with
      | nil => intro c _ _ s hs; simp at hs
      | cons x t ih =>
        intro c hg hh s hs
        have hx := hh x rfl
        rcases List.mem_cons.1 hs with rfl | hs
        · exact hx
        · cases t with
          | nil => simp at hs
          | cons y t =>
            obtain ⟨g1, g2, g3⟩ := hg
            exact ih c g3 (fun s hs2 => by simp at hs2; subst hs2; omega) s hs
    have h5 := key ((c, d) :: r) b h3 (fun s hs => by simp at hs; subst hs; exact h2)
    refine ⟨h4.1, h1, fit_of h3 (fun x hx => ⟨Int.le_of_lt (h5 x hx), (h x (List.mem_cons_of_mem _ hx)).2⟩) h4.2, h5⟩
theorem edF_mem {n : Int} (x : Int) : ∀ {l : List Sp} {at_ : Int}, Fit_ n at_ l → (x ∈ edF n at_ l ↔ x = at_ ∨ x = n ∨ x ∈ ends l)
  | [], at_, h => by
    have h : at_ ≤ n := h
    rw [edF]
    by_cases hn : at_ < n
    · simp [hn, ends]
    · have : at_ = n := by omega
      subst this
      simp [ends]
  | (a, b) :: r, at_, h => by
    obtain ⟨h1, h2, h3, h4⟩ := h
    have he : ends ((a, b) :: r) = a :: b :: ends r := rfl
    rw [edF, he]
    simp only [List.mem_cons, List.mem_append, edF_mem x h3]
    by_cases ha : at_ < a
    · simp only [if_pos ha, List.mem_cons, List.not_mem_nil, or_false]
      constructor
      · rintro (h | h | h | h | h) <;> simp [h]
      · rintro (h | h | h | h | h) <;> simp [h]
    · have : at_ = a := by omega
      subst this
      simp only [if_neg ha, List.not_mem_nil, false_or]
      constructor
      · rintro (h | h | h | h) <;> simp [h]
      · rintro (h | h | h | h | h) <;> simp [h]
theorem edF_ge {n : Int} : ∀ {l : List Sp} {at_ : Int}, Fit_ n at_ l → (∀ x ∈ edF n at_ l, at_ ≤ x) ∧ (edF n at_ l).Pairwise (· < ·)
  | [], at_, h => by
    have h : at_ ≤ n := h
    rw [edF]
    by_cases hn : at_ < n
    · simp [hn, h]
    · simp [hn]
  | (a, b) :: r, at_, h => by
    obtain ⟨h1, h2, h3, h4⟩ := h
    obtain ⟨k1, k2⟩ := edF_ge h3
    rw [edF]
    by_cases ha : at_ < a
    · simp only [if_pos ha]
      refine ⟨fun x hx => ?_, ?_⟩
      · rcases List.mem_cons.1 hx with rfl | hx
        · exact Int.le_refl _
        · rcases List.mem_append.1 hx with hx | hx
          · simp at hx; omega
          · have := k1 x hx; omega
      · rw [List.pairwise_cons]
        refine ⟨fun x hx => ?_, ?_⟩
        · rcases List.mem_append.1 hx with hx | hx
          · simp at hx; omega
          · have := k1 x hx; omega
        · rw [List.pairwise_append]
          exact ⟨by simp, k2, fun x hx y hy => by simp at hx; have := k1 y hy; omega⟩
    · simp only [if_neg ha, List.nil_append]
      refine ⟨fun x hx => ?_, ?_⟩
      · rcases List.mem_cons.1 hx with rfl | hx
        · exact Int.le_refl _
        · have := k1 x hx; omega
      · rw [List.pairwise_cons]
        exact ⟨fun x hx => by have := k1 x hx; omega, k2⟩
theorem edges_pieces {n : Int} {l : List Sp} (h : Fit_ n 0 l) : edgesOf [(0, n)] l = edF n 0 l := by
  refine pw_ext (lt := fun x y : Int => x < y) (fun x => Int.lt_irrefl x) (fun x y z => Int.lt_trans) (edges_pw _ _) (edF_ge h).2 fun x => ?_
  rw [edges_mem, edF_mem x h]
  have : ends [(0, n)] = [0, n] := rfl
  rw [this]
  simp only [List.mem_cons, List.not_mem_nil, or_false]
  constructor
  · rintro ((h | h) | h) <;> simp [h]
  · rintro (h | h | h) <;> simp [h]
theorem fit_le {n : Int} : ∀ {l : List Sp} {at_ : Int}, Fit_ n at_ l → at_ ≤ n
  | [], _, h => h
  | (_, _) :: _, _, h => by
    have := fit_le h.2.2.1
    have h1 := h.1
    have h2 := h.2.1
    omega
theorem adv_all {n at_ : Int} (h : at_ < n) : adv at_ [(0, n)] = [(0, n)] := by unfold adv; simp [h]
theorem edF_head (n at_ : Int) (l : List Sp) : ∃ r, edF n at_ l = at_ :: r := by
  cases l with
  | nil => exact ⟨_, rfl⟩
  | cons s t => obtain ⟨a, b⟩ := s; exact ⟨_, rfl⟩
theorem sweep_pieces {n : Int} : ∀ {l : List Sp} {at_ : Int} {lb out : List Sp}, Fit_ n at_ l → 0 ≤ at_ → (∀ e, at_ ≤ e → adv e lb = adv e l) → (∀ x ∈ out, x.2 < at_) →
    sweepL keepP (edF n at_ l) [(0, n)] lb out = out ++ pieR n at_ l
  | [], at_, lb, out, h, h0, hl, ho => by
    have h : at_ ≤ n := h
    rw [edF, pieR]
    by_cases hn : at_ < n
    · rw [if_pos hn, if_pos hn, sweepL, adv_all hn, hl at_ (Int.le_refl _), sweepL]
      have e1 : adv at_ ([] : List Sp) = [] := rfl
      rw [e1, if_pos (by unfold keepP inn; simp [h0]), appS_new ho]
    · rw [if_neg hn, if_neg hn, sweepL, List.append_nil]
  | (a, b) :: r, at_, lb, out, h, h0, hl, ho => by
    obtain ⟨h1, h2, h3, h4⟩ := h
    have hbn := fit_le h3
    have hadv : ∀ e, e < b → adv e ((a, b) :: r) = (a, b) :: r := fun e he => by unfold adv; rw [List.dropWhile_cons, if_neg (by simp; omega)]
    have hadv2 : ∀ e, b ≤ e → adv e ((a, b) :: r) = adv e r := fun e he => by unfold adv; rw [List.dropWhile_cons, if_pos (by simp; omega)]
    obtain ⟨es, hes⟩ := edF_head n b r
    have second : ∀ (lb out : List Sp), (∀ e, a ≤ e → adv e lb = adv e ((a, b) :: r)) → (∀ x ∈ out, x.2 < b) → sweepL keepP (a :: edF n b r) [(0, n)] lb out = out ++ pieR n b r := by
      intro lb out hlb hob
      rw [hes, sweepL, ← hes, adv_all (by omega), hlb a (Int.le_refl _), hadv a h2, if_neg (by unfold keepP inn; simp)]
      exact sweep_pieces h3 (by omega) (fun e he => hadv2 e he) hob
    rw [edF, pieR]
    by_cases ha : at_ < a
    · rw [if_pos ha, if_pos ha, List.singleton_append, sweepL, adv_all (by omega), hl at_ (Int.le_refl _), hadv at_ (by omega)]
      rw [if_pos (by unfold keepP inn; simp [h0]; omega), appS_new ho]
      rw [second _ _ (fun e he => by rfl) (fun x hx => by
        rcases List.mem_append.1 hx with hx | hx
        · have := ho x hx; omega
        · simp at hx; subst hx; simp only; omega), List.append_assoc]
    · have hae : at_ = a := by omega
      subst hae
      rw [if_neg ha, if_neg ha, List.nil_append, List.nil_append]
      exact second lb out hl (fun x hx => by have := ho x hx; omega)
/-- the pieces of a sound of n positions -/
theorem sweep_is {n : Nat} {l : List Sp} (hg : Gaps l) (hb : ∀ x ∈ l, 0 ≤ x.1 ∧ x.2 ≤ (n : Int)) : sweepF keepP (if 0 < n then [(0, (n : Int))] else []) l = pieR n 0 l := by
  have hf := fit_of hg hb (by omega)
  by_cases hn : 0 < n
  · rw [if_pos hn, sweepF, edges_pieces hf, sweep_pieces hf (Int.le_refl _) (fun _ _ => rfl) (by simp), List.nil_append]
  · have hn0 : n = 0 := by omega
    subst hn0
    have hl : l = [] := by
      cases l with
      | nil => rfl
      | cons s t =>
        have h1 := hb s (by simp)
        have h2 := hf
        obtain ⟨a, b⟩ := s
        have h3 := h2.2.1
        simp only at h1
        omega
    subst hl
    simp [sweepF, edgesOf, ends, pieR, Lib.compact, Lib.compactUpTo, sweepL]
theorem pieR_length {n : Int} : ∀ {l : List Sp} {at_ : Int}, (pieR n at_ l).length ≤ l.length + 1
  | [], at_ => by rw [pieR]; split <;> simp
  | (a, b) :: r, at_ => by
    have := pieR_length (n := n) (l := r) (at_ := b)
    rw [pieR, List.length_append, List.length_cons]
    split <;> simp <;> omega
end Go.Dw
