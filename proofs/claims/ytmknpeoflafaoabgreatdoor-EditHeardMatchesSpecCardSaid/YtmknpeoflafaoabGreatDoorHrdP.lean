/- Plain: what is heard on a track at a position: the sums of the factors by samples, in order. -/
import Derived.Test.YtmknpeoflafaoabGreatDoorPlnA
namespace Go.Dw
open Go.RowKit

/-- a sample of a channel of a medium -/
structure Gk where
  m : ByteArray
  ch : Int
  s : Int
theorem Gk.ext' {a b : Gk} (h1 : a.m = b.m) (h2 : a.ch = b.ch) (h3 : a.s = b.s) : a = b := by
  obtain ⟨a1, a2, a3⟩ := a
  obtain ⟨b1, b2, b3⟩ := b
  simp only at h1 h2 h3
  subst h1 h2 h3; rfl
instance : DecidableEq Gk := fun a b => if h : a.m = b.m ∧ a.ch = b.ch ∧ a.s = b.s then .isTrue (Gk.ext' h.1 h.2.1 h.2.2) else .isFalse (fun e => h (by subst e; exact ⟨rfl, rfl, rfl⟩))
def gLt (a b : Gk) : Prop := sLt a.m b.m ∨ (a.m = b.m ∧ (a.ch < b.ch ∨ (a.ch = b.ch ∧ a.s < b.s)))
instance (a b : Gk) : Decidable (gLt a b) := by unfold gLt; infer_instance
theorem gLt_irr (a : Gk) : ¬ gLt a a := by
  rintro (h | ⟨_, h | ⟨_, h⟩⟩)
  · exact sLt_irr _ h
  · omega
  · omega
theorem gLt_trans {a b c : Gk} (h : gLt a b) (k : gLt b c) : gLt a c := by
  rcases h with h | ⟨h0, h⟩
  · rcases k with k | ⟨k0, _⟩
    · exact .inl (sLt_trans h k)
    · rw [k0] at h; exact .inl h
  · rcases k with k | ⟨k0, k⟩
    · rw [← h0] at k; exact .inl k
    · refine .inr ⟨h0.trans k0, ?_⟩
      rcases h with h | ⟨h1, h⟩
      · rcases k with k | ⟨k1, _⟩
        · exact .inl (by omega)
        · exact .inl (by omega)
      · rcases k with k | ⟨k1, k⟩
        · exact .inl (by omega)
        · exact .inr ⟨by omega, by omega⟩
theorem gLt_tri (a b : Gk) : gLt a b ∨ a = b ∨ gLt b a := by
  rcases sLt_tri a.m b.m with h | h | h
  · exact .inl (.inl h)
  · rcases Int.lt_trichotomy a.ch b.ch with g | g | g
    · exact .inl (.inr ⟨h, .inl g⟩)
    · rcases Int.lt_trichotomy a.s b.s with k | k | k
      · exact .inl (.inr ⟨h, .inr ⟨g, k⟩⟩)
      · exact .inr (.inl (Gk.ext' h g k))
      · exact .inr (.inr (.inr ⟨h.symm, .inr ⟨g.symm, k⟩⟩))
    · exact .inr (.inr (.inr ⟨h.symm, .inl g⟩))
  · exact .inr (.inr (.inl h))
theorem gLt_asymm {a b : Gk} (h : gLt a b) : ¬ gLt b a := fun k => gLt_irr a (gLt_trans h k)
/-- sums by samples -/
abbrev Gs := List (Gk × Rat)
def insG : Gs → Gk → Rat → Gs
  | [], g, q => [(g, q)]
  | (h, r) :: l, g, q => if gLt h g then (h, r) :: insG l g q else if gLt g h then (g, q) :: (h, r) :: l else (h, r + q) :: l
def lookG : Gs → Gk → Option Rat
  | [], _ => none
  | (h, r) :: l, g => if h = g then some r else lookG l g
def SrtG (l : Gs) : Prop := l.Pairwise fun x y => gLt x.1 y.1
theorem ins_mem {x : Gk × Rat} : ∀ {l : Gs} {g : Gk} {q : Rat}, x ∈ insG l g q → x.1 = g ∨ x ∈ l
  | [], g, q, h => by simp [insG] at h; exact .inl (by rw [h])
  | (k, r) :: l, g, q, h => by
    unfold insG at h
    split at h
    · rcases List.mem_cons.1 h with h | h
      · exact .inr (by rw [h]; simp)
      · rcases ins_mem h with h | h
        · exact .inl h
        · exact .inr (List.mem_cons_of_mem _ h)
    · rename_i h1
      split at h
      · rcases List.mem_cons.1 h with h | h
        · exact .inl (by rw [h])
        · exact .inr h
      · rename_i h2
        rcases List.mem_cons.1 h with h | h
        · refine .inl ?_
          rw [h]
          rcases gLt_tri k g with h3 | h3 | h3
          · exact absurd h3 h1
          · exact h3
          · exact absurd h3 h2
        · exact .inr (List.mem_cons_of_mem _ h)
theorem ins_srt : ∀ {l : Gs} {g : Gk} {q : Rat}, SrtG l → SrtG (insG l g q)
  | [], g, q, _ => by simp [insG, SrtG]
  | (k, r) :: l, g, q, h => by
    obtain ⟨h1, h2⟩ := List.pairwise_cons.1 h
    unfold insG
    split
    · rename_i hk
      refine List.pairwise_cons.2 ⟨fun x hx => ?_, ins_srt h2⟩
      rcases ins_mem hx with e | e
      · rw [e]; exact hk
      · exact h1 x e
    · split
      · rename_i hk
        refine List.pairwise_cons.2 ⟨fun x hx => ?_, h⟩
        rcases List.mem_cons.1 hx with e | e
        · rw [e]; exact hk
        · exact gLt_trans hk (h1 x e)
      · exact List.pairwise_cons.2 ⟨fun x hx => h1 x hx, h2⟩
theorem look_lt {l : Gs} {g : Gk} (h : ∀ x ∈ l, gLt g x.1) : lookG l g = none := by
  induction l with
  | nil => rfl
  | cons x l ih =>
    obtain ⟨k, r⟩ := x
    unfold lookG
    rw [if_neg (fun e => by have := h (k, r) (by simp); rw [e] at this; exact gLt_irr _ this)]
    exact ih (fun x hx => h x (List.mem_cons_of_mem _ hx))
theorem look_ins : ∀ {l : Gs} {g : Gk} {q : Rat}, SrtG l → ∀ g', lookG (insG l g q) g' = if g' = g then some ((lookG l g).getD 0 + q) else lookG l g'
  | [], g, q, _, g' => by
    unfold insG lookG lookG
    by_cases h : g' = g
    · subst h; rw [if_pos rfl, if_pos rfl]; simp [Rat.zero_add]
    · rw [if_neg (fun e => h e.symm), if_neg h]
  | (k, r) :: l, g, q, hs, g' => by
    obtain ⟨h1, h2⟩ := List.pairwise_cons.1 hs
    unfold insG
    split
    · rename_i hk
      have hkg : k ≠ g := fun e => by rw [e] at hk; exact gLt_irr _ hk
      rw [lookG, look_ins h2 g', lookG, if_neg hkg]
      by_cases e : k = g'
      · subst e; rw [if_pos rfl, if_neg hkg, lookG, if_pos rfl]
      · rw [if_neg e, lookG, if_neg e]
    · rename_i hk
      split
      · rename_i hg
        have hl : lookG ((k, r) :: l) g = none := look_lt (fun x hx => by
          rcases List.mem_cons.1 hx with e | e
          · rw [e]; exact hg
          · exact gLt_trans hg (h1 x e))
        rw [hl, lookG]
        by_cases e : g' = g
        · subst e; rw [if_pos rfl, if_pos rfl]; simp [Rat.zero_add]
        · rw [if_neg (fun h => e h.symm), if_neg e]
      · rename_i hg
        have hkg : k = g := by
          rcases gLt_tri k g with h3 | h3 | h3
          · exact absurd h3 hk
          · exact h3
          · exact absurd h3 hg
        subst hkg
        rw [lookG, lookG, if_pos rfl, lookG]
        by_cases e : g' = k
        · subst e; rw [if_pos rfl, if_pos rfl]; rfl
        · rw [if_neg (fun h => e h.symm), if_neg e, if_neg (fun h => e h.symm)]
theorem look_mem : ∀ {l : Gs} {g : Gk} {q : Rat}, SrtG l → (lookG l g = some q ↔ (g, q) ∈ l)
  | [], g, q, _ => by simp [lookG]
  | (k, r) :: l, g, q, hs => by
    obtain ⟨h1, h2⟩ := List.pairwise_cons.1 hs
    unfold lookG
    by_cases e : k = g
    · subst e
      rw [if_pos rfl]
      constructor
      · intro h; injection h with h; rw [h]; simp
      · intro h
        rcases List.mem_cons.1 h with h | h
        · injection h with _ h; rw [h]
        · exact absurd (h1 _ h) (gLt_irr _)
    · rw [if_neg e, look_mem h2]
      constructor
      · exact fun h => List.mem_cons_of_mem _ h
      · intro h
        rcases List.mem_cons.1 h with h | h
        · injection h with h _; exact absurd h.symm e
        · exact h
/-- as the reference puts a sum in: at place k -/
theorem insG_hit : ∀ {l : Gs} {g : Gk} {q : Rat} {k : Nat} (h : k < l.length), (∀ j (hj : j < k), gLt (l[j]'(by omega)).1 g) → ¬ gLt l[k].1 g → ¬ gLt g l[k].1 → insG l g q = l.set k (l[k].1, l[k].2 + q) ∧ l[k].1 = g
  | [], _, _, k, h, _, _, _ => by simp at h
  | (a, r) :: l, g, q, 0, h, _, h2, h3 => by
    simp only [List.getElem_cons_zero] at h2 h3 ⊢
    refine ⟨by unfold insG; rw [if_neg h2, if_neg h3]; rfl, ?_⟩
    rcases gLt_tri a g with e | e | e
    · exact absurd e h2
    · exact e
    · exact absurd e h3
  | (a, r) :: l, g, q, k + 1, h, h1, h2, h3 => by
    have h0 : gLt a g := h1 0 (by omega)
    simp only [List.getElem_cons_succ] at h2 h3 ⊢
    obtain ⟨e1, e2⟩ := insG_hit (l := l) (g := g) (q := q) (k := k) (by simpa using h) (fun j hj => by have := h1 (j + 1) (by omega); simpa using this) h2 h3
    refine ⟨?_, e2⟩
    unfold insG
    rw [if_pos h0, e1]; rfl
theorem insG_miss : ∀ {l : Gs} {g : Gk} {q : Rat} {k : Nat} (_ : k ≤ l.length), (∀ j (_ : j < k) (hl : j < l.length), gLt l[j].1 g) → (∀ h : k < l.length, gLt g l[k].1) → insG l g q = l.take k ++ (g, q) :: l.drop k
  | [], g, q, k, _, _, _ => by simp [insG]
  | (a, r) :: l, g, q, 0, _, _, h2 => by
    have h0 : gLt g a := h2 (by simp)
    unfold insG
    rw [if_neg (gLt_asymm h0), if_pos h0]; rfl
  | (a, r) :: l, g, q, k + 1, h, h1, h2 => by
    have h0 : gLt a g := h1 0 (by omega) (by simp)
    have e1 := insG_miss (l := l) (g := g) (q := q) (k := k) (by simpa using h) (fun j hj hl => by have := h1 (j + 1) (by omega) (by simpa using hl); simpa using this) (fun hk => by have := h2 (by simpa using hk); simpa using this)
    unfold insG
    rw [if_pos h0, e1]; rfl
/-- whether a clip is heard on a track at a position -/
def onC (tr at_ : Int) (c : Cli) : Bool := decide (c.tr = tr ∧ c.at_ ≤ at_ ∧ at_ < c.at_ + c.ln)
def keyC (at_ : Int) (c : Cli) : Gk := ⟨c.m, c.ch, at_ - c.at_ + c.fr⟩
def hrdS (tr at_ : Int) (l : Gs) (c : Cli) : Gs := if onC tr at_ c then insG l (keyC at_ c) (valQ c.e (at_ - c.at_)) else l
def hrdL (tr at_ : Int) (cs : List Cli) : Gs := cs.foldl (hrdS tr at_) []
theorem hrdL_snoc (tr at_ : Int) (cs : List Cli) (c : Cli) : hrdL tr at_ (cs ++ [c]) = hrdS tr at_ (hrdL tr at_ cs) c := by
  unfold hrdL; rw [List.foldl_append]; rfl
theorem hrdL_next (tr at_ : Int) (cs : List Cli) (i : Nat) (h : i < cs.length) : hrdL tr at_ (cs.take (i + 1)) = hrdS tr at_ (hrdL tr at_ (cs.take i)) cs[i] := by
  rw [List.take_succ_eq_append_getElem h, hrdL_snoc]
theorem hrdS_srt {tr at_ : Int} {l : Gs} {c : Cli} (h : SrtG l) : SrtG (hrdS tr at_ l c) := by
  unfold hrdS
  split
  · exact ins_srt h
  · exact h
theorem foldS_srt {tr at_ : Int} : ∀ (cs : List Cli) (l : Gs), SrtG l → SrtG (cs.foldl (hrdS tr at_) l)
  | [], _, h => h
  | _ :: cs, _, h => foldS_srt cs _ (hrdS_srt h)
theorem hrdL_srt (tr at_ : Int) (cs : List Cli) : SrtG (hrdL tr at_ cs) := foldS_srt cs [] List.Pairwise.nil
/-- how long the numbers get -/
def LimG (k : Nat) (l : Gs) : Prop := ∀ x ∈ l, RLim k x.2
theorem ins_lim {k : Nat} : ∀ {l : Gs} {g : Gk} {q : Rat}, LimG k l → RLim 300 q → LimG (k + 301) (insG l g q)
  | [], g, q, _, hq => by intro x hx; simp [insG] at hx; subst hx; exact hq.mono (by omega)
  | (h, r) :: l, g, q, hl, hq => by
    intro x hx
    have hll : LimG k l := fun x hx => hl x (List.mem_cons_of_mem _ hx)
    unfold insG at hx
    split at hx
    · rcases List.mem_cons.1 hx with e | e
      · exact (hl x (by rw [e]; simp)).mono (by omega)
      · exact ins_lim hll hq x e
    · split at hx
      · rcases List.mem_cons.1 hx with e | e
        · rw [e]; exact hq.mono (by omega)
        · exact (hl x e).mono (by omega)
      · rcases List.mem_cons.1 hx with e | e
        · rw [e]
          exact ((hl (h, r) (by simp)).add hq).mono (by omega)
        · exact (hll x e).mono (by omega)
theorem fold_lim {tr at_ : Int} : ∀ (cs : List Cli) (l : Gs) (k : Nat), LimG k l → (∀ c ∈ cs, onC tr at_ c = true → RLim 300 (valQ c.e (at_ - c.at_))) → LimG (k + 301 * cs.length) (cs.foldl (hrdS tr at_) l)
  | [], _, _, h, _ => h
  | c :: cs, l, k, h, hc => by
    have h1 : LimG (k + 301) (hrdS tr at_ l c) := by
      unfold hrdS
      split
      · rename_i ho
        exact ins_lim h (hc c (by simp) ho)
      · exact fun x hx => (h x hx).mono (by omega)
    have h2 := fold_lim cs _ _ h1 (fun x hx => hc x (List.mem_cons_of_mem _ hx))
    intro x hx
    have := h2 x hx
    rw [List.length_cons]
    exact this.mono (by omega)
theorem hrdL_lim {tr at_ : Int} {cs : List Cli} (hn : cs.length ≤ 300) (hc : ∀ c ∈ cs, onC tr at_ c = true → RLim 300 (valQ c.e (at_ - c.at_))) (i : Nat) : LimG 90300 (hrdL tr at_ (cs.take i)) := by
  have h := fold_lim (tr := tr) (at_ := at_) (cs.take i) [] 0 (fun x hx => by simp at hx) (fun c hx => hc c (List.mem_of_mem_take hx))
  intro x hx
  have hl : (cs.take i).length ≤ 300 := by rw [List.length_take]; omega
  exact (h x hx).mono (by omega)
/-- .. and there are no more than the clips -/
theorem ins_len : ∀ (l : Gs) (g : Gk) (q : Rat), (insG l g q).length ≤ l.length + 1
  | [], _, _ => by simp [insG]
  | (h, r) :: l, g, q => by
    unfold insG
    split
    · have := ins_len l g q; simp; omega
    · split
      · simp
      · simp
theorem fold_len {tr at_ : Int} : ∀ (cs : List Cli) (l : Gs), (cs.foldl (hrdS tr at_) l).length ≤ l.length + cs.length
  | [], l => by simp
  | c :: cs, l => by
    have h := fold_len (tr := tr) (at_ := at_) cs (hrdS tr at_ l c)
    have : (hrdS tr at_ l c).length ≤ l.length + 1 := by
      unfold hrdS
      split
      · exact ins_len _ _ _
      · omega
    simp only [List.foldl_cons, List.length_cons]
    omega
theorem hrdL_len (tr at_ : Int) (cs : List Cli) : (hrdL tr at_ cs).length ≤ cs.length := by
  have := fold_len (tr := tr) (at_ := at_) cs []
  simpa [hrdL] using this
/-- what is heard -/
def heaL (tr at_ : Int) (cs : List Cli) : Gs := (hrdL tr at_ cs).filter fun x => decide (x.2 ≠ 0)
def heaF (nm : ByteArray → Bool) (mx : Int) (e : Edt) (tr at_ : Int) : Gs × Int :=
  if ediF nm mx e ≠ 0 then ([], ediF nm mx e) else if tr < 0 ∨ e.tracks ≤ tr ∨ at_ < 0 ∨ 100000 ≤ at_ then ([], 1) else (heaL tr at_ e.cs, 0)
/-- two lists that are in order and have the same members are the same -/
theorem srt_uniq {α : Type} {lt : α → α → Prop} (irr : ∀ a, ¬ lt a a) (tr : ∀ {a b c}, lt a b → lt b c → lt a c) : ∀ {l m : List α}, l.Pairwise lt → m.Pairwise lt → (∀ x, x ∈ l ↔ x ∈ m) → l = m
  | [], [], _, _, _ => rfl
  | [], b :: m, _, _, h => absurd ((h b).2 (by simp)) (by simp)
  | a :: l, [], _, _, h => absurd ((h a).1 (by simp)) (by simp)
  | a :: l, b :: m, hl, hm, h => by
    obtain ⟨l1, l2⟩ := List.pairwise_cons.1 hl
    obtain ⟨m1, m2⟩ := List.pairwise_cons.1 hm
    have hab : a = b := by
      rcases List.mem_cons.1 ((h a).1 (by simp)) with e | e
      · exact e
      · rcases List.mem_cons.1 ((h b).2 (by simp)) with e2 | e2
        · exact e2.symm
        · exact absurd (tr (l1 b e2) (m1 a e)) (irr a)
    subst hab
    refine congrArg (a :: ·) (srt_uniq irr tr l2 m2 fun x => ?_)
    constructor
    · intro hx
      rcases List.mem_cons.1 ((h x).1 (List.mem_cons_of_mem _ hx)) with e | e
      · subst e; exact absurd (l1 x hx) (irr x)
      · exact e
    · intro hx
      rcases List.mem_cons.1 ((h x).2 (List.mem_cons_of_mem _ hx)) with e | e
      · subst e; exact absurd (m1 x hx) (irr x)
      · exact e
end Go.Dw
