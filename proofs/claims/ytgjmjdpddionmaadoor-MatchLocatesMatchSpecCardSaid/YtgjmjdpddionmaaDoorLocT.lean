/- The sort of hits; plain: the hits of a store. -/
import Derived.Test.YtgjmjdpddionmaaDoorLocS
import Derived.Test.YtgjmjdpddionmaaDoorHitP
import Derived.Test.YtgjmjdpddionmaaDoorStoA
namespace Go.Proofs.YtgjmjdpddionmaaDoor
open Go.RowKit Go.Dw Go.Sort

def encH (x : Hs) : List Value := x.1.cs
theorem ltOf_cfH (x y : Hs) : ltOf cfH x y = true ↔ ltH x.1 y.1 := by
  unfold ltOf; rw [decide_eq_true_eq]; exact cfH_neg x y
theorem ltOf_cfH' (x y : Hs) : ltOf cfH x y = false ↔ ¬ ltH x.1 y.1 := by
  rw [← ltOf_cfH]; simp
theorem nlt_trans {x y z : Ht} (hx : 0 < x.c) (hy : 0 < y.c) (hz : 0 < z.c) (h : ¬ ltH x y) (k : ¬ ltH y z) : ¬ ltH x z := by
  intro hh
  rcases ltH_tri x y with h1 | h1 | ⟨h1, h2, h3⟩
  · exact h h1
  · exact k (ltH_trans hy hx hz h1 hh)
  · apply k
    rcases hh with hh | ⟨g1, g2, g3⟩
    · exact .inl (betP_trans' hy hx hz (betL_not.1 h1) hh)
    · exact .inr ⟨betL_not.2 (betL_trans hy hx hz (betL_not.1 h1) (betL_not.1 g1)), betL_not.2 (betL_trans hz hx hy (betL_not.1 g2) (betL_not.1 h2)), by rw [← h3]; exact g3⟩
theorem swoH : SWO (ltOf cfH) where
  irrefl x := (ltOf_cfH' x x).2 (ltH_irr x.1)
  trans x y z h1 h2 := by rw [ltOf_cfH] at *; exact ltH_trans x.2.2 y.2.2 z.2.2 h1 h2
  ntrans x y z h1 h2 := by rw [ltOf_cfH'] at *; exact nlt_trans x.2.2 y.2.2 z.2.2 h1 h2
theorem cmpLaysH (g off size : Nat) (w : World) : CmpLays Tryd.prog 17 #[] encH 4 cfH g off size w :=
  fun _ _ _ _ x y => cmpH_any x.1 y.1 _ x.2.1 y.2.1
def SrtH (w : World) (B : Nat) (A : Option Addr) (l : List Hs) (e : Ending) (w' : World) : Prop := e = .returned (.tuple #[]) ∧ Srt (ltOf cfH) encH w B A l w'
theorem sortH_any (B base : Nat) (A : Option Addr) (n c : Nat) (l : List Hs) (w : World) (hB : B ≤ base) (hown : w.ownsRow base 31 4 (.slice A n c) n (l.flatMap encH)) (hn : l.length = n) (hm : n < 4611686018427387904) :
    Calls Tryd.prog 16 #[.slice A n c, .func (.func 17) #[] #[]] w (SrtH w B A l) := by
  have eg : ∀ args w, (callFunc 17 args).run Tryd.prog w = .ok (.enter 17 args) w := enters_of Tryd.func17 (by kernel_rfl) rfl
  by_cases h0 : n = 0
  · subst h0
    have : l = [] := List.eq_nil_of_length_eq_zero hn
    subst this
    exact (AnyF.slices_SortFunc_none Tryd.sortHt A c _ w).mono fun e w' ⟨h1, h2⟩ => ⟨h1, [], List.Perm.refl _, by simp, .inl rfl, by rw [h2]; exact Below.refl _ _⟩
  · rcases hown.2 with ⟨h1, h2⟩ | ⟨g, cap, cur, hv, hb, hg, _⟩
    · exact absurd h2 h0
    · injection hv with e1 e2 e3
      subst e1
      have hH := holdsK_of_own (enc := encH) (fun _ => rfl) hown hn
      have hgs : g < w.heap.size := (Array.getElem?_eq_some_iff.1 hg).1
      have hs : l.toArray.size = n := by simpa using hn
      have hcon := AnyQ.slices_SortFunc Tryd.sortHt 4 Tryd.isAgg31 Tryd.sizeOf31 encH (fun _ => rfl) (fun x v hv => by simp [encH, Ht.cs] at hv; rcases hv with rfl | rfl | rfl | rfl <;> rfl) cfH swoH 17 #[] g 0 c l.toArray w eg (cmpLaysH g 0 _ w) hH hgs (by omega)
      rw [hs] at hcon
      refine hcon.mono fun e w' ⟨h1, d', m, os, hp, hs2, hw⟩ => ⟨h1, ?_⟩
      rw [hw]
      exact srt_of (fun _ => rfl) hgs (Nat.le_trans hB hb) hH (by rw [hs]; exact hp) (by rw [hs]; exact hs2)
/-- what is known of the best so far -/
theorem hGo_good (nm : ByteArray) (xs ys : List Int) (least : Int) (h1 : 1 ≤ least) (h : ys.length ≤ 500) : ∀ j, (hGo nm xs ys least j).1 = true → (hGo nm xs ys least j).2.good ∧ (hGo nm xs ys least j).2.n = nm
  | 0, hf => by simp [hGo] at hf
  | j + 1, hf => by
    have ih := hGo_good nm xs ys least h1 h j
    have hs := htD_small nm xs ys (1 - (ys.length : Int) + j) h
    unfold hGo at hf ⊢
    simp only at hf ⊢
    split at hf
    · rename_i hlt
      rw [if_pos hlt]
      exact ih hf
    · rename_i hlt
      rw [if_neg hlt]
      split
      · refine ⟨⟨hs.1, ?_⟩, rfl⟩
        show 0 < 8 * ((apN xs.length ys.length (1 - (ys.length : Int) + j) : Nat) : Int)
        omega
      · rename_i h3
        rw [if_neg h3] at hf
        exact ih hf
theorem hOk_good {nm : ByteArray} {xs ys : List Int} {least percent : Int} (h1 : 1 ≤ least) (h : ys.length ≤ 500) (hk : hOk nm xs ys least percent = true) : (hEnd nm xs ys least).2.good ∧ (hEnd nm xs ys least).2.n = nm := by
  unfold hOk at hk
  rw [Bool.and_eq_true] at hk
  exact hGo_good nm xs ys least h1 h _ hk.1
def dP : ByteArray × List Int := (⟨#[]⟩, [])
/-- the hits of the first k of a store -/
def hitsN (L : List (ByteArray × List Int)) (want : List Int) (least percent : Int) : Nat → List Ht
  | 0 => []
  | k + 1 => if hOk (L.getD k dP).1 (L.getD k dP).2 want least percent = true then hitsN L want least percent k ++ [(hEnd (L.getD k dP).1 (L.getD k dP).2 want least).2] else hitsN L want least percent k
section
variable {L : List (ByteArray × List Int)} {want : List Int} {least percent : Int}
theorem hitsN_len : ∀ k, (hitsN L want least percent k).length ≤ k
  | 0 => by simp [hitsN]
  | k + 1 => by
    have := hitsN_len k
    rw [hitsN]; split
    · simp; omega
    · omega
theorem hitsN_good (h1 : 1 ≤ least) (h : want.length ≤ 500) : ∀ k, (∀ x ∈ hitsN L want least percent k, x.good ∧ ∃ j, j < k ∧ x.n = (L.getD j dP).1)
  | 0 => by simp [hitsN]
  | k + 1 => by
    have ih := hitsN_good h1 h k
    rw [hitsN]
    split
    · rename_i hk
      intro x hx
      rcases List.mem_append.1 hx with hx | hx
      · obtain ⟨a, j, b, c⟩ := ih x hx; exact ⟨a, j, by omega, c⟩
      · rw [List.mem_singleton] at hx; subst hx
        exact ⟨(hOk_good h1 h hk).1, k, by omega, (hOk_good h1 h hk).2⟩
    · intro x hx
      obtain ⟨a, j, b, c⟩ := ih x hx; exact ⟨a, j, by omega, c⟩
theorem hitsN_pw (h1 : 1 ≤ least) (h : want.length ≤ 500) (hL : ∀ i j, i < j → j < L.length → sLt (L.getD i dP).1 (L.getD j dP).1) : ∀ k, k ≤ L.length → (hitsN L want least percent k).Pairwise (fun x y => sLt x.n y.n)
  | 0, _ => by simp [hitsN]
  | k + 1, hk => by
    have ih := hitsN_pw h1 h hL k (by omega)
    rw [hitsN]
    split
    · rename_i ho
      rw [List.pairwise_append]
      refine ⟨ih, by simp, fun x hx y hy => ?_⟩
      rw [List.mem_singleton] at hy; subst hy
      obtain ⟨_, j, hj, e⟩ := hitsN_good h1 h k x hx
      rw [e, (hOk_good h1 h ho).2]
      exact hL j k hj (by omega)
    · exact ih
end
theorem stoF_zero {L : List (ByteArray × List Int)} (h : stoF L = 0) : L.length ≤ 50 ∧ (∀ i, i < L.length → chk (L.getD i dP).2 = 0) ∧ ∀ i j, i < j → j < L.length → sLt (L.getD i dP).1 (L.getD j dP).1 := by
  unfold stoF at h
  split at h
  · omega
  · rename_i hl
    have hz : ∀ {n : Nat}, firstNZ (mkF L) n = 0 → ∀ j, j < n → mkF L j = 0 := by
      intro n
      induction n with
      | zero => intro _ j hj; omega
      | succ n ih =>
        intro h j hj
        rw [firstNZ] at h
        split at h
        · rename_i h2
          by_cases he : j = n
          · subst he; exact h
          · exact ih h2 j (by omega)
        · rename_i h2; exact absurd h h2
    have h0 := hz h
    have hs : ∀ i, i < L.length → chk (L.getD i dP).2 = 0 ∧ (0 < i → sLt (L.getD (i - 1) dP).1 (L.getD i dP).1) := fun i hi => by
      have := h0 i hi
      unfold mkF at this
      split at this
      · omega
      · split at this
        · omega
        · rename_i h3
          refine ⟨this, fun hi0 => ?_⟩
          simp only [Bool.and_eq_true, decide_eq_true_eq, not_and, Classical.not_not] at h3
          exact h3 hi0
    refine ⟨by omega, fun i hi => (hs i hi).1, ?_⟩
    intro i j hij hj
    induction j with
    | zero => omega
    | succ j ih =>
      have h1 := (hs (j + 1) hj).2 (by omega)
      rw [Nat.add_sub_cancel] at h1
      by_cases he : i = j
      · subst he; exact h1
      · exact sLt_trans (ih (by omega) (by omega)) h1
/-- what Locate answers -/
def locF (L : List (ByteArray × List Int)) (want : List Int) (least percent : Int) : List Ht × Int :=
  if stoF L ≠ 0 then ([], stoF L) else if chk want ≠ 0 then ([], chk want) else if fdF least percent ≠ 0 then ([], fdF least percent) else (insAll geH [] (hitsN L want least percent L.length), 0)
theorem insB_map (x : Hs) (l : List Hs) : (insB geS x l).map Subtype.val = insB geH x.1 (l.map Subtype.val) := by
  unfold insB
  rw [List.map_append, List.map_cons, List.takeWhile_map, List.dropWhile_map]
  rfl
theorem insAll_map : ∀ (l acc : List Hs), (insAll geS acc l).map Subtype.val = insAll geH (acc.map Subtype.val) (l.map Subtype.val)
  | [], acc => rfl
  | x :: l, acc => by rw [insAll, insAll_map l, List.map_cons, insAll, insB_map]
theorem flat_val (l : List Hs) : l.flatMap encH = (l.map Subtype.val).flatMap Ht.cs := by
  induction l with
  | nil => rfl
  | cons x t ih => rw [List.flatMap_cons, List.map_cons, List.flatMap_cons, ih]; rfl
theorem lift_hits {l : List Ht} (h : ∀ x ∈ l, x.good) : ∃ V : List Hs, V.map Subtype.val = l := by
  induction l with
  | nil => exact ⟨[], rfl⟩
  | cons x t ih =>
    obtain ⟨V, hV⟩ := ih (fun y hy => h y (by simp [hy]))
    exact ⟨⟨x, h x (by simp)⟩ :: V, by simp [hV]⟩
end Go.Proofs.YtgjmjdpddionmaaDoor
