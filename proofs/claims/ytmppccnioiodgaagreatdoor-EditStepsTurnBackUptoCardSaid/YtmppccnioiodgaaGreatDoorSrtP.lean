/- Plain: clips put in order; those that agree stay in the order in which they were. -/
import Derived.Test.YtmppccnioiodgaaGreatDoorStbP
import Derived.Test.YtmppccnioiodgaaGreatDoorPlnA
namespace Go.Dw
open Go.RowKit Go.Sort Go.Stb

/-- what an order by numbers -1, 0, 1 has to be -/
structure Ord3 {α : Type} (c : α → α → Int) : Prop where
  neg : ∀ x y, c y x = -c x y
  le : ∀ x y z, c x y ≤ 0 → c y z ≤ 0 → c x z ≤ 0
  lt : ∀ x y z, c x y ≤ 0 → c y z ≤ 0 → c x z = 0 → c x y = 0 ∧ c y z = 0
theorem ord3_Z : Ord3 cmpZ where
  neg := cmpZ_neg
  le x y z h1 h2 := by
    rw [cmpZ_val] at *
    split at h1
    · split at h2
      · rw [if_pos (by omega)]; omega
      · split at h2
        · rw [if_pos (by omega)]; omega
        · omega
    · split at h1
      · split at h2
        · rw [if_pos (by omega)]; omega
        · split at h2
          · rw [if_neg (by omega), if_pos (by omega)]; omega
          · omega
      · omega
  lt x y z h1 h2 h3 := by
    rw [cmpZ_val] at *
    split at h1
    · split at h2
      · rw [if_pos (by omega)] at h3; omega
      · split at h2
        · rw [if_pos (by omega)] at h3; omega
        · omega
    · split at h1
      · split at h2
        · rw [if_pos (by omega)] at h3; omega
        · split at h2
          · rw [cmpZ_val, if_neg (by omega), if_pos (by omega)]; omega
          · omega
      · omega
theorem cmpS_le {x y : ByteArray} : cmpS x y ≤ 0 ↔ ¬ sLt y x := by
  rw [cmpS_val]
  rcases sLt_tri x y with h | h | h
  · rw [if_pos h]; exact ⟨fun _ => sLt_asymm h, fun _ => by omega⟩
  · subst h; rw [if_neg (sLt_irr x), if_pos rfl]; exact ⟨fun _ => sLt_irr x, fun _ => by omega⟩
  · rw [if_neg (sLt_asymm h), if_neg (fun e => by rw [e] at h; exact sLt_irr y h)]; exact ⟨fun k => by omega, fun k => absurd h k⟩
theorem cmpS_zero {x y : ByteArray} : cmpS x y = 0 ↔ x = y := by
  rw [cmpS_val]
  by_cases h1 : sLt x y
  · rw [if_pos h1]; exact ⟨fun k => by omega, fun e => by rw [e] at h1; exact absurd h1 (sLt_irr y)⟩
  · rw [if_neg h1]
    by_cases h2 : x = y
    · rw [if_pos h2]; exact ⟨fun _ => h2, fun _ => rfl⟩
    · rw [if_neg h2]; exact ⟨fun k => by omega, fun e => absurd e h2⟩
theorem ord3_S : Ord3 cmpS where
  neg := cmpS_neg
  le x y z h1 h2 := by
    rw [cmpS_le] at *
    intro h3
    rcases sLt_tri x y with h | h | h
    · exact h2 (sLt_trans h3 h)
    · rw [h] at h3; exact h2 h3
    · exact h1 h
  lt x y z h1 h2 h3 := by
    rw [cmpS_le] at h1 h2
    rw [cmpS_zero] at h3
    subst h3
    have : x = y := by
      rcases sLt_tri x y with h | h | h
      · exact absurd h h2
      · exact h
      · exact absurd h h1
    subst this
    exact ⟨cmpS_zero.2 rfl, cmpS_zero.2 rfl⟩
theorem Ord3.on {α β : Type} {c : α → α → Int} (h : Ord3 c) (f : β → α) : Ord3 (fun x y => c (f x) (f y)) :=
  ⟨fun _ _ => h.neg _ _, fun _ _ _ => h.le _ _ _, fun _ _ _ => h.lt _ _ _⟩
theorem Ord3.or {α : Type} {c d : α → α → Int} (hc : Ord3 c) (hd : Ord3 d) : Ord3 (fun x y => if c x y = 0 then d x y else c x y) where
  neg x y := by
    show (if c y x = 0 then d y x else c y x) = -(if c x y = 0 then d x y else c x y)
    rw [hc.neg x y]
    by_cases h : c x y = 0
    · rw [if_pos h, if_pos (by omega)]; exact hd.neg x y
    · rw [if_neg h, if_neg (by omega)]
  le x y z h1 h2 := by
    show (if c x z = 0 then d x z else c x z) ≤ 0
    replace h1 : (if c x y = 0 then d x y else c x y) ≤ 0 := h1
    replace h2 : (if c y z = 0 then d y z else c y z) ≤ 0 := h2
    have g1 : c x y ≤ 0 := by split at h1 <;> omega
    have g2 : c y z ≤ 0 := by split at h2 <;> omega
    have g3 := hc.le x y z g1 g2
    by_cases h3 : c x z = 0
    · rw [if_pos h3]
      obtain ⟨e1, e2⟩ := hc.lt x y z g1 g2 h3
      rw [if_pos e1] at h1
      rw [if_pos e2] at h2
      exact hd.le x y z h1 h2
    · rw [if_neg h3]; exact g3
  lt x y z h1 h2 h3 := by
    show (if c x y = 0 then d x y else c x y) = 0 ∧ (if c y z = 0 then d y z else c y z) = 0
    replace h1 : (if c x y = 0 then d x y else c x y) ≤ 0 := h1
    replace h2 : (if c y z = 0 then d y z else c y z) ≤ 0 := h2
    replace h3 : (if c x z = 0 then d x z else c x z) = 0 := h3
    have g1 : c x y ≤ 0 := by split at h1 <;> omega
    have g2 : c y z ≤ 0 := by split at h2 <;> omega
    by_cases h4 : c x z = 0
    · rw [if_pos h4] at h3
      obtain ⟨e1, e2⟩ := hc.lt x y z g1 g2 h4
      rw [if_pos e1] at h1 ⊢
      rw [if_pos e2] at h2 ⊢
      exact hd.lt x y z h1 h2 h3
    · rw [if_neg h4] at h3; exact absurd h3 h4
theorem ord3_none {α : Type} : Ord3 (fun _ _ : α => (0 : Int)) := ⟨fun _ _ => rfl, fun _ _ _ _ _ => Int.le_refl _, fun _ _ _ _ _ _ => ⟨rfl, rfl⟩⟩
theorem ord3_K : Ord3 cmpK :=
  (ord3_Z.on Cli.tr).or ((ord3_Z.on Cli.at_).or ((ord3_S.on Cli.m).or ((ord3_Z.on Cli.ch).or ((ord3_Z.on Cli.fr).or ((ord3_Z.on Cli.ln).or ord3_none)))))
theorem Ord3.swo {α : Type} {c : α → α → Int} (h : Ord3 c) : SWO (fun x y => decide (c x y < 0)) where
  irrefl x := by
    have := h.neg x x
    simp; omega
  trans x y z h1 h2 := by
    have h1 := of_decide_eq_true h1
    have h2 := of_decide_eq_true h2
    have h3 := h.le x y z (by omega) (by omega)
    refine decide_eq_true ?_
    rcases Int.lt_or_eq_of_le h3 with e | e
    · exact e
    · have := h.lt x y z (by omega) (by omega) e; omega
  ntrans x y z h1 h2 := by
    have h1 := of_decide_eq_false h1
    have h2 := of_decide_eq_false h2
    refine decide_eq_false ?_
    have n1 := h.neg x y
    have n2 := h.neg y z
    have n3 := h.neg x z
    have := h.le z y x (by omega) (by omega)
    omega
section
variable {α : Type}
/-- how many of a list stay ahead of c: up to the last that is not behind it -/
def plcK (f : α → Cli) (c : Cli) : List α → Nat
  | [] => 0
  | a :: l => if plcK f c l = 0 ∧ 0 < cmpK (f a) c then 0 else plcK f c l + 1
def plc (f : α → Cli) (l : List α) (c : α) : List α := l.take (plcK f (f c) l) ++ c :: l.drop (plcK f (f c) l)
/-- a list in order -/
def srtF (f : α → Cli) (l : List α) : List α := l.foldl (plc f) []
abbrev srtC (l : List Cli) : List Cli := srtF id l
theorem plcK_le (f : α → Cli) (c : Cli) : ∀ l : List α, plcK f c l ≤ l.length
  | [] => Nat.le_refl _
  | a :: l => by have := plcK_le f c l; unfold plcK; split <;> simp <;> omega
theorem plcK_hi (f : α → Cli) (c : Cli) : ∀ (l : List α) (j : Nat) (hj : j < l.length), plcK f c l ≤ j → 0 < cmpK (f l[j]) c
  | a :: l, 0, _, h => by
    unfold plcK at h
    split at h
    · rename_i h1; exact h1.2
    · omega
  | a :: l, j + 1, hj, h => by
    simp only [List.length_cons] at hj
    have ih := plcK_hi f c l j (by omega)
    rw [List.getElem_cons_succ]
    unfold plcK at h
    split at h
    · rename_i h1; exact ih (by omega)
    · exact ih (by omega)
theorem plcK_lo (f : α → Cli) (c : Cli) : ∀ (l : List α) (j : Nat) (hj : j < l.length), plcK f c l = j + 1 → ¬ 0 < cmpK (f l[j]) c
  | a :: l, 0, hj, h => by
    unfold plcK at h
    split at h
    · omega
    · rename_i h1
      exact fun h2 => h1 ⟨by omega, h2⟩
  | a :: l, j + 1, hj, h => by
    simp only [List.length_cons] at hj
    rw [List.getElem_cons_succ]
    unfold plcK at h
    split at h
    · omega
    · exact plcK_lo f c l j (by omega) (by omega)
/-- found from the end -/
theorem plcK_of {f : α → Cli} {c : Cli} {l : List α} {k : Nat} (hk : k ≤ l.length) (h1 : ∀ j (hj : j < l.length), k ≤ j → 0 < cmpK (f l[j]) c) (h2 : ∀ j (hj : j < l.length), k = j + 1 → ¬ 0 < cmpK (f l[j]) c) : plcK f c l = k := by
  have hl := plcK_le f c l
  rcases Nat.lt_trichotomy (plcK f c l) k with h | h | h
  · exact absurd (plcK_hi f c l (k - 1) (by omega) (by omega)) (h2 (k - 1) (by omega) (by omega))
  · exact h
  · exact absurd (h1 (plcK f c l - 1) (by omega) (by omega)) (plcK_lo f c l (plcK f c l - 1) (by omega) (by omega))
theorem plcK_map {β : Type} (f : α → Cli) (g : β → α) (c : Cli) : ∀ l : List β, plcK f c (l.map g) = plcK (fun x => f (g x)) c l
  | [] => rfl
  | a :: l => by rw [List.map_cons, plcK, plcK, plcK_map f g c l]
theorem plc_map {β : Type} (f : α → Cli) (g : β → α) (l : List β) (c : β) : (plc (fun x => f (g x)) l c).map g = plc f (l.map g) (g c) := by
  unfold plc
  rw [plcK_map, List.map_append, List.map_cons, List.map_take, List.map_drop]
theorem srt_foldl_map {β : Type} (f : α → Cli) (g : β → α) : ∀ (l m : List β), (l.foldl (plc fun x => f (g x)) m).map g = (l.map g).foldl (plc f) (m.map g)
  | [], _ => rfl
  | c :: l, m => by rw [List.foldl_cons, srt_foldl_map f g l, plc_map]; rfl
theorem srt_map {β : Type} (f : α → Cli) (g : β → α) (l : List β) : (srtF (fun x => f (g x)) l).map g = srtF f (l.map g) := srt_foldl_map f g l []
theorem plc_perm (f : α → Cli) (l : List α) (c : α) : (plc f l c).Perm (l ++ [c]) := by
  unfold plc
  refine (List.perm_middle.trans ?_)
  rw [List.take_append_drop]
  exact (List.perm_append_singleton c l).symm
theorem srt_fold_perm (f : α → Cli) : ∀ (l m : List α), (l.foldl (plc f) m).Perm (m ++ l)
  | [], m => by simp
  | c :: l, m => by
    refine (srt_fold_perm f l (plc f m c)).trans ?_
    rw [show m ++ c :: l = m ++ [c] ++ l by simp]
    exact (plc_perm f m c).append_right l
theorem srt_perm (f : α → Cli) (l : List α) : (srtF f l).Perm l := by
  have := srt_fold_perm f l []; simpa [srtF] using this
theorem srt_snoc (f : α → Cli) (l : List α) (c : α) : srtF f (l ++ [c]) = plc f (srtF f l) c := by
  unfold srtF; rw [List.foldl_append]; rfl
/-- with their places: the order that also asks where one stood -/
def tgl (f : α → Cli) : α × Nat → α × Nat → Bool := Tl (fun x y => decide (cmpK (f x.1) (f y.1) < 0)) (fun x => x.2)
theorem tgl_swo (f : α → Cli) : SWO (tgl f) := Tl_swo (ord3_K.on (fun x : α × Nat => f x.1)).swo
theorem plc_pw (f : α → Cli) {l : List (α × Nat)} {c : α × Nat} (h : l.Pairwise fun x y => tgl f y x = false) (ht : ∀ x ∈ l, x.2 < c.2) : (plc (fun x : α × Nat => f x.1) l c).Pairwise fun x y => tgl f y x = false := by
  have hS := tgl_swo f
  obtain ⟨k, hk⟩ : ∃ k, plcK (fun x : α × Nat => f x.1) (f c.1) l = k := ⟨_, rfl⟩
  have hkl := plcK_le (fun x : α × Nat => f x.1) (f c.1) l
  unfold plc
  rw [hk] at hkl ⊢
  have hp := List.pairwise_iff_getElem.1 h
  have hdr : ∀ x ∈ l.drop k, tgl f x c = false := fun x hx => by
    obtain ⟨j, hj, e⟩ := List.mem_iff_getElem.1 hx
    rw [List.getElem_drop] at e
    rw [List.length_drop] at hj
    have h1 := plcK_hi (fun x : α × Nat => f x.1) (f c.1) l (k + j) (by omega) (by omega)
    rw [e] at h1
    refine lt_asymm' hS ?_
    unfold tgl Tl
    have : decide (cmpK (f c.1) (f x.1) < 0) = true := decide_eq_true (by have := cmpK_neg (f x.1) (f c.1); omega)
    show (decide (cmpK (f c.1) (f x.1) < 0) || _) = true
    rw [this]; rfl
  have htk : ∀ x ∈ l.take k, tgl f c x = false := fun x hx => by
    obtain ⟨j, hj, e⟩ := List.mem_iff_getElem.1 hx
    rw [List.length_take] at hj
    rw [List.getElem_take] at e
    have h1 := plcK_lo (fun x : α × Nat => f x.1) (f c.1) l (k - 1) (by omega) (by omega)
    have h2 : tgl f c l[k - 1] = false := by
      unfold tgl
      rw [Tl_of_tag (tag := fun x : α × Nat => x.2) (ht _ (List.getElem_mem _))]
      refine decide_eq_false ?_
      have := cmpK_neg (f c.1) (f l[k - 1].1)
      omega
    by_cases hjk : j = k - 1
    · subst hjk; rw [← e]; exact h2
    · have h3 := hp j (k - 1) (by omega) (by omega) (by omega)
      rw [e] at h3
      exact hS.ntrans _ _ _ h2 h3
  refine List.pairwise_append.2 ⟨h.sublist (List.take_sublist _ _), List.pairwise_cons.2 ⟨hdr, h.sublist (List.drop_sublist _ _)⟩, ?_⟩
  intro x hx y hy
  rcases List.mem_cons.1 hy with e | e
  · rw [e]; exact htk x hx
  · have h1 := htk x hx
    have h2 := hdr y e
    exact hS.ntrans _ _ _ h2 h1
theorem srt_pw (f : α → Cli) : ∀ (l m : List (α × Nat)), m.Pairwise (fun x y => tgl f y x = false) → l.Pairwise (fun x y => x.2 < y.2) → (∀ x ∈ m, ∀ y ∈ l, x.2 < y.2) → (l.foldl (plc fun x : α × Nat => f x.1) m).Pairwise fun x y => tgl f y x = false
  | [], _, h, _, _ => h
  | c :: l, m, h, hl, hm => by
    obtain ⟨h1, h2⟩ := List.pairwise_cons.1 hl
    refine srt_pw f l _ (plc_pw f h fun x hx => hm x hx c (by simp)) h2 fun x hx y hy => ?_
    rcases List.mem_append.1 ((plc_perm _ m c).mem_iff.1 hx) with e | e
    · exact hm x e y (List.mem_cons_of_mem _ hy)
    · rw [List.mem_singleton.1 e]; exact h1 y hy
theorem zipIdx_pw (l : List α) : (l.zipIdx).Pairwise (fun x y => x.2 < y.2) := by
  refine List.pairwise_iff_getElem.2 fun i j hi hj hij => ?_
  simp only [List.getElem_zipIdx]
  omega
/-- a list of these in order that holds the same ones is that list -/
theorem srt_tag (f : α → Cli) {l : List α} {d : List (α × Nat)} (hp : d.Perm l.zipIdx) (hs : d.Pairwise fun x y => tgl f y x = false) : d.map (fun x => x.1) = srtF f l := by
  have e1 := srt_pw f l.zipIdx [] List.Pairwise.nil (zipIdx_pw l) (fun x hx => by simp at hx)
  have e2 : (srtF (fun x : α × Nat => f x.1) l.zipIdx).Perm l.zipIdx := srt_perm _ _
  have e3 : d = srtF (fun x : α × Nat => f x.1) l.zipIdx := by
    refine List.Perm.eq_of_pairwise (le := fun x y => tgl f y x = false) (fun x y hx hy h1 h2 => ?_) hs e1 (hp.trans e2.symm)
    obtain ⟨i, hi, hx⟩ := List.mem_iff_getElem.1 (hp.mem_iff.1 hx)
    obtain ⟨j, hj, hy⟩ := List.mem_iff_getElem.1 (e2.mem_iff.1 hy)
    simp only [List.getElem_zipIdx] at hx hy
    have hij : i = j := by
      have key : ∀ u v : α × Nat, tgl f u v = false → tgl f v u = false → ¬ u.2 < v.2 := fun u v g1 g2 h3 => by
        unfold tgl Tl at g1 g2
        simp only [Bool.or_eq_false_iff, Bool.and_eq_false_iff, Bool.not_eq_false', decide_eq_false_iff_not, decide_eq_true_eq] at g1 g2
        rcases g1.2 with g | g
        · exact g2.1 g
        · exact g h3
      have h3 := key _ _ h1 h2
      have h4 := key _ _ h2 h1
      rw [← hx, ← hy] at h3 h4
      simp only at h3 h4
      omega
    subst hij
    rw [← hx, ← hy]
  rw [e3, srt_map f (fun x : α × Nat => x.1), List.zipIdx_map_fst]
end
/-- in order, and so in the reference's words -/
theorem srtC_srt (l : List Cli) : Srt (srtC l) := by
  have e1 := srt_pw id l.zipIdx [] List.Pairwise.nil (zipIdx_pw l) (fun x hx => by simp at hx)
  have e2 : (srtF (fun x : Cli × Nat => id x.1) l.zipIdx).map (fun x => x.1) = srtC l := by rw [srt_map id (fun x : Cli × Nat => x.1), List.zipIdx_map_fst]
  intro i h0 hi hc
  have hlen : (srtC l).length = (srtF (fun x : Cli × Nat => id x.1) l.zipIdx).length := by rw [← e2, List.length_map]
  have h1 := List.pairwise_iff_getElem.1 e1 (i - 1) i (by show i - 1 < (srtF (fun x : Cli × Nat => id x.1) l.zipIdx).length; omega) (by show i < (srtF (fun x : Cli × Nat => id x.1) l.zipIdx).length; omega) (by omega)
  have g : ∀ j (hj : j < (srtF (fun x : Cli × Nat => id x.1) l.zipIdx).length), (srtC l).getD j dCli = ((srtF (fun x : Cli × Nat => id x.1) l.zipIdx)[j]'hj).1 := fun j hj => by
    rw [List.getD_eq_getElem?_getD, ← e2, List.getElem?_map, List.getElem?_eq_getElem hj]; rfl
  rw [g i (by omega), g (i - 1) (by omega)] at hc
  unfold tgl Tl at h1
  simp only [Bool.or_eq_false_iff, decide_eq_false_iff_not] at h1
  exact h1.1 hc
end Go.Dw
