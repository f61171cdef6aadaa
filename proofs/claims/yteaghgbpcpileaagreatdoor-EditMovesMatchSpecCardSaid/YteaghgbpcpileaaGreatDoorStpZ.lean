/- Several texts laid into one: Plain: Join and Mix: what they give; an edit, or its fault; Steps of a history, in plain Lean; Steps that are done are taken back by the steps that are turned: plain Lean; Steps as cells; Readings whose bulk is bounded: as XDec, with lengths bounded; How steps that came in read, with their lengths bounded; Steps turned, as cells: what both Turned answer; -/
import Derived.Test.YteaghgbpcpileaaGreatDoorSrtY
import Derived.Test.YteaghgbpcpileaaGreatDoorPlnA
import Derived.Test.YteaghgbpcpileaaGreatDoorMisZ
import Derived.Test.YteaghgbpcpileaaGreatDoorEdtZ
import Derived.Test.YteaghgbpcpileaaGreatDoorDec
import Derived.Test.YteaghgbpcpileaaGreatDoorRows
import Derived.Test.YteaghgbpcpileaaGreatDoorNumB
/- Plain: Join and Mix: what they give; an edit, or its fault. -/
namespace Go.Dw
open Go.RowKit

def e0 : Edt := ⟨0, 0, []⟩
/-- the fault of two edits; rates alone: the numbers of tracks may differ -/
def twoF (nm : ByteArray → Bool) (mx : Int) (al : Bool) (a b : Edt) : Int :=
  if ediF nm mx a ≠ 0 then ediF nm mx a else if ediF nm mx b ≠ 0 then ediF nm mx b else if a.rate ≠ b.rate ∨ (al = false ∧ a.tracks ≠ b.tracks) then 6 else 0
/-- an edit, or its fault -/
def mkE (nm : ByteArray → Bool) (mx : Int) (e : Edt) : Edt × Int := if ediF nm mx e ≠ 0 then (e0, ediF nm mx e) else (e, 0)
def movC (k : Int) (c : Cli) : Cli := ⟨c.m, c.ch, c.fr, c.tr, c.at_ + k, c.ln, c.e⟩
/-- those from a position on are moved -/
def shfC (at_ by_ : Int) (c : Cli) : Cli := if at_ ≤ c.at_ then movC by_ c else c
def joinE (nm : ByteArray → Bool) (mx : Int) (a b : Edt) (n : Int) : Edt × Int :=
  if twoF nm mx false a b ≠ 0 then (e0, twoF nm mx false a b) else if n < 0 ∨ endF a.cs < n then (e0, 1) else mkE nm mx ⟨a.rate, a.tracks, srtC (a.cs ++ b.cs.map (movC (endF a.cs - n)))⟩
def mixE (nm : ByteArray → Bool) (mx : Int) (a b : Edt) : Edt × Int :=
  if twoF nm mx false a b ≠ 0 then (e0, twoF nm mx false a b) else mkE nm mx ⟨a.rate, a.tracks, srtC (a.cs ++ b.cs)⟩
theorem mkE_ok {nm : ByteArray → Bool} {mx : Int} {e : Edt} (h : ediF nm mx e = 0) : mkE nm mx e = (e, 0) := by unfold mkE; rw [if_neg (fun k => k h)]
theorem mkE_bad {nm : ByteArray → Bool} {mx : Int} {e : Edt} (h : ediF nm mx e ≠ 0) : mkE nm mx e = (e0, ediF nm mx e) := by unfold mkE; rw [if_pos h]
end Go.Dw
/- Steps of a history, in plain Lean. -/
namespace Go.Dw

instance : DecidableEq Pnt := fun a b => if h : a.at_ = b.at_ ∧ a.n = b.n ∧ a.d = b.d then .isTrue (by
  obtain ⟨a1, a2, a3⟩ := a; obtain ⟨b1, b2, b3⟩ := b; obtain ⟨h1, h2, h3⟩ := h; cases h1; cases h2; cases h3; rfl) else .isFalse (fun e => h (by subst e; exact ⟨rfl, rfl, rfl⟩))
instance : DecidableEq Cli := fun a b => if h : a.m = b.m ∧ a.ch = b.ch ∧ a.fr = b.fr ∧ a.tr = b.tr ∧ a.at_ = b.at_ ∧ a.ln = b.ln ∧ a.e = b.e then .isTrue (by
  obtain ⟨a1, a2, a3, a4, a5, a6, a7⟩ := a; obtain ⟨b1, b2, b3, b4, b5, b6, b7⟩ := b; obtain ⟨h1, h2, h3, h4, h5, h6, h7⟩ := h; cases h1; cases h2; cases h3; cases h4; cases h5; cases h6; cases h7; rfl) else .isFalse (fun e => h (by subst e; exact ⟨rfl, rfl, rfl, rfl, rfl, rfl, rfl⟩))
structure Stp where
  kd : Int
  cs : List Cli
  at_ : Int
  by_ : Int
/-- the fault of a step alone -/
def stpF (s : Stp) : Int := if s.kd = 1 ∨ s.kd = 2 then (if s.at_ = 0 ∧ s.by_ = 0 then 0 else 3) else if s.kd = 3 then (if 0 < s.cs.length then 3 else 0) else 4
/-- the fault of a shift's numbers -/
def rngF (s : Stp) : Int := if (0 ≤ s.at_ ∧ s.at_ ≤ 100000) ∧ (-100000 ≤ s.by_ ∧ s.by_ ≤ 100000) ∧ (0 ≤ s.at_ + s.by_ ∧ s.at_ + s.by_ ≤ 100000) then 0 else 1
def stF (s : Stp) : Int := if stpF s ≠ 0 then stpF s else if s.kd = 3 then rngF s else 0
def dStp : Stp := ⟨0, [], 0, 0⟩
def stpsF (l : List Stp) : Int := if 200 < l.length then 2 else firstNZ (fun i => stF (l.getD i dStp)) l.length
def turn (s : Stp) : Stp := if s.kd = 1 then ⟨2, s.cs, s.at_, s.by_⟩ else if s.kd = 2 then ⟨1, s.cs, s.at_, s.by_⟩ else ⟨s.kd, s.cs, s.at_ + s.by_, -s.by_⟩
def turnedF (l : List Stp) : List Stp × Int := if stpsF l ≠ 0 then ([], stpsF l) else (l.reverse.map turn, 0)
def folS (a : Int) (s : Stp) : Int := if s.kd = 3 ∧ s.at_ ≤ a then a + s.by_ else a
def followF (l : List Stp) (at_ : Int) : Int × Int :=
  if stpsF l ≠ 0 then (0, stpsF l) else if ¬ (0 ≤ at_ ∧ at_ ≤ 100000) then (0, 1) else if ¬ (0 ≤ l.foldl folS at_ ∧ l.foldl folS at_ ≤ 100000) then (0, 1) else (l.foldl folS at_, 0)
section
variable {α : Type}
/-- the first that is c is taken away -/
def remF (f : α → Cli) (c : Cli) : List α → Option (List α)
  | [] => none
  | x :: l => if f x = c then some l else (remF f c l).map (x :: ·)
def remsF (f : α → Cli) : List Cli → List α → Option (List α)
  | [], l => some l
  | c :: cs, l => match remF f c l with | some m => remsF f cs m | none => none
end
section
variable {α : Type}
theorem remF_none (f : α → Cli) (c : Cli) : ∀ l : List α, (∀ x ∈ l, f x ≠ c) → remF f c l = none
  | [], _ => rfl
  | x :: l, h => by rw [remF, if_neg (h x (by simp)), remF_none f c l (fun y hy => h y (by simp [hy]))]; rfl
theorem remF_at (f : α → Cli) (c : Cli) : ∀ (l : List α) (k : Nat) (hk : k < l.length), (∀ j (hj : j < k), f l[j] ≠ c) → f l[k] = c → remF f c l = some (l.take k ++ l.drop (k + 1))
  | x :: l, 0, _, _, h => by rw [remF, if_pos (by simpa using h)]; simp
  | x :: l, k + 1, hk, h, h2 => by
    simp only [List.length_cons] at hk
    rw [remF, if_neg (by simpa using h 0 (by omega)), remF_at f c l k (by omega) (fun j hj => by simpa using h (j + 1) (by omega)) (by simpa using h2)]
    simp
end
/-- a clip stands where a shift to the front would put others -/
def clsh (s : Stp) (c : Cli) : Bool := decide (s.by_ < 0 ∧ s.at_ + s.by_ ≤ c.at_ ∧ c.at_ < s.at_)
/-- the clips behind a step -/
def stepL (l : List Cli) (s : Stp) : List Cli × Int :=
  if stpF s ≠ 0 then ([], stpF s)
  else if s.kd = 1 then (srtC (l ++ s.cs), 0)
  else if s.kd = 2 then (match remsF id s.cs l with | some m => (m, 0) | none => ([], 9))
  else if rngF s ≠ 0 then ([], 1)
  else if l.any (clsh s) = true then ([], 12)
  else (srtC (l.map (shfC s.at_ s.by_)), 0)
def applyL (nm : ByteArray → Bool) (mx : Int) : Edt → List Stp → Nat → Edt × Nat × Int
  | e, [], _ => (e, 0, 0)
  | e, s :: l, i =>
    if (stepL e.cs s).2 ≠ 0 then (e0, i, (stepL e.cs s).2)
    else if ediF nm mx ⟨e.rate, e.tracks, (stepL e.cs s).1⟩ ≠ 0 then (e0, i, ediF nm mx ⟨e.rate, e.tracks, (stepL e.cs s).1⟩)
    else applyL nm mx ⟨e.rate, e.tracks, (stepL e.cs s).1⟩ l (i + 1)
def applyF (nm : ByteArray → Bool) (mx : Int) (e : Edt) (l : List Stp) : Edt × Nat × Int :=
  if ediF nm mx e ≠ 0 then (e0, 0, ediF nm mx e) else if 200 < l.length then (e0, 0, 2) else applyL nm mx e l 0
end Go.Dw
/- Steps that are done are taken back by the steps that are turned: plain Lean. -/
namespace Go.Dw

/-- in order, pair by pair -/
def SrtW (l : List Cli) : Prop := l.Pairwise fun x y => cmpK x y ≤ 0
theorem Srt.tail {x : Cli} {l : List Cli} (h : Srt (x :: l)) : Srt l := fun i h0 hi hc => by
  refine h (i + 1) (by omega) (by simp; omega) ?_
  have e1 : (x :: l).getD (i + 1) dCli = l.getD i dCli := by simp [List.getD_eq_getElem?_getD]
  have e2 : (x :: l).getD (i + 1 - 1) dCli = l.getD (i - 1) dCli := by
    obtain ⟨k, rfl⟩ : ∃ k, i = k + 1 := ⟨i - 1, by omega⟩
    simp [List.getD_eq_getElem?_getD]
  rw [e1, e2]; exact hc
theorem srtW_of : ∀ {l : List Cli}, Srt l → SrtW l
  | [], _ => List.Pairwise.nil
  | [x], _ => by simp [SrtW]
  | x :: y :: l, h => by
    have ih : SrtW (y :: l) := srtW_of h.tail
    have hxy : cmpK x y ≤ 0 := by
      have h1 := h 1 (by omega) (by simp)
      have h2 : ¬ cmpK y x < 0 := h1
      rw [cmpK_neg] at h2; omega
    refine List.pairwise_cons.2 ⟨fun z hz => ?_, ih⟩
    rcases List.mem_cons.1 hz with rfl | hz
    · exact hxy
    · exact ord3_K.le x y z hxy ((List.pairwise_cons.1 ih).1 z hz)
theorem srt_of_W {l : List Cli} (h : SrtW l) : Srt l := fun i h0 hi hc => by
  have h1 := List.pairwise_iff_getElem.1 h (i - 1) i (by omega) hi (by omega)
  rw [List.getD_eq_getElem?_getD, List.getD_eq_getElem?_getD, List.getElem?_eq_getElem hi, List.getElem?_eq_getElem (by omega : i - 1 < l.length)] at hc
  simp only [Option.getD_some] at hc
  rw [cmpK_neg] at hc; omega
theorem remF_subl (c : Cli) : ∀ {l m : List Cli}, remF id c l = some m → m.Sublist l ∧ l.Perm (c :: m)
  | [], m, h => by cases h
  | y :: l, m, h => by
    rw [remF] at h
    split at h
    · rename_i h1; cases h; subst h1; exact ⟨List.sublist_cons_self _ _, List.Perm.refl _⟩
    · cases h2 : remF id c l with
      | none => rw [h2] at h; cases h
      | some m' =>
        rw [h2] at h; cases h
        obtain ⟨h3, h4⟩ := remF_subl c h2
        exact ⟨h3.cons_cons y, (h4.cons y).trans (List.Perm.swap c y m')⟩
theorem remF_mem (c : Cli) : ∀ {l : List Cli}, c ∈ l → ∃ m, remF id c l = some m
  | y :: l, h => by
    rw [remF]
    split
    · exact ⟨l, rfl⟩
    · rename_i h1
      rcases List.mem_cons.1 h with rfl | h
      · exact absurd rfl h1
      · obtain ⟨m, hm⟩ := remF_mem c h
        exact ⟨y :: m, by rw [hm]; rfl⟩
theorem remsF_subl : ∀ {cs l m : List Cli}, remsF id cs l = some m → m.Sublist l ∧ l.Perm (cs ++ m)
  | [], l, m, h => by cases h; exact ⟨List.Sublist.refl _, List.Perm.refl _⟩
  | c :: cs, l, m, h => by
    rw [remsF] at h
    cases h2 : remF id c l with
    | none => rw [h2] at h; cases h
    | some m' =>
      rw [h2] at h
      obtain ⟨h3, h4⟩ := remF_subl c h2
      obtain ⟨h5, h6⟩ := remsF_subl h
      exact ⟨h5.trans h3, h4.trans (h6.cons c)⟩
theorem remsF_perm : ∀ {cs l r : List Cli}, l.Perm (cs ++ r) → ∃ m, remsF id cs l = some m ∧ m.Perm r
  | [], l, r, h => ⟨l, rfl, h⟩
  | c :: cs, l, r, h => by
    obtain ⟨m', hm⟩ := remF_mem c (h.symm.subset (by simp) : c ∈ l)
    have h1 := (remF_subl c hm).2
    obtain ⟨m, h2, h3⟩ := remsF_perm (cs := cs) (l := m') (r := r) ((h1.symm.trans h).cons_inv)
    exact ⟨m, by rw [remsF, hm]; exact h2, h3⟩
theorem srtC_perm {l m : List Cli} (h : l.Perm m) : (srtC l).Perm m := (srt_perm id l).trans h
/-- the numbers of an edit that is right -/
theorem ediF_parts {nm : ByteArray → Bool} {mx : Int} {e : Edt} (h : ediF nm mx e = 0) : ((1 ≤ e.rate ∧ e.rate ≤ mx) ∧ 1 ≤ e.tracks ∧ e.tracks ≤ 16) ∧ e.cs.length ≤ 300 ∧ (∀ c ∈ e.cs, cliF nm e.tracks c = 0) ∧ Srt e.cs :=
  ⟨⟨(ediF_ok h).r, (ediF_ok h).t⟩, (ediF_ok h).l, ediF_cli h, ediF_srt h (fun hz => firstNZ_zer hz)⟩
theorem ediF_of {nm : ByteArray → Bool} {mx : Int} {e : Edt} (h : ((1 ≤ e.rate ∧ e.rate ≤ mx) ∧ 1 ≤ e.tracks ∧ e.tracks ≤ 16) ∧ e.cs.length ≤ 300 ∧ (∀ c ∈ e.cs, cliF nm e.tracks c = 0) ∧ Srt e.cs) : ediF nm mx e = 0 := by
  obtain ⟨⟨h1, h2, h3⟩, h4, h5, h6⟩ := h
  unfold ediF
  rw [if_neg (by omega), if_neg (by omega)]
  refine firstNZ_ok fun j hj => ?_
  unfold ediK
  have hm : e.cs.getD j dCli ∈ e.cs := by rw [List.getD_eq_getElem?_getD, List.getElem?_eq_getElem hj]; exact List.getElem_mem hj
  rw [if_neg (fun k => k (h5 _ hm)), if_neg]
  rintro ⟨k1, k2⟩
  rw [cmpK_neg] at k2
  exact h6 j k1 hj (by omega)
/-- a right edit's clips, in another order that is right, are right -/
theorem ediF_perm {nm : ByteArray → Bool} {mx r t : Int} {l m : List Cli} (h : ediF nm mx ⟨r, t, l⟩ = 0) (hp : m.Perm l) (hs : Srt m) : ediF nm mx ⟨r, t, m⟩ = 0 := by
  obtain ⟨h1, h2, h3, _⟩ := ediF_parts h
  refine ediF_of ⟨h1, ?_, fun c hc => h3 c (hp.subset hc), hs⟩
  have := hp.length_eq
  show m.length ≤ 300
  have h4 : l.length ≤ 300 := h2
  omega
theorem stepL_ok {l m : List Cli} {s : Stp} (h : stepL l s = (m, 0)) : stpF s = 0 ∧ ((s.kd = 1 ∧ m = srtC (l ++ s.cs)) ∨ (s.kd = 2 ∧ remsF id s.cs l = some m) ∨ (s.kd = 3 ∧ rngF s = 0 ∧ l.any (clsh s) = false ∧ m = srtC (l.map (shfC s.at_ s.by_)))) := by
  unfold stepL at h
  by_cases h0 : stpF s = 0
  · rw [if_neg (fun k => k h0)] at h
    refine ⟨h0, ?_⟩
    by_cases h1 : s.kd = 1
    · rw [if_pos h1] at h; left; injection h with h _; exact ⟨h1, h.symm⟩
    · rw [if_neg h1] at h
      by_cases h2 : s.kd = 2
      · rw [if_pos h2] at h
        right; left
        cases hr : remsF id s.cs l with
        | none => rw [hr] at h; injection h with _ h; omega
        | some m' => rw [hr] at h; injection h with h _; subst h; exact ⟨h2, rfl⟩
      · rw [if_neg h2] at h
        right; right
        by_cases h3 : rngF s = 0
        · rw [if_neg (fun k => k h3)] at h
          split at h
          · injection h with _ h; omega
          · rename_i h4
            injection h with h _
            refine ⟨?_, h3, by simpa using h4, h.symm⟩
            unfold stpF at h0
            rw [if_neg (by omega)] at h0
            split at h0
            · assumption
            · omega
        · rw [if_pos h3] at h; injection h with _ h; omega
  · rw [if_pos h0] at h
    injection h with _ h; exact absurd h h0
theorem rngF_ok {s : Stp} (h : rngF s = 0) : (0 ≤ s.at_ ∧ s.at_ ≤ 100000) ∧ (-100000 ≤ s.by_ ∧ s.by_ ≤ 100000) ∧ (0 ≤ s.at_ + s.by_ ∧ s.at_ + s.by_ ≤ 100000) := by
  unfold rngF at h; split at h
  · assumption
  · omega
/-- moved, and moved back -/
theorem shfC_back {s : Stp} {c : Cli} (hc : clsh s c = false) : shfC (s.at_ + s.by_) (-s.by_) (shfC s.at_ s.by_ c) = c := by
  unfold clsh at hc
  have hc := of_decide_eq_false hc
  unfold shfC
  by_cases h : s.at_ ≤ c.at_
  · rw [if_pos h, if_pos (show s.at_ + s.by_ ≤ (movC s.by_ c).at_ from by show _ ≤ c.at_ + s.by_; omega)]
    unfold movC
    simp only [Int.add_neg_cancel_right]
  · rw [if_neg h, if_neg (by omega)]
/-- a step taken back, from the clips behind it in any order -/
theorem stepL_turn {l m m' : List Cli} {s : Stp} (h : stepL l s = (m, 0)) (hp : m'.Perm m) (hs : Srt m') : ∃ l', stepL m' (turn s) = (l', 0) ∧ l'.Perm l ∧ Srt l' := by
  obtain ⟨h0, h1 | h1 | h1⟩ := stepL_ok h
  · obtain ⟨hk, rfl⟩ := h1
    have hp1 : m'.Perm (s.cs ++ l) := hp.trans ((srtC_perm (List.Perm.refl _)).trans List.perm_append_comm)
    obtain ⟨r, hr, hrp⟩ := remsF_perm hp1
    refine ⟨r, ?_, hrp, srt_of_W ((srtW_of hs).sublist (remsF_subl hr).1)⟩
    have e : turn s = ⟨2, s.cs, s.at_, s.by_⟩ := by unfold turn; rw [if_pos hk]
    have hf : stpF ⟨2, s.cs, s.at_, s.by_⟩ = 0 := by
      unfold stpF at h0 ⊢
      rw [if_pos (.inl hk)] at h0
      rw [if_pos (.inr rfl)]; exact h0
    rw [e]; unfold stepL
    rw [if_neg (fun k => k hf), if_neg (show ¬ (2 : Int) = 1 by decide), if_pos rfl]
    simp only [hr]
  · obtain ⟨hk, hr⟩ := h1
    have hp1 := (remsF_subl hr).2
    refine ⟨srtC (m' ++ s.cs), ?_, (srtC_perm (List.Perm.refl _)).trans (((hp.append_right s.cs).trans List.perm_append_comm).trans hp1.symm), srtC_srt _⟩
    have e : turn s = ⟨1, s.cs, s.at_, s.by_⟩ := by unfold turn; rw [if_neg (by omega), if_pos hk]
    have hf : stpF ⟨1, s.cs, s.at_, s.by_⟩ = 0 := by
      unfold stpF at h0 ⊢
      rw [if_pos (.inr hk)] at h0
      rw [if_pos (.inl rfl)]; exact h0
    rw [e]; unfold stepL
    rw [if_neg (fun k => k hf), if_pos rfl]
  · obtain ⟨hk, hr, hc, rfl⟩ := h1
    have hr' := rngF_ok hr
    have hc' : ∀ c ∈ l, clsh s c = false := fun c hc2 => by
      have := List.any_eq_false.1 hc c hc2; simpa using this
    have hp1 : (m'.map (shfC (s.at_ + s.by_) (-s.by_))).Perm l := by
      refine ((hp.trans (srtC_perm (List.Perm.refl _))).map _).trans ?_
      rw [List.map_map]
      have : l.map ((shfC (s.at_ + s.by_) (-s.by_)) ∘ (shfC s.at_ s.by_)) = l := by
        conv => rhs; rw [← List.map_id l]
        exact List.map_congr_left fun c hc2 => shfC_back (hc' c hc2)
      rw [this]
    refine ⟨srtC (m'.map (shfC (s.at_ + s.by_) (-s.by_))), ?_, srtC_perm hp1, srtC_srt _⟩
    have e : turn s = ⟨s.kd, s.cs, s.at_ + s.by_, -s.by_⟩ := by unfold turn; rw [if_neg (by omega), if_neg (by omega)]
    have hf : stpF ⟨s.kd, s.cs, s.at_ + s.by_, -s.by_⟩ = 0 := by
      unfold stpF at h0 ⊢
      rw [if_neg (by omega), if_pos hk] at h0
      rw [if_neg (by show ¬ (s.kd = 1 ∨ s.kd = 2); omega), if_pos hk]; exact h0
    have hg : rngF ⟨s.kd, s.cs, s.at_ + s.by_, -s.by_⟩ = 0 := by
      unfold rngF
      rw [if_pos]
      show (0 ≤ s.at_ + s.by_ ∧ s.at_ + s.by_ ≤ 100000) ∧ (-100000 ≤ -s.by_ ∧ -s.by_ ≤ 100000) ∧ (0 ≤ s.at_ + s.by_ + -s.by_ ∧ s.at_ + s.by_ + -s.by_ ≤ 100000)
      omega
    have hcl : m'.any (clsh ⟨s.kd, s.cs, s.at_ + s.by_, -s.by_⟩) = false := by
      rw [List.any_eq_false]
      intro c hc2 hx
      have hx := of_decide_eq_true hx
      simp only at hx
      obtain ⟨c0, h2, rfl⟩ := List.mem_map.1 ((hp.trans (srtC_perm (List.Perm.refl _))).subset hc2)
      have h3 := of_decide_eq_false (hc' c0 h2)
      unfold shfC at hx
      by_cases h4 : s.at_ ≤ c0.at_
      · rw [if_pos h4] at hx
        have : (movC s.by_ c0).at_ = c0.at_ + s.by_ := rfl
        omega
      · rw [if_neg h4] at hx
        omega
    rw [e]; unfold stepL
    rw [if_neg (fun k => k hf), if_neg (show ¬ s.kd = 1 by omega), if_neg (show ¬ s.kd = 2 by omega), if_neg (fun k => k hg), if_neg (by rw [hcl]; decide)]
/-- a history taken back -/
theorem applyL_turn {nm : ByteArray → Bool} {mx r t : Int} : ∀ {l : List Stp} {cs : List Cli} {i : Nat} {a : Edt} {k : Nat}, ediF nm mx ⟨r, t, cs⟩ = 0 → applyL nm mx ⟨r, t, cs⟩ l i = (a, k, 0) →
    (k = 0 ∧ a.rate = r ∧ a.tracks = t ∧ ediF nm mx a = 0 ∧ ∀ s ∈ l, stF s = 0) ∧ ∀ (m : List Cli) (j : Nat) (u : List Stp), m.Perm a.cs → Srt m → ∃ m', m'.Perm cs ∧ Srt m' ∧ applyL nm mx ⟨r, t, m⟩ (l.reverse.map turn ++ u) j = applyL nm mx ⟨r, t, m'⟩ u (j + l.length)
  | [], cs, i, a, k, he, h => by
    rw [applyL] at h
    injection h with h1 h2
    injection h2 with h2 h3
    subst h1
    exact ⟨⟨h2.symm, rfl, rfl, he, fun s hs => by cases hs⟩, fun m j u hm hs => ⟨m, hm, hs, rfl⟩⟩
  | s :: l, cs, i, a, k, he, h => by
    rw [applyL] at h
    obtain ⟨q, hq⟩ : ∃ q, stepL cs s = q := ⟨_, rfl⟩
    obtain ⟨m1, f1⟩ := q
    simp only [hq] at h
    by_cases h1 : f1 = 0
    · subst h1
      rw [if_neg (fun k => k rfl)] at h
      by_cases h2 : ediF nm mx ⟨r, t, m1⟩ = 0
      · rw [if_neg (fun k => k h2)] at h
        obtain ⟨⟨k0, k1, k2, k3, k4⟩, hb⟩ := applyL_turn h2 h
        refine ⟨⟨k0, k1, k2, k3, fun x hx => ?_⟩, fun m j u hm hs => ?_⟩
        · rcases List.mem_cons.1 hx with rfl | hx
          · obtain ⟨g0, g1⟩ := stepL_ok hq
            unfold stF
            rw [if_neg (fun k => k g0)]
            rcases g1 with g1 | g1 | g1
            · rw [if_neg (by omega)]
            · rw [if_neg (by omega)]
            · rw [if_pos g1.1]; exact g1.2.1
          · exact k4 x hx
        · obtain ⟨m2, hp2, hs2, e2⟩ := hb m j ([turn s] ++ u) hm hs
          obtain ⟨m3, h3, hp3, hs3⟩ := stepL_turn hq hp2 hs2
          refine ⟨m3, hp3, hs3, ?_⟩
          rw [List.reverse_cons, List.map_append, List.append_assoc]
          show applyL nm mx ⟨r, t, m⟩ (List.map turn l.reverse ++ ([turn s] ++ u)) j = _
          rw [e2]
          show applyL nm mx ⟨r, t, m2⟩ (turn s :: u) (j + l.length) = _
          rw [applyL]
          simp only [h3]
          rw [if_neg (fun k => k rfl), if_neg (fun k => k (ediF_perm he hp3 hs3))]
          rfl
      · rw [if_pos h2] at h
        injection h with _ h; injection h with _ h; exact absurd h h2
    · rw [if_pos h1] at h
      injection h with _ h; injection h with _ h; exact absurd h h1
theorem stF_turn {s : Stp} (h : stF s = 0) : stF (turn s) = 0 ∧ turn (turn s) = s := by
  obtain ⟨kd, cs, a, b⟩ := s
  unfold stF at h
  by_cases h0 : stpF ⟨kd, cs, a, b⟩ = 0
  · rw [if_neg (fun k => k h0)] at h
    unfold stpF at h0
    simp only at h0 h
    by_cases h1 : kd = 1
    · subst h1
      rw [if_pos (.inl rfl)] at h0
      have e : turn ⟨1, cs, a, b⟩ = ⟨2, cs, a, b⟩ := rfl
      rw [e]
      refine ⟨?_, rfl⟩
      have hf : stpF ⟨2, cs, a, b⟩ = 0 := by unfold stpF; rw [if_pos (.inr rfl)]; exact h0
      unfold stF
      rw [if_neg (fun k => k hf), if_neg (show ¬ (2 : Int) = 3 by decide)]
    · by_cases h2 : kd = 2
      · subst h2
        rw [if_pos (.inr rfl)] at h0
        have e : turn ⟨2, cs, a, b⟩ = ⟨1, cs, a, b⟩ := rfl
        rw [e]
        refine ⟨?_, rfl⟩
        have hf : stpF ⟨1, cs, a, b⟩ = 0 := by unfold stpF; rw [if_pos (.inl rfl)]; exact h0
        unfold stF
        rw [if_neg (fun k => k hf), if_neg (show ¬ (1 : Int) = 3 by decide)]
      · rw [if_neg (by omega)] at h0
        have h3 : kd = 3 := by
          split at h0
          · assumption
          · omega
        subst h3
        rw [if_pos rfl] at h0 h
        have e : turn ⟨3, cs, a, b⟩ = ⟨3, cs, a + b, -b⟩ := rfl
        have hr := rngF_ok h
        simp only at hr
        have hg : rngF ⟨3, cs, a + b, -b⟩ = 0 := by
          unfold rngF
          rw [if_pos]
          show (0 ≤ a + b ∧ a + b ≤ 100000) ∧ (-100000 ≤ -b ∧ -b ≤ 100000) ∧ (0 ≤ a + b + -b ∧ a + b + -b ≤ 100000)
          omega
        rw [e]
        refine ⟨?_, ?_⟩
        · have hf : stpF ⟨3, cs, a + b, -b⟩ = 0 := by
            unfold stpF
            rw [if_neg (show ¬ ((3 : Int) = 1 ∨ (3 : Int) = 2) by decide), if_pos rfl]; exact h0
          unfold stF
          rw [if_neg (fun k => k hf), if_pos rfl]
          exact hg
        · show (⟨3, cs, a + b + -b, - -b⟩ : Stp) = _
          rw [Int.add_neg_cancel_right, Int.neg_neg]
  · rw [if_pos h0] at h
    exact absurd h h0
theorem stpsF_of {l : List Stp} (hl : l.length ≤ 200) (h : ∀ s ∈ l, stF s = 0) : stpsF l = 0 := by
  unfold stpsF
  rw [if_neg (by omega)]
  refine firstNZ_ok fun j hj => h _ ?_
  rw [List.getD_eq_getElem?_getD, List.getElem?_eq_getElem hj]; exact List.getElem_mem hj
/-- the law of turned steps -/
theorem applyF_turn {nm : ByteArray → Bool} {mx : Int} {e a : Edt} {l : List Stp} {k : Nat} (h : applyF nm mx e l = (a, k, 0)) :
    turnedF l = (l.reverse.map turn, 0) ∧ (∃ b, applyF nm mx a (l.reverse.map turn) = (b, 0, 0) ∧ b.rate = e.rate ∧ b.tracks = e.tracks ∧ SmC b.cs e.cs) ∧ turnedF (l.reverse.map turn) = (l, 0) := by
  unfold applyF at h
  by_cases h0 : ediF nm mx e = 0
  · rw [if_neg (fun k => k h0)] at h
    by_cases h1 : 200 < l.length
    · rw [if_pos h1] at h; injection h with _ h; injection h with _ h; omega
    · rw [if_neg h1] at h
      obtain ⟨r, t, cs⟩ := e
      obtain ⟨⟨k0, k1, k2, k3, k4⟩, hb⟩ := applyL_turn h0 h
      have hl : l.length ≤ 200 := by omega
      have hlr : (l.reverse.map turn).length = l.length := by simp
      refine ⟨?_, ?_, ?_⟩
      · unfold turnedF
        rw [if_neg (fun k => k (stpsF_of hl k4))]
      · obtain ⟨r', t', as_⟩ := a
        obtain rfl : r' = r := k1
        obtain rfl : t' = t := k2
        obtain ⟨m, hp, hs, e1⟩ := hb as_ 0 [] (List.Perm.refl _) (ediF_parts k3).2.2.2
        refine ⟨⟨r', t', m⟩, ?_, rfl, rfl, hp, hs, (ediF_parts h0).2.2.2⟩
        unfold applyF
        rw [if_neg (fun k => k k3), if_neg (by omega)]
        rw [List.append_nil] at e1
        rw [e1]; rfl
      · unfold turnedF
        rw [if_neg (fun k => k (stpsF_of (by omega) (fun s hs => by
          obtain ⟨z, hz, rfl⟩ := List.mem_map.1 hs
          exact (stF_turn (k4 z (List.mem_reverse.1 hz))).1)))]
        rw [← List.map_reverse, List.reverse_reverse, List.map_map]
        have : l.map (turn ∘ turn) = l := by
          conv => rhs; rw [← List.map_id l]
          exact List.map_congr_left fun s hs => (stF_turn (k4 s hs)).2
        rw [this]
  · rw [if_pos h0] at h
    injection h with _ h; injection h with _ h; exact absurd h h0
end Go.Dw
/- Steps as cells. -/
namespace Go.Dw
open Go.RowKit

structure StpM where
  kd : Int
  cs : Slc CliM
  at_ : Int
  by_ : Int
def StpM.cells (s : StpM) : List Value := [.int .i64 s.kd, s.cs.v, .int .i64 s.at_, .int .i64 s.by_]
def StpM.v (s : StpM) : Value := .agg #[.int .i64 s.kd, s.cs.v, .int .i64 s.at_, .int .i64 s.by_]
def StpM.x (s : StpM) : Stp := ⟨s.kd, s.cs.xs.map CliM.x, s.at_, s.by_⟩
structure StpOk (w : World) (s : StpM) : Prop where
  kd : inI64 s.kd
  at_ : inI64 s.at_
  by_ : inI64 s.by_
  cl : s.cs.xs.length ≤ 9223372036854775807
  cr : Rd w s.cs.a (s.cs.xs.flatMap CliM.cs)
  co : ∀ c ∈ s.cs.xs, CliOk w c
theorem StpOk.below {w w' : World} {s : StpM} (h : StpOk w s) (hb : Below w.heap.size w w') : StpOk w' s := ⟨h.kd, h.at_, h.by_, h.cl, h.cr.below hb, fun c hc => (h.co c hc).below hb⟩
/-- a list of steps in memory -/
structure StsOk (w : World) (l : Slc StpM) : Prop where
  n : l.xs.length ≤ 9223372036854775807
  r : Rd w l.a (l.xs.flatMap StpM.cells)
  o : ∀ s ∈ l.xs, StpOk w s
theorem StsOk.below {w w' : World} {l : Slc StpM} (h : StsOk w l) (hb : Below w.heap.size w w') : StsOk w' l := ⟨h.n, h.r.below hb, fun s hs => (h.o s hs).below hb⟩
theorem stp_at {w : World} {A : Option Addr} {xs : List StpM} (h : Rd w A (xs.flatMap StpM.cells)) (hn : 0 < xs.length) :
    ∃ b off, A = some ⟨b, off, none⟩ ∧ b < w.heap.size ∧ ∀ k (hk : k < xs.length), w.cell? ⟨b, off + k * 4, none⟩ = some (.int .i64 xs[k].kd) ∧ w.cell? ⟨b, off + k * 4 + 1, none⟩ = some (.slice xs[k].cs.a xs[k].cs.xs.length xs[k].cs.c) ∧ w.cell? ⟨b, off + k * 4 + 2, none⟩ = some (.int .i64 xs[k].at_) ∧ w.cell? ⟨b, off + k * 4 + 3, none⟩ = some (.int .i64 xs[k].by_) := by
  obtain ⟨b, off, e, hb, hc⟩ := h.at_ (by rw [flat_len StpM.cells 4 (fun _ => rfl)]; omega)
  have hk4 : ∀ k (hk : k < xs.length) i, i < 4 → (xs.flatMap StpM.cells)[k * 4 + i]? = (xs[k].cells)[i]? := fun k hk i hi => flat_get StpM.cells 4 (fun _ => rfl) xs k i hk hi
  have key : ∀ k (hk : k < xs.length) i u, i < 4 → (xs[k].cells)[i]? = some u → w.cell? ⟨b, off + (k * 4 + i), none⟩ = some u := fun k hk i u hi hu => hc (k * 4 + i) u (by rw [hk4 k hk i hi]; exact hu)
  refine ⟨b, off, e, hb, fun k hk => ⟨key k hk 0 _ (by omega) rfl, ?_, ?_, ?_⟩⟩
  · rw [Nat.add_assoc]; exact key k hk 1 _ (by omega) rfl
  · rw [Nat.add_assoc]; exact key k hk 2 _ (by omega) rfl
  · rw [Nat.add_assoc]; exact key k hk 3 _ (by omega) rfl
end Go.Dw
/- Readings whose bulk is bounded: as XDec, with lengths bounded. -/
namespace Go.Proofs.YteaghgbpcpileaaGreatDoor
open Go.RowKit Go.ChangeShapes Go.WideShapes Go.Dw

section
variable {H : Type} {enc : TypeId × Value → H} {P : Program} {w : World} {B : Nat}
/-- every reading at type t of bulk at most B is that of an α -/
def DecB {H : Type} (B : Nat) (enc : TypeId × Value → H) (P : Program) (w : World) (t : TypeId) {α : Type} (cells : α → List Value) (ok : α → Prop) : Prop :=
  ∀ (fuel : Nat) (cs : List Value) (x : DataW H × List MemPlace), DataW.trod enc P w 0 (fun _ => true) true fuel t cs = some x → Rows.uptoBulk x.1 ≤ B → ∃ a, cs = cells a ∧ ok a
theorem DecB.of {t : TypeId} {α : Type} {cells : α → List Value} {ok : α → Prop} (d : Dec enc P w t cells ok) : DecB B enc P w t cells ok := fun fuel cs x h _ => d fuel cs x h
theorem DecB.map {t : TypeId} {α β : Type} {cells : α → List Value} {ok : α → Prop} {cells' : β → List Value} {ok' : β → Prop} (d : DecB B enc P w t cells ok) (f : α → β)
    (hc : ∀ a, cells a = cells' (f a)) (ho : ∀ a, ok a → ok' (f a)) : DecB B enc P w t cells' ok' := by
  intro fuel cs x h hb
  obtain ⟨a, rfl, hk⟩ := d fuel cs x h hb
  exact ⟨f a, hc a, ho a hk⟩
theorem bulk_pos (d : DataW H) : 1 ≤ Rows.uptoBulk d := by
  cases d with
  | lit l => cases l <;> simp [Rows.uptoBulk]
  | _ => simp [Rows.uptoBulk]
theorem bulk_mem {d : DataW H} : ∀ {l : List (DataW H)}, d ∈ l → Rows.uptoBulk d ≤ Rows.uptoBulkAll l
  | x :: l, h => by
    rw [Rows.uptoBulkAll]
    rcases List.mem_cons.1 h with rfl | h
    · omega
    · have := bulk_mem h; omega
theorem bulk_len : ∀ (l : List (DataW H)), l.length ≤ Rows.uptoBulkAll l
  | [] => by simp
  | x :: l => by
    rw [Rows.uptoBulkAll, List.length_cons]
    have := bulk_len l
    have := bulk_pos x
    omega
theorem DecB.slice {t e : TypeId} {α : Type} {cells : α → List Value} {ok : α → Prop} (s : Nat) (ht : P.underlying t = some (.slice e)) (hE : P.cellsOf e = s) (hs : ∀ a, (cells a).length = s) (hs0 : 0 < s)
    (d : DecB B enc P w e cells ok) : DecB B enc P w t (fun l : Slc α => [l.v]) (fun l => (l.xs.length ≤ maxLen ∧ Rd w l.a (l.xs.flatMap cells) ∧ ∀ a ∈ l.xs, ok a) ∧ l.xs.length ≤ B) := by
  intro fuel cs x h hB
  rcases Deep.open_slice ht h with ⟨rfl, _⟩ | ⟨a, len, cap, m, n, D, Pl, rfl, hb, hl, hm, hmm, hx, hi⟩
  · exact ⟨⟨none, 0, []⟩, rfl, ⟨by simp, .inl rfl, by simp⟩, by simp⟩
  · simp at hmm
    rw [hE] at hi
    rw [hx] at hB
    simp only [Rows.uptoBulk] at hB
    have hln := bulk_len ((List.range len).map D)
    rw [List.length_map, List.length_range] at hln
    have hget : ∀ i, i < len → ∃ b, (w.cells? 0 (a.add (i * s)) s).getD [] = cells b ∧ ok b := by
      intro i hil
      obtain ⟨cs', h1, h2⟩ := hi i (by omega)
      have hbi : Rows.uptoBulk (D i) ≤ Rows.uptoBulkAll ((List.range len).map D) := bulk_mem (List.mem_map_of_mem (List.mem_range.2 hil))
      obtain ⟨b, hb1, hb2⟩ := d n cs' _ h2 (by show Rows.uptoBulk (D i) ≤ B; omega)
      exact ⟨b, by rw [h1]; exact hb1, hb2⟩
    obtain ⟨l, hlen, hok, hcs⟩ := list_of cells ok s len _ hget
    refine ⟨⟨some a, cap, l⟩, by simp [Slc.v, hlen], ⟨by simp [hlen]; omega, ?_, hok⟩, by simp [hlen]; omega⟩
    show Rd w (some a) (l.flatMap cells)
    by_cases h0 : len = 0
    · left
      have : l = [] := List.eq_nil_of_length_eq_zero (by omega)
      simp [this]
    · obtain ⟨b, off, spot⟩ := a
      obtain ⟨cs0, h1, h2⟩ := hi 0 (by omega)
      obtain ⟨_, hcl, hat⟩ := World.cells?_some h1
      have h0' := hat 0 hs0
      have hcl' : cs0.length = s := hcl
      have hsome : ∃ u, cs0[0]? = some u := ⟨cs0[0]'(by omega), List.getElem?_eq_getElem (by omega)⟩
      obtain ⟨u0, hu0⟩ := hsome
      rw [hu0] at h0'
      have hspot : spot = none := by simpa [Addr.add] using World.cell?_spot h0'
      subst hspot
      have hblt : b < w.heap.size := by simpa [Addr.add] using World.block_lt_of_cell? w _ h0'
      refine .inr ⟨b, off, rfl, hblt, fun j u hu => ?_⟩
      obtain ⟨i, k, c, rfl, hk, hli, hck⟩ := flat_at cells s hs hs0 l j u hu
      have hil : i < len := by have := (List.getElem?_eq_some_iff.1 hli).1; omega
      obtain ⟨cs', h3, h4⟩ := hi i (by omega)
      obtain ⟨_, _, hat'⟩ := World.cells?_some h3
      have h5 := hcs i c hli
      rw [h3] at h5
      have h6 := hat' k hk
      have hadd : ((⟨b, off, none⟩ : Addr).add (i * s)).add k = ⟨b, off + (i * s + k), none⟩ := by
        unfold Addr.add
        by_cases e1 : i * s = 0 <;> by_cases e2 : k = 0 <;> simp [e1, e2] <;> omega
      rw [hadd] at h6
      rw [h6]
      simp at h5
      rw [h5]; exact hck
/-- the fields from a place on -/
def DecBS {H : Type} (B : Nat) (enc : TypeId × Value → H) (P : Program) (w : World) (off : Nat) (fl : List (TypeId × Nat × Nat)) {α : Type} (cells : α → List Value) (ok : α → Prop) (tot : Nat) : Prop :=
  ∀ (n : Nat) (cs : List Value), off + tot ≤ cs.length → (∀ e ∈ fl, ∃ y, DataW.trod enc P w 0 (fun _ => true) true n e.1 ((cs.drop e.2.1).take e.2.2) = some y ∧ Rows.uptoBulk y.1 ≤ B) → ∃ a, (cs.drop off).take tot = cells a ∧ ok a
theorem DecBS.nil {off : Nat} : DecBS B enc P w off [] (fun _ : Unit => []) (fun _ => True) 0 := fun _ _ _ _ => ⟨(), by simp, trivial⟩
theorem DecBS.cons {off s tot t : Nat} {fl : List (TypeId × Nat × Nat)} {α β : Type} {c0 : α → List Value} {k0 : α → Prop} {c1 : β → List Value} {k1 : β → Prop} (d : DecB B enc P w t c0 k0) (r : DecBS B enc P w (off + s) fl c1 k1 tot) :
    DecBS B enc P w off ((t, off, s) :: fl) (fun p : α × β => c0 p.1 ++ c1 p.2) (fun p => k0 p.1 ∧ k1 p.2) (s + tot) := by
  intro n cs hl h
  obtain ⟨y, hy, hyb⟩ := h (t, off, s) (by simp)
  obtain ⟨a, ha, hka⟩ := d n _ _ hy hyb
  obtain ⟨b, hb, hkb⟩ := r n cs (by omega) (fun e he => h e (by simp [he]))
  refine ⟨(a, b), ?_, hka, hkb⟩
  show _ = c0 a ++ c1 b
  rw [← ha, ← hb, List.take_add, List.drop_drop]
theorem DecB.struct {t tot : TypeId} {fs : Array Field} {fl : List (TypeId × Nat × Nat)} {α : Type} {cells : α → List Value} {ok : α → Prop} (ht : P.underlying t = some (.struct fs)) (hc : P.cellsOf t = tot)
    (hf : fs.toList.map (fun f => (f.type, f.offset, P.cellsOf f.type)) = fl) (r : DecBS B enc P w 0 fl cells ok tot) : DecB B enc P w t cells ok := by
  intro fuel cs x h hB
  obtain ⟨xs, n, _, hx, hlen, hxl, hg⟩ := DataW.trod_struct ht h
  rw [hx] at hB
  simp only [Rows.uptoBulk] at hB
  obtain ⟨a, ha, hk⟩ := r n cs (by omega) (fun e he => by
    rw [← hf, List.mem_map] at he
    obtain ⟨f, hfm, rfl⟩ := he
    obtain ⟨i, hi, rfl⟩ := List.getElem_of_mem hfm
    have hi' : i < fs.size := by simpa using hi
    have h1 := hg i fs[i] (by simp [hi'])
    have hxi : i < xs.length := by omega
    refine ⟨xs[i], ?_, ?_⟩
    · have h2 : fs.toList[i] = fs[i] := by simp
      rw [h2]
      exact h1.trans (List.getElem?_eq_getElem hxi)
    · have := bulk_mem (d := xs[i].1) (l := xs.map (·.1)) (List.mem_map_of_mem (List.getElem_mem hxi))
      omega)
  refine ⟨a, ?_, hk⟩
  rw [← ha, List.drop_zero, List.take_of_length_le (by omega)]
theorem DecB.arg {t : TypeId} {α : Type} {cells : α → List Value} {ok : α → Prop} (d : DecB B enc P w t cells ok) {v : Value} {d0 : DataW H} {p : List MemPlace} (h : DataW.Trod enc P w 0 (fun _ => true) true t v d0 p) (hB : Rows.uptoBulk d0 ≤ B) : ∃ a, v.cells.toList = cells a ∧ ok a := by
  obtain ⟨fuel, hf⟩ := h
  exact d _ _ _ hf hB
theorem DecB.arg_slice {t e : TypeId} {α : Type} {ok : Slc α → Prop} {r : Reach} {b0 : Nat} (d : DecB B enc P w t (fun l : Slc α => [l.v]) ok) (ht : P.underlying t = some (.slice e)) {v : Value} {d0 : DataW H} {p : List MemPlace}
    (hv : Value.okWide P w r b0 t v) (h : DataW.Trod enc P w 0 (fun _ => true) true t v d0 p) (hB : Rows.uptoBulk d0 ≤ B) : ∃ x, v = x.v ∧ ok x := by
  obtain ⟨a, len, cap, rfl⟩ := okWide_slice ht hv
  obtain ⟨x, hx, hk⟩ := d.arg h hB
  simp [Value.cells] at hx
  exact ⟨x, hx, hk⟩
end
end Go.Proofs.YteaghgbpcpileaaGreatDoor
/- How steps that came in read, with their lengths bounded. -/
namespace Go.Proofs.YteaghgbpcpileaaGreatDoor
open Go.RowKit Go.Dw

/-- what is known of a step of small bulk -/
structure StpB (B : Nat) (w : World) (s : StpM) : Prop where
  o : StpOk w s
  n : s.cs.xs.length ≤ B
  e : ∀ c ∈ s.cs.xs, c.e.xs.length ≤ B
structure StsB (B : Nat) (w : World) (l : Slc StpM) : Prop where
  n : l.xs.length ≤ 9223372036854775807
  r : Rd w l.a (l.xs.flatMap StpM.cells)
  o : ∀ s ∈ l.xs, StpB B w s
theorem StpB.below {B : Nat} {w w' : World} {s : StpM} (h : StpB B w s) (hb : Below w.heap.size w w') : StpB B w' s := ⟨h.o.below hb, h.n, h.e⟩
theorem StsB.below {B : Nat} {w w' : World} {l : Slc StpM} (h : StsB B w l) (hb : Below w.heap.size w w') : StsB B w' l := ⟨h.n, h.r.below hb, fun s hs => (h.o s hs).below hb⟩
section
variable {H : Type} {enc : TypeId × Value → H} {w : World} {B : Nat}
end
end Go.Proofs.YteaghgbpcpileaaGreatDoor
/- Steps turned, as cells: what both Turned answer. -/
namespace Go.Proofs.YteaghgbpcpileaaGreatDoor
open Go.RowKit Go.Dw

def turM (s : StpM) : StpM := if s.kd = 1 then ⟨2, s.cs, s.at_, s.by_⟩ else if s.kd = 2 then ⟨1, s.cs, s.at_, s.by_⟩ else ⟨s.kd, s.cs, s.at_ + s.by_, -s.by_⟩
/-- a step that is right -/
theorem stF_kd {s : Stp} (h : stF s = 0) : (s.kd = 1 ∨ s.kd = 2 ∨ s.kd = 3) ∧ (s.kd = 3 → (0 ≤ s.at_ ∧ s.at_ ≤ 100000) ∧ (-100000 ≤ s.by_ ∧ s.by_ ≤ 100000) ∧ (0 ≤ s.at_ + s.by_ ∧ s.at_ + s.by_ ≤ 100000)) := by
  unfold stF at h
  by_cases h0 : stpF s = 0
  · rw [if_neg (fun k => k h0)] at h
    refine ⟨?_, fun h3 => by rw [if_pos h3] at h; exact rngF_ok h⟩
    unfold stpF at h0
    split at h0
    · omega
    · split at h0
      · omega
      · omega
  · rw [if_pos h0] at h; exact absurd h h0
/-- what Turned answers -/
def TurR (B : Nat) (q : List Stp × Int) (w : World) (e : Ending) (w' : World) : Prop :=
  Gq w w' ∧ ∃ l : Slc StpM, e = .returned (.tuple #[l.v, .int .i64 q.2]) ∧ l.xs.map StpM.x = q.1 ∧ StsB B w' l
theorem turR_bad {B : Nat} {q : List Stp × Int} {f : Int} {w w' : World} (hq : q = ([], f)) (hb : Gq w w') : TurR B q w (.returned (.tuple #[.slice none 0 0, .int .i64 f])) w' := by
  subst hq
  exact ⟨hb, ⟨none, 0, []⟩, rfl, rfl, by simp, .inl rfl, fun s hs => by simp at hs⟩
theorem stsF_all {L : List StpM} (h : stpsF (L.map StpM.x) = 0) : L.length ≤ 200 ∧ ∀ s ∈ L, stF s.x = 0 := by
  unfold stpsF at h
  split at h
  · omega
  · rename_i h1
    refine ⟨by rw [List.length_map] at h1; omega, fun s hs => ?_⟩
    obtain ⟨j, hj, rfl⟩ := List.getElem_of_mem hs
    have h2 := firstNZ_zer h j (by rw [List.length_map]; exact hj)
    rw [List.getD_eq_getElem?_getD, List.getElem?_map, List.getElem?_eq_getElem hj] at h2
    exact h2
theorem infoStp : (Tryz.prog.info? 60).map (fun i => (i.zero, i.size, i.bytes)) = some (some (.agg #[.int .i64 0, .slice none 0 0, .int .i64 0, .int .i64 0]), 4, 48) := by kernel_rfl
end Go.Proofs.YteaghgbpcpileaaGreatDoor
