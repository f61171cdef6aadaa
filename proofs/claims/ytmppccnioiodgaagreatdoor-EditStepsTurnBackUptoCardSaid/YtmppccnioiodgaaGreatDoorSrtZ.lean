/- Several texts laid into one: slices.SortFunc's worlds in plain words: a row of the call's own behind a sort; whatever program; Worlds with new blocks alone; -/
import Derived.Test.YtmppccnioiodgaaGreatDoorDec
import Derived.Shelf.SlSortCmp.WholeK
/- slices.SortFunc's worlds in plain words: a row of the call's own behind a sort; whatever program. -/
namespace Go.Dw
open Go.RowKit Go.Sort Go.Proofs
section
variable {α : Type} [Inhabited α] {enc : α → List Value} {k : Nat}
theorem flat_bang (hk : ∀ x, (enc x).length = k) (l : List α) (j : Nat) (hj : j < l.length * k) : (l.flatMap enc)[j]? = some ((flatK enc k l.toArray)[j]!) := by
  have hk0 : 0 < k := by
    rcases Nat.eq_zero_or_pos k with h | h
    · subst h; simp at hj
    · exact h
  have hd : j / k < l.length := Nat.div_lt_of_lt_mul (by rw [Nat.mul_comm]; exact hj)
  have hm : j % k < k := Nat.mod_lt _ hk0
  have h := flat_get enc k hk l (j / k) (j % k) hd hm
  rw [Nat.div_add_mod'] at h
  rw [h, get_flatK _ _ _ _ (by simpa using hj)]
  have e1 : l.toArray[j / k]! = l[j / k] := by simp [hd]
  rw [e1]
  have hl := hk l[j / k]
  rw [List.getElem?_eq_getElem (by omega)]
  simp [List.getElem!_eq_getElem?_getD, List.getElem?_eq_getElem (show j % k < (enc l[j / k]).length by omega)]
theorem holdsK_of_own {w : World} {base e g n cap : Nat} {l : List α} (hk : ∀ x, (enc x).length = k) (h : w.ownsRow base e k (.slice (some ⟨g, 0, none⟩) n cap) n (l.flatMap enc)) (_ : l.length = n) : HoldsK enc k w g 0 l.toArray := by
  rcases h.2 with ⟨h0, _⟩ | ⟨g', cap', cur, hv, _, hg, h4, _, h6, h7⟩
  · injection h0 with h0; cases h0
  · injection hv with e1 e2 e3
    injection e1 with e1
    injection e1 with e1
    subst e1 e3
    intro j hj
    rw [size_flatK] at hj
    have hj' : j < l.length * k := by simpa using hj
    have hf := flat_bang hk l j hj'
    rw [← h7, List.getElem?_take] at hf
    split at hf
    · refine ⟨?_, by simp [World.frozen?, hg]⟩
      have hf2 : cur[j]? = some ((flatK enc k l.toArray)[j]!) := by simpa using hf
      simp [World.cell?, hg, hf2]
    · cases hf
theorem rd_of_holdsK {w : World} {g : Nat} {l : List α} (hk : ∀ x, (enc x).length = k) (hg : g < w.heap.size) (h : HoldsK enc k w g 0 l.toArray) : Rd w (some ⟨g, 0, none⟩) (l.flatMap enc) := by
  refine .inr ⟨g, 0, rfl, hg, fun j u hu => ?_⟩
  have hj : j < l.length * k := by
    have := (List.getElem?_eq_some_iff.1 hu).1
    rwa [flat_len enc k hk] at this
  rw [flat_bang hk l j hj] at hu
  have := (h j (by rw [size_flatK]; simpa using hj)).1
  rw [this]; exact hu
theorem below_sort {w : World} {B g m : Nat} {d : Array α} {os : Array Obj} (hB : B ≤ g) (hg : g < w.heap.size) : Below B w (sortWorldK enc k w g 0 m d os) := by
  refine ⟨rfl, rfl, rfl, ?_, fun j hj => ?_⟩
  · simp [sortWorldK, putRowK, Go.Sort.size_putRow]
  · unfold sortWorldK
    by_cases hjs : j < w.heap.size
    · rw [heap_grow_old _ _ (by rw [putRowK, Go.Sort.size_putRow]; exact hjs)]
      simp only [putRowK, putRow, mapBlock, Array.getElem?_modify]
      rw [if_neg (by omega)]; rfl
    · omega
/-- a row behind a sort -/
def SrtK (lt : α → α → Bool) (enc : α → List Value) (w : World) (B : Nat) (A : Option Addr) (l : List α) (w' : World) : Prop :=
  ∃ l' : List α, l'.Perm l ∧ l'.Pairwise (fun x y => lt y x = false) ∧ Rd w' A (l'.flatMap enc) ∧ Below B w w'
theorem srtK_of {lt : α → α → Bool} {w : World} {B g m : Nat} {l : List α} {d' : Array α} {os : Array Obj} (hk : ∀ x, (enc x).length = k) (hg : g < w.heap.size) (hB : B ≤ g) (hH : HoldsK enc k w g 0 l.toArray)
    (hp : PermIn 0 l.toArray.size l.toArray d') (hs : SortedIn lt 0 l.toArray.size d') : SrtK lt enc w B (some ⟨g, 0, none⟩) l (sortWorldK enc k w g 0 m d' os) := by
  obtain ⟨p1, _, p3⟩ := hp
  have e1 : d'.extract 0 l.toArray.size = d' := by rw [← p1]; simp
  have e2 : l.toArray.extract 0 l.toArray.size = l.toArray := by simp
  rw [e1, e2] at p3
  refine ⟨d'.toList, by simpa using p3, ?_, ?_, below_sort hB hg⟩
  · rw [List.pairwise_iff_getElem]
    intro i j hi hj hij
    have h1 := hs i j (Nat.zero_le _) hij (by rw [← p1]; simpa using hj)
    rwa [getElem!_pos d' i (by simpa using hi), getElem!_pos d' j (by simpa using hj)] at h1
  · refine rd_of_holdsK hk ?_ ?_
    · exact Nat.lt_of_lt_of_le hg (by simp [sortWorldK, putRowK, Go.Sort.size_putRow])
    · have := holdsK_sortWorldK_c enc k w g 0 l.toArray d' m os hH hg p1
      simpa using this
/-- blocks behind a world -/
def Grw (W W' : World) : Prop := ∃ q os, W' = grow (W.drewN q) os
theorem Grw.refl (W : World) : Grw W W := ⟨0, #[], by simp [World.drewN]⟩
theorem Grw.alloc {W W' : World} (h : Grw W W') (o : Obj) : Grw W (W'.alloc o) := by
  obtain ⟨q, os, rfl⟩ := h
  exact ⟨q, os ++ #[o], by rw [alloc_eq_grow, grow_grow]⟩
theorem Grw.drewN {W W' : World} (h : Grw W W') (n : Nat) : Grw W (W'.drewN n) := by
  obtain ⟨q, os, rfl⟩ := h
  exact ⟨q + n, os, by simp [World.drewN, grow, Nat.add_assoc]⟩
theorem Grw.drew {W W' : World} (h : Grw W W') : Grw W W'.drew := h.drewN 1
end
end Go.Dw
/- Worlds with new blocks alone. -/
namespace Go.Proofs.YtmppccnioiodgaaGreatDoor
open Go.RowKit Go.Dw Go.Sort

theorem Grw.trans {a b c : World} (h : Grw a b) (k : Grw b c) : Grw a c := by
  obtain ⟨q, os, rfl⟩ := h
  obtain ⟨q2, os2, rfl⟩ := k
  exact ⟨q + q2, os ++ os2, by simp [World.drewN, grow, Nat.add_assoc]⟩
theorem Grw.below {a b : World} (h : Grw a b) : Below a.heap.size a b := by
  obtain ⟨q, os, rfl⟩ := h
  refine ⟨rfl, rfl, rfl, by simp [grow, World.drewN], fun j hj => ?_⟩
  rw [heap_grow_old _ _ (by simpa [World.drewN] using hj)]; rfl
def Gr (a b : World) : Prop := Grw a b
end Go.Proofs.YtmppccnioiodgaaGreatDoor
