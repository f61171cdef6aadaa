/- slices.Sort and slices.Compact at a row of integers of the call's own. -/
import Derived.Test.YtlmgdofhmgpljaaShSwp
import Derived.Test.YtlmgdofhmgpljaaSwpA
import Derived.Sort.OwnSortedInts
namespace Go.Proofs.Ytlmgdofhmgpljaa
open Go.RowKit Go.Dw Go.Sort

theorem sort_own (base : Nat) (v : Value) (xs : List Int) (w : World) (hbase : base ≤ w.heap.size) (hl : xs.length ≤ 1000000) (hown : w.ownsRow base 3 1 v xs.length (ic xs)) :
    Calls Try.prog 27 #[v] w fun e w' => e = .returned (.tuple #[]) ∧ w'.ownsRow base 3 1 v xs.length (ic (xs.mergeSort fun x y => decide (x ≤ y))) ∧ Below base w w' := by
  rcases hown.2 with ⟨rfl, h0⟩ | ⟨g, cap, cur, rfl, hb, hg, hn, hm, hs, ht⟩
  · have hx : xs = [] := List.eq_nil_of_length_eq_zero h0
    subst hx
    refine (Any.slices_Sort_int_none Try.lays189 none 0 w).mono ?_
    rintro e w' ⟨rfl, rfl⟩
    exact ⟨rfl, ⟨by simp [ic], .inl ⟨rfl, rfl⟩⟩, Below.refl _ _⟩
  · have hH : Holds (Value.int .i64) w g 0 xs.toArray := holds_of_blockI hg (by rw [Nat.mul_one] at ht; exact ht)
    have hlt : g < w.heap.size := (Array.getElem?_eq_some_iff.1 hg).1
    refine (Any.slices_Sort_int Try.lays189 g 0 cap xs w hH hlt (by omega)).mono ?_
    rintro e w' ⟨rfl, n, os, rfl⟩
    refine ⟨rfl, ownsRow_sortedI (by rw [List.length_mergeSort]) hb hg hn hm hs, ?_⟩
    exact (Below.refl base w).grown (grownBy_sortedI _) hbase (fun k hk => by injection hk with hk; omega)
theorem compact_own (base : Nat) (v : Value) (xs : List Int) (w : World) (hbase : base ≤ w.heap.size) (hl : xs.length ≤ 1000000) (hown : w.ownsRow base 3 1 v xs.length (ic xs)) :
    Calls Try.prog 28 #[v] w fun e w' => ∃ A c, e = .returned (.slice A (Lib.compact xs).length c) ∧ Rd w' A (ic (Lib.compact xs)) ∧ Below base w w' := by
  rcases hown.2 with ⟨rfl, h0⟩ | ⟨g, cap, cur, rfl, hb, hg, hn, hm, hs, ht⟩
  · have hx : xs = [] := List.eq_nil_of_length_eq_zero h0
    subst hx
    refine (Any.slices_Compact_int_empty Try.lays2_20 none 0 w).mono ?_
    rintro e w' ⟨rfl, rfl⟩
    exact ⟨none, 0, rfl, .inl rfl, Below.refl _ _⟩
  · have hH : Holds (Value.int .i64) w g 0 xs.toArray := holds_of_blockI hg (by rw [Nat.mul_one] at ht; exact ht)
    have hlt : g < w.heap.size := (Array.getElem?_eq_some_iff.1 hg).1
    refine (Any.slices_Compact_int Try.lays2_20 g 0 cap xs w hH (by omega) hn).mono ?_
    rintro e w' ⟨rfl, n, rfl⟩
    have hgr := grownBy_sortedI (w := w) (g := g) (n := n) (os := #[]) (Lib.compact xs ++ List.replicate (xs.length - (Lib.compact xs).length) 0).toArray
    have hhp := heap_sortedI (w := w) (g := g) (n := n) (os := #[]) (Lib.compact xs ++ List.replicate (xs.length - (Lib.compact xs).length) 0).toArray hg
    have hle : (Lib.compact xs).length ≤ xs.length := by
      unfold Lib.compact Lib.compactUpTo
      rw [List.length_map]
      exact Nat.le_trans (List.length_filter_le _ _) (by simp)
    have egr : ∀ W : World, grow W #[] = W := fun W => by simp [grow]
    rw [egr] at hgr hhp
    refine ⟨some ⟨g, 0, none⟩, cap, rfl, ?_, (Below.refl base w).grown hgr hbase (fun k hk => by injection hk with hk; omega)⟩
    refine .inr ⟨g, 0, rfl, Nat.lt_of_lt_of_le hlt hgr.size, fun j u hu => ?_⟩
    rw [Nat.zero_add, cell_of_row _ g j _ _ _ hhp]
    have hj : j < (Lib.compact xs).length := by
      have := (List.getElem?_eq_some_iff.1 hu).1
      simpa [ic] using this
    have h2 := take_putCellsI cur (Lib.compact xs ++ List.replicate (xs.length - (Lib.compact xs).length) 0) (by rw [List.length_append, List.length_replicate]; omega)
    have h3 : (((putCells (Value.int .i64) 0 (Lib.compact xs ++ List.replicate (xs.length - (Lib.compact xs).length) 0).toArray cur).toList.take (Lib.compact xs ++ List.replicate (xs.length - (Lib.compact xs).length) 0).length)[j]? = ((Lib.compact xs ++ List.replicate (xs.length - (Lib.compact xs).length) 0).map (Value.int .i64))[j]?) := by rw [h2]
    rw [List.getElem?_take_of_lt (by rw [List.length_append]; omega), Array.getElem?_toList] at h3
    rw [h3, ← hu]
    rw [List.map_append, List.getElem?_append_left (by rw [List.length_map]; exact hj)]; rfl
end Go.Proofs.Ytlmgdofhmgpljaa
