/- What holds while (*chooser).fill runs. -/
import Derived.Test.YtdgkchdobmhpnaaChooseP
namespace Go.Proofs.Ytdgkchdobmhpnaa
open Go.RowKit Go.Dw

def kCells (T : Nat) (pv : Value) (cost : Int) (M : Nat) (bv : Value) : List Value := [.int .i64 T, pv, .int .i64 cost, .int .i64 M, bv]
/-- the chooser lies in block KB; the tables from lo on are done; H: the block of the outer row; all that is known lies below block B -/
def Inv (w0 : World) (KB n T M : Nat) (cost : Int) (pv : Value) (pts : List (List Int)) (lo B : Nat) (arr : List Value) (wr : World) : Prop :=
  w0.grownBy wr (some KB) ∧ w0.heap.size < B ∧ B ≤ wr.heap.size ∧ Blk wr KB 64 (kCells T pv cost M (.slice (some ⟨w0.heap.size, 0, none⟩) n n)) ∧
  RdIIs (fun b => b < w0.heap.size ∧ b ≠ KB) wr pv pts ∧ Blk wr w0.heap.size 39 arr ∧ arr.length = n ∧
  ∀ s, lo ≤ s → ∀ (h : s < arr.length), RdIIs (fun b => w0.heap.size < b ∧ b < B) wr arr[s] (tb T M cost pts s)
section
variable {w0 wr wr' : World} {KB n T M : Nat} {cost : Int} {pv : Value} {pts : List (List Int)} {lo B : Nat} {arr : List Value}
theorem grown_trans' {a b c : World} {r : Option Nat} (h : a.grownBy b r) (k : Below a.heap.size b c) : a.grownBy c r :=
  ⟨k.os.trans h.os, k.tape.trans h.tape, k.output.trans h.output, Nat.le_trans h.size k.size, fun i hi hne => (k.block i hi).trans (h.block i hi hne)⟩
theorem same_of_below {S : Nat → Prop} {w w' : World} {B : Nat} (h : Below B w w') (hs : ∀ b, S b → b < B) : Same S w w' := ⟨h.size, fun b hb _ => h.block b (hs b hb)⟩
theorem blk_below {w w' : World} {B g : Nat} {t : TypeId} {cs : List Value} (h : Blk w g t cs) (hb : Below B w w') (hg : g < B) : Blk w' g t cs := (hb.block g hg).trans h
theorem Inv.below (h : Inv w0 KB n T M cost pv pts lo B arr wr) (hb : Below B wr wr') (hK : KB < w0.heap.size) : Inv w0 KB n T M cost pv pts lo B arr wr' := by
  obtain ⟨h1, h2, h3, h4, h5, h6, h7, h8⟩ := h
  exact ⟨grown_trans' h1 (hb.mono (by omega)), h2, Nat.le_trans h3 hb.size, blk_below h4 hb (by omega), h5.same (same_of_below hb (fun b hb => by omega)), blk_below h6 hb h2, h7,
    fun s hs hl => (h8 s hs hl).same (same_of_below hb (fun b hb => hb.2))⟩
/-- a new bound -/
theorem Inv.more (h : Inv w0 KB n T M cost pv pts lo B arr wr) {B' : Nat} (hB : B ≤ B') (hB' : B' ≤ wr.heap.size) : Inv w0 KB n T M cost pv pts lo B' arr wr := by
  obtain ⟨h1, h2, h3, h4, h5, h6, h7, h8⟩ := h
  exact ⟨h1, by omega, hB', h4, h5, h6, h7, fun s hs hl => (h8 s hs hl).mono (fun b _ hb => ⟨hb.1, by omega⟩)⟩
/-- a store into the outer row below lo -/
theorem Inv.store (h : Inv w0 KB n T M cost pv pts lo B arr wr) (hK : KB < w0.heap.size) {s : Nat} (hs : s < lo) (u : Value) : Inv w0 KB n T M cost pv pts lo B (arr.set s u) (wr.setCell ⟨w0.heap.size, s, none⟩ u) := by
  obtain ⟨h1, h2, h3, h4, h5, h6, h7, h8⟩ := h
  have hb : Below w0.heap.size wr (wr.setCell ⟨w0.heap.size, s, none⟩ u) := Below.setCell (p := ⟨w0.heap.size, s, none⟩) (Below.refl _ _) (Nat.le_refl _) u
  refine ⟨grown_trans' h1 hb, h2, Nat.le_trans h3 hb.size, blk_below h4 hb hK, h5.same (same_of_below hb (fun b hb => hb.1)), h6.set_ s u, by simp [h7], fun s' hs' hl => ?_⟩
  have e : (arr.set s u)[s'] = arr[s']'(by simpa using hl) := by rw [List.getElem_set_ne (by omega)]
  rw [e]
  exact (h8 s' hs' _).same (Same.set _ _ _ (by simp))
/-- the cells that the walk reads -/
theorem Inv.cells (h : Inv w0 KB n T M cost pv pts lo B arr wr) :
    wr.cell? ⟨KB, 0, none⟩ = some (.int .i64 T) ∧ wr.cell? ⟨KB, 1, none⟩ = some pv ∧ wr.cell? ⟨KB, 2, none⟩ = some (.int .i64 cost) ∧ wr.cell? ⟨KB, 3, none⟩ = some (.int .i64 M) ∧ wr.cell? ⟨KB, 4, none⟩ = some (.slice (some ⟨w0.heap.size, 0, none⟩) n n) :=
  ⟨h.2.2.2.1.cell 0, h.2.2.2.1.cell 1, h.2.2.2.1.cell 2, h.2.2.2.1.cell 3, h.2.2.2.1.cell 4⟩
theorem Inv.outer (h : Inv w0 KB n T M cost pv pts lo B arr wr) (s : Nat) (hs : s < n) : ∃ v, arr[s]? = some v ∧ wr.cell? ⟨w0.heap.size, s, none⟩ = some v ∧ wr.frozen? ⟨w0.heap.size, s, none⟩ = false := by
  obtain ⟨h1, h2, h3, h4, h5, h6, h7, h8⟩ := h
  have hl : s < arr.length := by omega
  exact ⟨arr[s], List.getElem?_eq_getElem hl, by rw [h6.cell s]; exact List.getElem?_eq_getElem hl, h6.frozen s⟩
/-- a section has come -/
theorem Inv.done (h : Inv w0 KB n T M cost pv pts (lo + 1) B arr wr) {B' : Nat} (hB : B ≤ B') (hB' : B' ≤ wr.heap.size) {v : Value} (hv : arr[lo]? = some v) (hr : RdIIs (fun b => B ≤ b ∧ b < B') wr v (tb T M cost pts lo)) : Inv w0 KB n T M cost pv pts lo B' arr wr := by
  obtain ⟨h1, h2, h3, h4, h5, h6, h7, h8⟩ := h
  refine ⟨h1, by omega, hB', h4, h5, h6, h7, fun s hs hl => ?_⟩
  by_cases he : s = lo
  · subst he
    have : arr[s] = v := by rw [List.getElem?_eq_getElem hl] at hv; exact Option.some.inj hv
    rw [this]
    exact hr.mono (fun b _ hb => ⟨by omega, hb.2⟩)
  · exact (h8 s (by omega) hl).mono (fun b _ hb => ⟨hb.1, by omega⟩)
end

/-- the row of takes in block g1: those below t are done -/
def Inv2 (last : Bool) (rows : List (List Int)) (cost : Int) (T M : Nat) (pl : List Int) (g1 t B : Nat) (arr : List Value) (wr : World) : Prop :=
  g1 < B ∧ B ≤ wr.heap.size ∧ Blk wr g1 22 arr ∧ arr.length = T ∧ ∀ u, u < t → ∀ (h : u < arr.length), RdIs (fun b => g1 < b ∧ b < B) wr arr[u] (rowV last rows cost T M (pl.getD u 0) u)
section
variable {wr wr' : World} {last : Bool} {rows : List (List Int)} {cost : Int} {T M : Nat} {pl : List Int} {g1 t B : Nat} {arr : List Value}
theorem Inv2.below (h : Inv2 last rows cost T M pl g1 t B arr wr) (hb : Below B wr wr') : Inv2 last rows cost T M pl g1 t B arr wr' := by
  obtain ⟨h1, h2, h3, h4, h5⟩ := h
  exact ⟨h1, Nat.le_trans h2 hb.size, blk_below h3 hb h1, h4, fun u hu hl => (h5 u hu hl).same (same_of_below hb (fun b hb => hb.2))⟩
theorem Inv2.more (h : Inv2 last rows cost T M pl g1 t B arr wr) {B' : Nat} (hB : B ≤ B') (hB' : B' ≤ wr.heap.size) : Inv2 last rows cost T M pl g1 t B' arr wr := by
  obtain ⟨h1, h2, h3, h4, h5⟩ := h
  exact ⟨by omega, hB', h3, h4, fun u hu hl => (h5 u hu hl).mono (fun b _ hb => ⟨hb.1, by omega⟩)⟩
theorem Inv2.store (h : Inv2 last rows cost T M pl g1 t B arr wr) (u : Value) : Inv2 last rows cost T M pl g1 t B (arr.set t u) (wr.setCell ⟨g1, t, none⟩ u) := by
  obtain ⟨h1, h2, h3, h4, h5⟩ := h
  refine ⟨h1, by simpa [World.setCell] using h2, h3.set_ t u, by simp [h4], fun k hk hl => ?_⟩
  have e : (arr.set t u)[k] = arr[k]'(by simpa using hl) := by rw [List.getElem_set_ne (by omega)]
  rw [e]
  exact (h5 k hk _).same (Same.set _ _ _ (by simp))
theorem Inv2.row (h : Inv2 last rows cost T M pl g1 t B arr wr) (s : Nat) (hs : s < T) : ∃ v, arr[s]? = some v ∧ wr.cell? ⟨g1, s, none⟩ = some v ∧ wr.frozen? ⟨g1, s, none⟩ = false := by
  obtain ⟨h1, h2, h3, h4, h5⟩ := h
  have hl : s < arr.length := by omega
  exact ⟨arr[s], List.getElem?_eq_getElem hl, by rw [h3.cell s]; exact List.getElem?_eq_getElem hl, h3.frozen s⟩
theorem Inv2.done (h : Inv2 last rows cost T M pl g1 t B arr wr) {B' : Nat} (hB : B ≤ B') (hB' : B' ≤ wr.heap.size) {v : Value} (hv : arr[t]? = some v) (hr : RdIs (fun b => B ≤ b ∧ b < B') wr v (rowV last rows cost T M (pl.getD t 0) t)) :
    Inv2 last rows cost T M pl g1 (t + 1) B' arr wr := by
  obtain ⟨h1, h2, h3, h4, h5⟩ := h
  refine ⟨by omega, hB', h3, h4, fun u hu hl => ?_⟩
  by_cases he : u = t
  · subst he
    have : arr[u] = v := by rw [List.getElem?_eq_getElem hl] at hv; exact Option.some.inj hv
    rw [this]
    exact hr.mono (fun b _ hb => ⟨by omega, hb.2⟩)
  · exact (h5 u (by omega) hl).mono (fun b _ hb => ⟨hb.1, by omega⟩)
/-- all takes have come: the table -/
theorem Inv2.table (h : Inv2 last rows cost T M pl g1 T B arr wr) : RdIIs (fun b => g1 ≤ b ∧ b < B) wr (.slice (some ⟨g1, 0, none⟩) T T) (tabV last rows cost T M pl) := by
  obtain ⟨h1, h2, h3, h4, h5⟩ := h
  refine ⟨_, T, arr, by rw [tabV_length], by rw [tabV_length]; exact h4, h3.rds ⟨Nat.le_refl _, h1⟩, fun i hi1 hi2 => ?_⟩
  rw [tabV_at]
  exact (h5 i (by omega) hi1).mono (fun b _ hb => ⟨by omega, hb.2⟩)
end

/-- the row of numbers in block g2: those below c are done -/
def Inv3 (row : List Int) (M g2 c : Nat) (wr : World) : Prop :=
  ∃ xs : List Int, Blk wr g2 3 (ic xs) ∧ xs.length = M + 1 ∧ xs.take c = row.take c
section
variable {wr wr' : World} {row : List Int} {M g2 c : Nat}
theorem Inv3.same (h : Inv3 row M g2 c wr) (hs : wr'.heap[g2]? = wr.heap[g2]?) : Inv3 row M g2 c wr' := by
  obtain ⟨xs, h1, h2⟩ := h
  exact ⟨xs, hs.trans h1, h2⟩
theorem Inv3.start (w : World) : Inv3 row M w.heap.size 0 (w.alloc (.cells (zs (M + 1) (.int .i64 0)).toArray 3)) := by
  refine ⟨List.replicate (M + 1) 0, ?_, by simp, by simp⟩
  have : ic (List.replicate (M + 1) 0) = zs (M + 1) (.int .i64 0) := by simp [ic, zs]
  rw [this]
  exact Blk.new w _ _
theorem Inv3.cellF (h : Inv3 row M g2 c wr) (hc : c ≤ M) : (∃ v, wr.cell? ⟨g2, c, none⟩ = some v) ∧ wr.frozen? ⟨g2, c, none⟩ = false := by
  obtain ⟨xs, h1, h2, _⟩ := h
  exact ⟨⟨.int .i64 (xs[c]'(by omega)), by rw [h1.cell c]; exact ic_at xs c (by omega)⟩, h1.frozen c⟩
theorem Inv3.store (h : Inv3 row M g2 c wr) (hr : row.length = M + 1) (hc : c ≤ M) {n : Int} (hn : n = row.getD c 0) : Inv3 row M g2 (c + 1) (wr.setCell ⟨g2, c, none⟩ (.int .i64 n)) := by
  obtain ⟨xs, h1, h2, h3⟩ := h
  refine ⟨xs.set c n, ?_, by simp [h2], ?_⟩
  · have : ic (xs.set c n) = (ic xs).set c (.int .i64 n) := by simp [ic, List.map_set]
    rw [this]
    exact h1.set_ c _
  · have hcx : c < (xs.set c n).length := by simp; omega
    have hcr : c < row.length := by omega
    rw [List.take_succ_eq_append_getElem hcx, List.take_succ_eq_append_getElem hcr, List.take_set_of_le (by omega), h3]
    simp [hn, hcr]
theorem Inv3.full (h : Inv3 row M g2 (M + 1) wr) (hr : row.length = M + 1) {S : Nat → Prop} (hS : S g2) : RdIs S wr (.slice (some ⟨g2, 0, none⟩) (M + 1) (M + 1)) row := by
  obtain ⟨xs, h1, h2, h3⟩ := h
  have : xs = row := by
    rw [List.take_of_length_le (by omega), List.take_of_length_le (by omega)] at h3; exact h3
  subst this
  exact ⟨_, M + 1, by rw [hr], h1.rds hS⟩
end
end Go.Proofs.Ytdgkchdobmhpnaa
