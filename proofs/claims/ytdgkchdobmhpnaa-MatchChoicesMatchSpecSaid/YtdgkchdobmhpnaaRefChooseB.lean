/- What holds while the reference's values runs. -/
import Derived.Test.YtdgkchdobmhpnaaRefChooseA
import Derived.Test.YtdgkchdobmhpnaaChooseB
namespace Go.Proofs.Ytdgkchdobmhpnaa
open Go.RowKit Go.Dw

def xCells (T : Nat) (pv : Value) (cost : Int) (M : Nat) : List Value := [.int .i64 T, pv, .int .i64 cost, .int .i64 M]
/-- the scores lie in the block w.heap.size, the outer row behind it; the tables from lo on are done; all that is known lies below block B -/
def RInv (w0 : World) (n T M : Nat) (cost : Int) (pv : Value) (pts : List (List Int)) (lo B : Nat) (arr : List Value) (wr : World) : Prop :=
  Below w0.heap.size w0 wr ∧ w0.heap.size + 1 < B ∧ B ≤ wr.heap.size ∧ Blk wr w0.heap.size 41 (xCells T pv cost M) ∧
  RdIIs (fun b => b < w0.heap.size) wr pv pts ∧ Blk wr (w0.heap.size + 1) 39 arr ∧ arr.length = n ∧
  ∀ s, lo ≤ s → ∀ (h : s < arr.length), RdIIs (fun b => w0.heap.size + 1 < b ∧ b < B) wr arr[s] (rtb T M cost pts s)
section
variable {w0 wr wr' : World} {n T M : Nat} {cost : Int} {pv : Value} {pts : List (List Int)} {lo B : Nat} {arr : List Value}
theorem RInv.below (h : RInv w0 n T M cost pv pts lo B arr wr) (hb : Below B wr wr') : RInv w0 n T M cost pv pts lo B arr wr' := by
  obtain ⟨h1, h2, h3, h4, h5, h6, h7, h8⟩ := h
  exact ⟨h1.trans (hb.mono (by omega)), h2, Nat.le_trans h3 hb.size, blk_below h4 hb (by omega), h5.same (same_of_below hb (fun b hb => by omega)), blk_below h6 hb h2, h7,
    fun s hs hl => (h8 s hs hl).same (same_of_below hb (fun b hb => hb.2))⟩
theorem RInv.store (h : RInv w0 n T M cost pv pts lo B arr wr) {s : Nat} (hs : s < lo) (u : Value) : RInv w0 n T M cost pv pts lo B (arr.set s u) (wr.setCell ⟨w0.heap.size + 1, s, none⟩ u) := by
  obtain ⟨h1, h2, h3, h4, h5, h6, h7, h8⟩ := h
  have hb : Below (w0.heap.size + 1) wr (wr.setCell ⟨w0.heap.size + 1, s, none⟩ u) := Below.setCell (p := ⟨w0.heap.size + 1, s, none⟩) (Below.refl _ _) (Nat.le_refl _) u
  refine ⟨h1.trans (hb.mono (by omega)), h2, Nat.le_trans h3 hb.size, blk_below h4 hb (by omega), h5.same (same_of_below hb (fun b hb => by omega)), h6.set_ s u, by simp [h7], fun s' hs' hl => ?_⟩
  have e : (arr.set s u)[s'] = arr[s']'(by simpa using hl) := by rw [List.getElem_set_ne (by omega)]
  rw [e]
  exact (h8 s' hs' _).same (Same.set _ _ _ (by simp))
theorem RInv.cells (h : RInv w0 n T M cost pv pts lo B arr wr) :
    wr.cell? ⟨w0.heap.size, 0, none⟩ = some (.int .i64 T) ∧ wr.cell? ⟨w0.heap.size, 1, none⟩ = some pv ∧ wr.cell? ⟨w0.heap.size, 2, none⟩ = some (.int .i64 cost) ∧ wr.cell? ⟨w0.heap.size, 3, none⟩ = some (.int .i64 M) :=
  ⟨h.2.2.2.1.cell 0, h.2.2.2.1.cell 1, h.2.2.2.1.cell 2, h.2.2.2.1.cell 3⟩
theorem RInv.outer (h : RInv w0 n T M cost pv pts lo B arr wr) (s : Nat) (hs : s < n) : ∃ v, arr[s]? = some v ∧ wr.cell? ⟨w0.heap.size + 1, s, none⟩ = some v ∧ wr.frozen? ⟨w0.heap.size + 1, s, none⟩ = false := by
  obtain ⟨h1, h2, h3, h4, h5, h6, h7, h8⟩ := h
  have hl : s < arr.length := by omega
  exact ⟨arr[s], List.getElem?_eq_getElem hl, by rw [h6.cell s]; exact List.getElem?_eq_getElem hl, h6.frozen s⟩
theorem RInv.done (h : RInv w0 n T M cost pv pts (lo + 1) B arr wr) {B' : Nat} (hB : B ≤ B') (hB' : B' ≤ wr.heap.size) {v : Value} (hv : arr[lo]? = some v) (hr : RdIIs (fun b => B ≤ b ∧ b < B') wr v (rtb T M cost pts lo)) : RInv w0 n T M cost pv pts lo B' arr wr := by
  obtain ⟨h1, h2, h3, h4, h5, h6, h7, h8⟩ := h
  refine ⟨h1, by omega, hB', h4, h5, h6, h7, fun s hs hl => ?_⟩
  by_cases he : s = lo
  · subst he
    have : arr[s] = v := by rw [List.getElem?_eq_getElem hl] at hv; exact Option.some.inj hv
    rw [this]
    exact hr.mono (fun b _ hb => ⟨by omega, hb.2⟩)
  · exact (h8 s (by omega) hl).mono (fun b _ hb => ⟨hb.1, by omega⟩)
end

/-- a row of rows in block g1: those below t are done -/
def InvG (rowf : Nat → List Int) (T g1 t B : Nat) (arr : List Value) (wr : World) : Prop :=
  g1 < B ∧ B ≤ wr.heap.size ∧ Blk wr g1 22 arr ∧ arr.length = T ∧ ∀ u, u < t → ∀ (h : u < arr.length), RdIs (fun b => g1 < b ∧ b < B) wr arr[u] (rowf u)
section
variable {wr wr' : World} {rowf : Nat → List Int} {T g1 t B : Nat} {arr : List Value}
theorem InvG.below (h : InvG rowf T g1 t B arr wr) (hb : Below B wr wr') : InvG rowf T g1 t B arr wr' := by
  obtain ⟨h1, h2, h3, h4, h5⟩ := h
  exact ⟨h1, Nat.le_trans h2 hb.size, blk_below h3 hb h1, h4, fun u hu hl => (h5 u hu hl).same (same_of_below hb (fun b hb => hb.2))⟩
theorem InvG.store (h : InvG rowf T g1 t B arr wr) (u : Value) : InvG rowf T g1 t B (arr.set t u) (wr.setCell ⟨g1, t, none⟩ u) := by
  obtain ⟨h1, h2, h3, h4, h5⟩ := h
  refine ⟨h1, by simpa [World.setCell] using h2, h3.set_ t u, by simp [h4], fun k hk hl => ?_⟩
  have e : (arr.set t u)[k] = arr[k]'(by simpa using hl) := by rw [List.getElem_set_ne (by omega)]
  rw [e]
  exact (h5 k hk _).same (Same.set _ _ _ (by simp))
theorem InvG.row (h : InvG rowf T g1 t B arr wr) (s : Nat) (hs : s < T) : ∃ v, arr[s]? = some v ∧ wr.cell? ⟨g1, s, none⟩ = some v ∧ wr.frozen? ⟨g1, s, none⟩ = false := by
  obtain ⟨h1, h2, h3, h4, h5⟩ := h
  have hl : s < arr.length := by omega
  exact ⟨arr[s], List.getElem?_eq_getElem hl, by rw [h3.cell s]; exact List.getElem?_eq_getElem hl, h3.frozen s⟩
theorem InvG.done (h : InvG rowf T g1 t B arr wr) {B' : Nat} (hB : B ≤ B') (hB' : B' ≤ wr.heap.size) {v : Value} (hv : arr[t]? = some v) (hr : RdIs (fun b => B ≤ b ∧ b < B') wr v (rowf t)) : InvG rowf T g1 (t + 1) B' arr wr := by
  obtain ⟨h1, h2, h3, h4, h5⟩ := h
  refine ⟨by omega, hB', h3, h4, fun u hu hl => ?_⟩
  by_cases he : u = t
  · subst he
    have : arr[u] = v := by rw [List.getElem?_eq_getElem hl] at hv; exact Option.some.inj hv
    rw [this]
    exact hr.mono (fun b _ hb => ⟨by omega, hb.2⟩)
  · exact (h5 u (by omega) hl).mono (fun b _ hb => ⟨hb.1, by omega⟩)
theorem InvG.table (h : InvG rowf T g1 T B arr wr) : RdIIs (fun b => g1 ≤ b ∧ b < B) wr (.slice (some ⟨g1, 0, none⟩) T T) ((List.range T).map rowf) := by
  obtain ⟨h1, h2, h3, h4, h5⟩ := h
  refine ⟨_, T, arr, by simp, by simpa using h4, h3.rds ⟨Nat.le_refl _, h1⟩, fun i hi1 hi2 => ?_⟩
  rw [List.getElem_map, List.getElem_range]
  exact (h5 i (by omega) hi1).mono (fun b _ hb => ⟨by omega, hb.2⟩)
end
end Go.Proofs.Ytdgkchdobmhpnaa
