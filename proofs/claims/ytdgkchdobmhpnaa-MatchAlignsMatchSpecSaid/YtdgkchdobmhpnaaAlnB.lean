/- What holds while (*aligner).fill runs. -/
import Derived.Test.YtdgkchdobmhpnaaAlnA
import Derived.Test.YtdgkchdobmhpnaaChooseB
namespace Go.Proofs.Ytdgkchdobmhpnaa
open Go.RowKit Go.Dw

/-- the value is a slice of the pairs ps, at blocks that meet S -/
def RdPs (S : Nat → Prop) (w : World) (v : Value) (ps : List (Int × Int)) : Prop := ∃ A c, v = .slice A ps.length c ∧ RdS S w A (pc ps)
section
variable {S S' : Nat → Prop} {w w' : World} {v : Value} {ps : List (Int × Int)}
theorem RdPs.same (h : RdPs S w v ps) (hs : Same S w w') : RdPs S w' v ps := by
  obtain ⟨A, c, e, h⟩ := h
  exact ⟨A, c, e, h.same hs⟩
theorem RdPs.mono (h : RdPs S w v ps) (hs : ∀ b, b < w.heap.size → S b → S' b) : RdPs S' w v ps := by
  obtain ⟨A, c, e, h⟩ := h
  exact ⟨A, c, e, h.mono hs⟩
theorem RdPs.at_ (h : RdPs S w v ps) {k : Nat} (hk : k < ps.length) : ∃ b off c, v = .slice (some ⟨b, off, none⟩) ps.length c ∧ S b ∧ w.cell? ⟨b, off + k * 2, none⟩ = some (.int .i64 ps[k].1) ∧ w.cell? ⟨b, off + k * 2 + 1, none⟩ = some (.int .i64 ps[k].2) := by
  obtain ⟨A, c, rfl, h⟩ := h
  obtain ⟨b, off, rfl, hS, _, hc⟩ := h.at_ (by rw [pc_length]; omega)
  have := pc_at ps k hk
  exact ⟨b, off, c, rfl, hS, hc _ _ this.1, by rw [Nat.add_assoc]; exact hc _ _ this.2⟩
end
/-- the row i of the table -/
def rowP (g : Int) (a b : List Int) (i : Nat) : List (Int × Int) := (List.range (b.length + 1)).map fun j => bst g a b i j
theorem rowP_len (g : Int) (a b : List Int) (i : Nat) : (rowP g a b i).length = b.length + 1 := by simp [rowP]
theorem rowP_at (g : Int) (a b : List Int) (i j : Nat) (h : j < (rowP g a b i).length) : (rowP g a b i)[j] = bst g a b i j := by simp [rowP]

/-- the lists that are aligned: where they lie -/
structure Two where
  Aa : Option Addr
  ca : Nat
  a : List Int
  Ab : Option Addr
  cb : Nat
  b : List Int
  g : Int
def Two.cells (x : Two) (best : Value) : List Value := [.slice x.Aa x.a.length x.ca, .slice x.Ab x.b.length x.cb, .int .i64 x.g, best]
/-- the aligner lies in block KB; the rows from lo on are done, below block B -/
def AInv (w0 : World) (KB : Nat) (x : Two) (lo B : Nat) (arr : List Value) (wr : World) : Prop :=
  w0.grownBy wr (some KB) ∧ w0.heap.size < B ∧ B ≤ wr.heap.size ∧ Blk wr KB 70 (x.cells (.slice (some ⟨w0.heap.size, 0, none⟩) (x.a.length + 1) (x.a.length + 1))) ∧
  RdS (fun b => b < w0.heap.size ∧ b ≠ KB) wr x.Aa (ic x.a) ∧ RdS (fun b => b < w0.heap.size ∧ b ≠ KB) wr x.Ab (ic x.b) ∧ Blk wr w0.heap.size 73 arr ∧ arr.length = x.a.length + 1 ∧
  ∀ s, lo ≤ s → ∀ (h : s < arr.length), RdPs (fun b => w0.heap.size < b ∧ b < B) wr arr[s] (rowP x.g x.a x.b s)
section
variable {w0 wr wr' : World} {KB : Nat} {x : Two} {lo B : Nat} {arr : List Value}
theorem AInv.below (h : AInv w0 KB x lo B arr wr) (hb : Below B wr wr') (hK : KB < w0.heap.size) : AInv w0 KB x lo B arr wr' := by
  obtain ⟨h1, h2, h3, h4, h5, h6, h7, h8, h9⟩ := h
  exact ⟨grown_trans' h1 (hb.mono (by omega)), h2, Nat.le_trans h3 hb.size, blk_below h4 hb (by omega), h5.same (same_of_below hb (fun b hb => by omega)), h6.same (same_of_below hb (fun b hb => by omega)), blk_below h7 hb h2, h8,
    fun s hs hl => (h9 s hs hl).same (same_of_below hb (fun b hb => hb.2))⟩
/-- a store into the outer row below lo -/
theorem AInv.store (h : AInv w0 KB x lo B arr wr) (hK : KB < w0.heap.size) {s : Nat} (hs : s < lo) (u : Value) : AInv w0 KB x lo B (arr.set s u) (wr.setCell ⟨w0.heap.size, s, none⟩ u) := by
  obtain ⟨h1, h2, h3, h4, h5, h6, h7, h8, h9⟩ := h
  have hb : Below w0.heap.size wr (wr.setCell ⟨w0.heap.size, s, none⟩ u) := Below.setCell (p := ⟨w0.heap.size, s, none⟩) (Below.refl _ _) (Nat.le_refl _) u
  refine ⟨grown_trans' h1 hb, h2, Nat.le_trans h3 hb.size, blk_below h4 hb hK, h5.same (same_of_below hb (fun b hb => hb.1)), h6.same (same_of_below hb (fun b hb => hb.1)), h7.set_ s u, by simp [h8], fun s' hs' hl => ?_⟩
  have e : (arr.set s u)[s'] = arr[s']'(by simpa using hl) := by rw [List.getElem_set_ne (by omega)]
  rw [e]
  exact (h9 s' hs' _).same (Same.set _ _ _ (by simp))
theorem AInv.cells (h : AInv w0 KB x lo B arr wr) :
    wr.cell? ⟨KB, 0, none⟩ = some (.slice x.Aa x.a.length x.ca) ∧ wr.cell? ⟨KB, 1, none⟩ = some (.slice x.Ab x.b.length x.cb) ∧ wr.cell? ⟨KB, 2, none⟩ = some (.int .i64 x.g) ∧ wr.cell? ⟨KB, 3, none⟩ = some (.slice (some ⟨w0.heap.size, 0, none⟩) (x.a.length + 1) (x.a.length + 1)) :=
  ⟨h.2.2.2.1.cell 0, h.2.2.2.1.cell 1, h.2.2.2.1.cell 2, h.2.2.2.1.cell 3⟩
theorem AInv.outer (h : AInv w0 KB x lo B arr wr) (s : Nat) (hs : s ≤ x.a.length) : ∃ v, arr[s]? = some v ∧ wr.cell? ⟨w0.heap.size, s, none⟩ = some v ∧ wr.frozen? ⟨w0.heap.size, s, none⟩ = false := by
  obtain ⟨h1, h2, h3, h4, h5, h6, h7, h8, h9⟩ := h
  have hl : s < arr.length := by omega
  exact ⟨arr[s], List.getElem?_eq_getElem hl, by rw [h7.cell s]; exact List.getElem?_eq_getElem hl, h7.frozen s⟩
/-- an entry of the table -/
theorem AInv.entry (h : AInv w0 KB x lo B arr wr) {s j : Nat} (hs : lo ≤ s) (hs2 : s ≤ x.a.length) (hj : j ≤ x.b.length) :
    ∃ b off c, wr.cell? ⟨w0.heap.size, s, none⟩ = some (.slice (some ⟨b, off, none⟩) (x.b.length + 1) c) ∧ wr.cell? ⟨b, off + j * 2, none⟩ = some (.int .i64 (bst x.g x.a x.b s j).1) ∧ wr.cell? ⟨b, off + j * 2 + 1, none⟩ = some (.int .i64 (bst x.g x.a x.b s j).2) := by
  obtain ⟨v, hv, hc, _⟩ := h.outer s hs2
  obtain ⟨h1, h2, h3, h4, h5, h6, h7, h8, h9⟩ := h
  have hl : s < arr.length := by omega
  rw [List.getElem?_eq_getElem hl] at hv
  have hr := h9 s hs hl
  rw [Option.some.inj hv] at hr
  obtain ⟨b, off, c, rfl, _, e1, e2⟩ := hr.at_ (k := j) (by rw [rowP_len]; omega)
  rw [rowP_at] at e1 e2
  rw [rowP_len] at hc
  exact ⟨b, off, c, hc, e1, e2⟩
/-- the marks -/
theorem AInv.mark_a (h : AInv w0 KB x lo B arr wr) {i : Nat} (hi : i < x.a.length) : ∃ b off, x.Aa = some ⟨b, off, none⟩ ∧ wr.cell? ⟨b, off + i, none⟩ = some (.int .i64 (x.a.getD i 0)) := by
  obtain ⟨b, off, e, _, _, hc⟩ := h.2.2.2.2.1.at_ (by rw [ic_length]; omega)
  refine ⟨b, off, e, ?_⟩
  rw [hc i _ (ic_at _ i hi), List.getD_eq_getElem?_getD, List.getElem?_eq_getElem hi]; rfl
theorem AInv.mark_b (h : AInv w0 KB x lo B arr wr) {i : Nat} (hi : i < x.b.length) : ∃ b off, x.Ab = some ⟨b, off, none⟩ ∧ wr.cell? ⟨b, off + i, none⟩ = some (.int .i64 (x.b.getD i 0)) := by
  obtain ⟨b, off, e, _, _, hc⟩ := h.2.2.2.2.2.1.at_ (by rw [ic_length]; omega)
  refine ⟨b, off, e, ?_⟩
  rw [hc i _ (ic_at _ i hi), List.getD_eq_getElem?_getD, List.getElem?_eq_getElem hi]; rfl
/-- a row has come -/
theorem AInv.done (h : AInv w0 KB x (lo + 1) B arr wr) {B' : Nat} (hB : B ≤ B') (hB' : B' ≤ wr.heap.size) {v : Value} (hv : arr[lo]? = some v) (hr : RdPs (fun b => B ≤ b ∧ b < B') wr v (rowP x.g x.a x.b lo)) : AInv w0 KB x lo B' arr wr := by
  obtain ⟨h1, h2, h3, h4, h5, h6, h7, h8, h9⟩ := h
  refine ⟨h1, by omega, hB', h4, h5, h6, h7, h8, fun s hs hl => ?_⟩
  by_cases he : s = lo
  · subst he
    have : arr[s] = v := by rw [List.getElem?_eq_getElem hl] at hv; exact Option.some.inj hv
    rw [this]
    exact hr.mono (fun b _ hb => ⟨by omega, hb.2⟩)
  · exact (h9 s (by omega) hl).mono (fun b _ hb => ⟨hb.1, by omega⟩)
end
/-- the row in block g: the pairs from k on are done -/
def RInv2 (row : List (Int × Int)) (g k : Nat) (wr : World) : Prop := ∃ ps : List (Int × Int), Blk wr g 72 (pc ps) ∧ ps.length = row.length ∧ ps.drop k = row.drop k
section
variable {wr wr' : World} {row : List (Int × Int)} {g k : Nat}
theorem RInv2.same (h : RInv2 row g k wr) (hs : wr'.heap[g]? = wr.heap[g]?) : RInv2 row g k wr' := by
  obtain ⟨xs, h1, h2⟩ := h
  exact ⟨xs, hs.trans h1, h2⟩
theorem RInv2.lt (h : RInv2 row g k wr) : g < wr.heap.size := by obtain ⟨xs, h1, _⟩ := h; exact h1.lt
theorem pc_set (ps : List (Int × Int)) : ∀ (k : Nat) (s : Int × Int), k < ps.length → pc (ps.set k s) = ((pc ps).set (k * 2) (.int .i64 s.1)).set (k * 2 + 1) (.int .i64 s.2) := by
  induction ps with
  | nil => intro k s h; simp at h
  | cons p t ih =>
    intro k s h
    have e : ∀ (q : Int × Int) (l : List (Int × Int)), pc (q :: l) = .int .i64 q.1 :: .int .i64 q.2 :: pc l := fun q l => by simp [pc]
    cases k with
    | zero => rw [List.set_cons_zero, e, e]; rfl
    | succ k =>
      rw [List.set_cons_succ, e, e, ih k s (by simpa using h)]
      rw [show (k + 1) * 2 = k * 2 + 1 + 1 by omega]
      rfl
theorem RInv2.cellF (h : RInv2 row g k wr) {j : Nat} (hj : j < row.length) : (∃ v, wr.cell? ⟨g, j * 2, none⟩ = some v) ∧ (∃ v, wr.cell? ⟨g, j * 2 + 1, none⟩ = some v) ∧ wr.frozen? ⟨g, j * 2, none⟩ = false ∧ wr.frozen? ⟨g, j * 2 + 1, none⟩ = false := by
  obtain ⟨xs, h1, h2, _⟩ := h
  have := pc_at xs j (by omega)
  exact ⟨⟨_, by rw [h1.cell]; exact this.1⟩, ⟨_, by rw [h1.cell]; exact this.2⟩, h1.frozen _, h1.frozen _⟩
theorem RInv2.at_ (h : RInv2 row g k wr) {j : Nat} (hj : j < row.length) (hk : k ≤ j) : wr.cell? ⟨g, j * 2, none⟩ = some (.int .i64 row[j].1) ∧ wr.cell? ⟨g, j * 2 + 1, none⟩ = some (.int .i64 row[j].2) := by
  obtain ⟨xs, h1, h2, h3⟩ := h
  have := pc_at xs j (by omega)
  have e : xs[j]'(by omega) = row[j] := by
    have h4 : (xs.drop k)[j - k]? = (row.drop k)[j - k]? := by rw [h3]
    rw [List.getElem?_drop, List.getElem?_drop, show k + (j - k) = j by omega, List.getElem?_eq_getElem (by omega), List.getElem?_eq_getElem hj] at h4
    exact Option.some.inj h4
  rw [h1.cell, h1.cell, ← e]
  exact this
theorem RInv2.store (h : RInv2 row g (k + 1) wr) (hk : k < row.length) {s : Int × Int} (hs : s = row[k]) : RInv2 row g k ((wr.setCell ⟨g, k * 2, none⟩ (.int .i64 s.1)).setCell ⟨g, k * 2 + 1, none⟩ (.int .i64 s.2)) := by
  obtain ⟨xs, h1, h2, h3⟩ := h
  refine ⟨xs.set k s, ?_, by simp [h2], ?_⟩
  · rw [pc_set xs k s (by omega)]
    exact (h1.set_ (k * 2) _).set_ (k * 2 + 1) _
  · have e1 : (xs.set k s).drop k = s :: (xs.set k s).drop (k + 1) := by rw [List.drop_eq_getElem_cons (by simp; omega)]; simp
    rw [e1, List.drop_set_of_lt (by omega), h3, hs, ← List.drop_eq_getElem_cons hk]
theorem RInv2.full (h : RInv2 row g 0 wr) {S : Nat → Prop} (hS : S g) (c : Nat) : RdPs S wr (.slice (some ⟨g, 0, none⟩) row.length c) row := by
  obtain ⟨xs, h1, h2, h3⟩ := h
  simp only [List.drop_zero] at h3
  subst h3
  exact ⟨_, c, rfl, h1.rds hS⟩
/-- n pairs of zeroes -/
def zp (n : Nat) : List Value := pc (List.replicate n (0, 0))
theorem RInv2.start (w : World) (n : Nat) (hn : row.length = n) : RInv2 row w.heap.size n (w.alloc (.cells (zp n).toArray 72)) := by
  refine ⟨List.replicate n (0, 0), Blk.new w _ _, by simp [hn], ?_⟩
  rw [List.drop_of_length_le (by simp), List.drop_of_length_le (by omega)]
end
theorem run_mk2 {P : Program} (t e : TypeId) (i : TypeInfo) (ht : P.underlying t = some (.slice e)) (hi : P.info? e = some i) (hz : i.zero = some (.agg #[.int .i64 0, .int .i64 0])) (hz1 : i.size = 2) (hz2 : i.bytes = 16)
    (n : Int) (k : Nat) (hn : n = k) (hb : 16 * k ≤ 281474976710656) (w : World) :
    (Instr.makeSlice t (.int .i64 n) (.int .i64 n)).run P w = .ok (.slice (some ⟨w.heap.size, 0, none⟩) k k) (w.alloc (.cells (zp k).toArray e)) := by
  subst hn
  have hr := run_make (P := P) w t e i _ ht hi hz .i64 .i64 k k (by omega) (by omega) (by rw [hz2]; omega) (by omega)
  simp only [Int.toNat_natCast] at hr
  rw [hr, hz1]
  have : madeCells (Value.cells (.agg #[.int .i64 0, .int .i64 0])) (k * 2) = (zp k).toArray := by
    show madeCells #[.int .i64 0, .int .i64 0] (k * 2) = _
    apply Array.ext'
    unfold zp
    apply List.ext_getElem?
    intro j
    by_cases hj : j < k * 2
    · have h1 : (madeCells #[Value.int .i64 0, .int .i64 0] (k * 2)).toList[j]? = some (Value.int .i64 0) := by
        rcases Nat.mod_two_eq_zero_or_one j with h | h <;> simp [madeCells, hj, h]
      rw [h1]
      obtain ⟨q, hq⟩ : ∃ q, j = q * 2 ∨ j = q * 2 + 1 := ⟨j / 2, by omega⟩
      have hp := pc_at (List.replicate k ((0 : Int), (0 : Int))) q (by simp; omega)
      rcases hq with rfl | rfl
      · rw [List.toList_toArray, hp.1]; simp
      · rw [List.toList_toArray, hp.2]; simp
    · rw [List.getElem?_eq_none (by simp [madeCells]; omega), List.getElem?_eq_none (by rw [List.toList_toArray, pc_length]; simp; omega)]
  rw [this]

/-- what fill makes of the entry of i and j, step by step -/
def ce0 (x : Two) (i j : Nat) : Scr := (x.g * ((x.a.length : Int) - i + x.b.length - j), 0)
def ce1 (x : Two) (i j : Nat) : Scr := if i < x.a.length ∧ j < x.b.length then sel (ce0 x i j) (lkS x.g x.a x.b i j) else ce0 x i j
def ce2 (x : Two) (i j : Nat) : Scr := if i < x.a.length then sel (ce1 x i j) (skp (bst x.g x.a x.b (i + 1) j) x.g) else ce1 x i j
def ce3 (x : Two) (i j : Nat) : Scr := if j < x.b.length then sel (ce2 x i j) (skp (bst x.g x.a x.b i (j + 1)) x.g) else ce2 x i j
theorem ce_eq (x : Two) (i j : Nat) (hi : i ≤ x.a.length) (hj : j ≤ x.b.length) : ce3 x i j = bst x.g x.a x.b i j := by
  have nb : ∀ c d : Int, bfr (c, 0) (d, 0) = decide (c < d) := fun c d => by simp [bfr]
  by_cases h1 : i < x.a.length
  · by_cases h2 : j < x.b.length
    · unfold ce3 ce2 ce1
      rw [if_pos h2, if_pos h1, if_pos ⟨h1, h2⟩]
      obtain ⟨n, hn⟩ : ∃ n, x.a.length - i = n + 1 := ⟨x.a.length - i - 1, by omega⟩
      obtain ⟨m, hm⟩ : ∃ m, x.b.length - j = m + 1 := ⟨x.b.length - j - 1, by omega⟩
      have e1 : x.a.length - (i + 1) = n := by omega
      have e2 : x.b.length - (j + 1) = m := by omega
      unfold lkS bst ce0
      rw [hn, hm, e1, e2, bs_ss]
      have e3 : DD x.a x.b n m = bd (x.a.getD i 0) (x.b.getD j 0) := by
        unfold DD
        rw [show x.a.length - 1 - n = i by omega, show x.b.length - 1 - m = j by omega]
      unfold lnk
      rw [e3, show (x.a.length : Int) - i + x.b.length - j = (n : Int) + 1 + (m + 1) by omega]
    · unfold ce3 ce2 ce1
      rw [if_neg h2, if_pos h1, if_neg (by omega)]
      have e2 : x.b.length - j = 0 := by omega
      unfold bst
      rw [e2, bs_n0, bs_n0]
      unfold sel skp ce0
      simp only
      have e3 : x.g * ((x.a.length - (i + 1) : Nat) : Int) + x.g = x.g * ((x.a.length : Int) - i + x.b.length - j) := by rw [g_step]; congr 1; omega
      rw [e3, nb]
      simp
      congr 1; omega
  · unfold ce3 ce2 ce1
    rw [if_neg h1, if_neg (show ¬ (i < x.a.length ∧ j < x.b.length) from fun hh => h1 hh.1)]
    have e1 : x.a.length - i = 0 := by omega
    by_cases h2 : j < x.b.length
    · rw [if_pos h2]
      unfold bst
      rw [e1, bs_0, bs_0]
      unfold sel skp ce0
      simp only
      have e3 : x.g * ((x.b.length - (j + 1) : Nat) : Int) + x.g = x.g * ((x.a.length : Int) - i + x.b.length - j) := by rw [g_step]; congr 1; omega
      rw [e3, nb]
      simp
      congr 1; omega
    · rw [if_neg h2]
      unfold bst ce0
      rw [e1, bs_0]
      congr 2; omega
theorem sel_t {s t : Scr} (h : bfr t s = true) : sel s t = t := by unfold sel; rw [if_pos h]
theorem sel_f {s t : Scr} (h : bfr t s = false) : sel s t = s := by unfold sel; rw [h]; rfl
end Go.Proofs.Ytdgkchdobmhpnaa
