/- The contract of the reference's table. -/
import Derived.Test.YtdgkchdobmhpnaaRAlnA
import Derived.Deep.DeepCutAuto
namespace Go.Proofs.Ytdgkchdobmhpnaa
open Go.RowKit Go.Dw
attribute [local go_sem ↓] Go.wp_at_zero Go.wp_at_succ

def rowI (x : Two) (i : Nat) : List Int := (List.range (x.b.length + 1)).map fun j => te x i j
theorem rowI_len (x : Two) (i : Nat) : (rowI x i).length = x.b.length + 1 := by simp [rowI]
theorem rowI_at (x : Two) (i j : Nat) (h : j < (rowI x i).length) : (rowI x i)[j] = te x i j := by simp [rowI]
/-- the rows of the table from lo on are done, below block B; the outer row lies in block w0.heap.size -/
def TInv (w0 : World) (x : Two) (lo B : Nat) (arr : List Value) (wr : World) : Prop :=
  Below w0.heap.size w0 wr ∧ w0.heap.size < B ∧ B ≤ wr.heap.size ∧ Blk wr w0.heap.size 22 arr ∧ arr.length = x.a.length + 1 ∧
  ∀ s, lo ≤ s → ∀ (h : s < arr.length), RdIs (fun b => w0.heap.size < b ∧ b < B) wr arr[s] (rowI x s)
section
variable {w0 wr wr' : World} {x : Two} {lo B : Nat} {arr : List Value}
theorem TInv.below (h : TInv w0 x lo B arr wr) (hb : Below B wr wr') : TInv w0 x lo B arr wr' := by
  obtain ⟨h1, h2, h3, h4, h5, h6⟩ := h
  exact ⟨h1.trans (hb.mono (by omega)), h2, Nat.le_trans h3 hb.size, blk_below h4 hb h2, h5, fun s hs hl => (h6 s hs hl).same (same_of_below hb (fun b hb => hb.2))⟩
theorem TInv.store (h : TInv w0 x lo B arr wr) {s : Nat} (hs : s < lo) (u : Value) : TInv w0 x lo B (arr.set s u) (wr.setCell ⟨w0.heap.size, s, none⟩ u) := by
  obtain ⟨h1, h2, h3, h4, h5, h6⟩ := h
  have hb : Below w0.heap.size wr (wr.setCell ⟨w0.heap.size, s, none⟩ u) := Below.setCell (p := ⟨w0.heap.size, s, none⟩) (Below.refl _ _) (Nat.le_refl _) u
  refine ⟨h1.trans hb, h2, Nat.le_trans h3 hb.size, h4.set_ s u, by simp [h5], fun s' hs' hl => ?_⟩
  have e : (arr.set s u)[s'] = arr[s']'(by simpa using hl) := by rw [List.getElem_set_ne (by omega)]
  rw [e]
  exact (h6 s' hs' _).same (Same.set _ _ _ (by simp))
theorem TInv.outer (h : TInv w0 x lo B arr wr) (s : Nat) (hs : s ≤ x.a.length) : ∃ v, arr[s]? = some v ∧ wr.cell? ⟨w0.heap.size, s, none⟩ = some v ∧ wr.frozen? ⟨w0.heap.size, s, none⟩ = false := by
  obtain ⟨h1, h2, h3, h4, h5, h6⟩ := h
  have hl : s < arr.length := by omega
  exact ⟨arr[s], List.getElem?_eq_getElem hl, by rw [h4.cell s]; exact List.getElem?_eq_getElem hl, h4.frozen s⟩
theorem TInv.entry (h : TInv w0 x lo B arr wr) {s j : Nat} (hs : lo ≤ s) (hs2 : s ≤ x.a.length) (hj : j ≤ x.b.length) :
    ∃ b off c, wr.cell? ⟨w0.heap.size, s, none⟩ = some (.slice (some ⟨b, off, none⟩) (x.b.length + 1) c) ∧ wr.cell? ⟨b, off + j, none⟩ = some (.int .i64 (te x s j)) := by
  obtain ⟨v, hv, hc, _⟩ := h.outer s hs2
  obtain ⟨h1, h2, h3, h4, h5, h6⟩ := h
  have hl : s < arr.length := by omega
  rw [List.getElem?_eq_getElem hl] at hv
  have hr := h6 s hs hl
  rw [Option.some.inj hv] at hr
  obtain ⟨A, c, rfl, hr⟩ := hr
  obtain ⟨b, off, rfl, _, _, hcc⟩ := hr.at_ (by rw [ic_length, rowI_len]; omega)
  have hjl : j < (rowI x s).length := by rw [rowI_len]; omega
  have := hcc j _ (ic_at _ j hjl)
  rw [rowI_at] at this
  rw [rowI_len] at hc
  exact ⟨b, off, c, hc, this⟩
theorem TInv.done (h : TInv w0 x (lo + 1) B arr wr) {B' : Nat} (hB : B ≤ B') (hB' : B' ≤ wr.heap.size) {v : Value} (hv : arr[lo]? = some v) (hr : RdIs (fun b => B ≤ b ∧ b < B') wr v (rowI x lo)) : TInv w0 x lo B' arr wr := by
  obtain ⟨h1, h2, h3, h4, h5, h6⟩ := h
  refine ⟨h1, by omega, hB', h4, h5, fun s hs hl => ?_⟩
  by_cases he : s = lo
  · subst he
    have : arr[s] = v := by rw [List.getElem?_eq_getElem hl] at hv; exact Option.some.inj hv
    rw [this]
    exact hr.mono (fun b _ hb => ⟨by omega, hb.2⟩)
  · exact (h6 s (by omega) hl).mono (fun b _ hb => ⟨hb.1, by omega⟩)
theorem tinv_start (w : World) (x : Two) : TInv w x (x.a.length + 1) (w.heap.size + 1) (zs (x.a.length + 1) (.slice none 0 0)) (w.alloc (.cells (zs (x.a.length + 1) (.slice none 0 0)).toArray 22)) :=
  ⟨(Below.refl _ _).alloc (Nat.le_refl _) _, by omega, by simp, Blk.new w _ _, zs_length _ _, fun s hs hl => by rw [zs_length] at hl; omega⟩
end
/-- the row in block g: the numbers from k on are done -/
def RInv1 (row : List Int) (g k : Nat) (wr : World) : Prop := ∃ xs : List Int, Blk wr g 3 (ic xs) ∧ xs.length = row.length ∧ xs.drop k = row.drop k
section
variable {wr wr' : World} {row : List Int} {g k : Nat}
theorem RInv1.same (h : RInv1 row g k wr) (hs : wr'.heap[g]? = wr.heap[g]?) : RInv1 row g k wr' := by
  obtain ⟨xs, h1, h2⟩ := h
  exact ⟨xs, hs.trans h1, h2⟩
theorem RInv1.lt (h : RInv1 row g k wr) : g < wr.heap.size := by obtain ⟨xs, h1, _⟩ := h; exact h1.lt
theorem RInv1.cellF (h : RInv1 row g k wr) {j : Nat} (hj : j < row.length) : (∃ v, wr.cell? ⟨g, j, none⟩ = some v) ∧ wr.frozen? ⟨g, j, none⟩ = false := by
  obtain ⟨xs, h1, h2, _⟩ := h
  exact ⟨⟨_, by rw [h1.cell]; exact ic_at xs j (by omega)⟩, h1.frozen _⟩
theorem RInv1.at_ (h : RInv1 row g k wr) {j : Nat} (hj : j < row.length) (hk : k ≤ j) : wr.cell? ⟨g, j, none⟩ = some (.int .i64 row[j]) := by
  obtain ⟨xs, h1, h2, h3⟩ := h
  have e : xs[j]'(by omega) = row[j] := by
    have h4 : (xs.drop k)[j - k]? = (row.drop k)[j - k]? := by rw [h3]
    rw [List.getElem?_drop, List.getElem?_drop, show k + (j - k) = j by omega, List.getElem?_eq_getElem (by omega), List.getElem?_eq_getElem hj] at h4
    exact Option.some.inj h4
  rw [h1.cell, ← e]
  exact ic_at xs j (by omega)
theorem RInv1.store (h : RInv1 row g (k + 1) wr) (hk : k < row.length) {s : Int} (hs : s = row[k]) : RInv1 row g k (wr.setCell ⟨g, k, none⟩ (.int .i64 s)) := by
  obtain ⟨xs, h1, h2, h3⟩ := h
  refine ⟨xs.set k s, ?_, by simp [h2], ?_⟩
  · have : ic (xs.set k s) = (ic xs).set k (.int .i64 s) := by simp [ic, List.map_set]
    rw [this]
    exact h1.set_ k _
  · have e1 : (xs.set k s).drop k = s :: (xs.set k s).drop (k + 1) := by rw [List.drop_eq_getElem_cons (by simp; omega)]; simp
    rw [e1, List.drop_set_of_lt (by omega), h3, hs, ← List.drop_eq_getElem_cons hk]
theorem RInv1.full (h : RInv1 row g 0 wr) {S : Nat → Prop} (hS : S g) (c : Nat) : RdIs S wr (.slice (some ⟨g, 0, none⟩) row.length c) row := by
  obtain ⟨xs, h1, h2, h3⟩ := h
  simp only [List.drop_zero] at h3
  subst h3
  exact ⟨_, c, rfl, h1.rds hS⟩
theorem RInv1.start (w : World) (n : Nat) (hn : row.length = n) : RInv1 row w.heap.size n (w.alloc (.cells (zs n (.int .i64 0)).toArray 3)) := by
  refine ⟨List.replicate n 0, ?_, by simp [hn], ?_⟩
  · have : ic (List.replicate n 0) = zs n (.int .i64 0) := by simp [ic, zs]
    rw [this]; exact Blk.new w _ _
  · rw [List.drop_of_length_le (by simp), List.drop_of_length_le (by omega)]
end
def Tx (w : World) (x : Two) (i B : Nat) (arr : List Value) (g1 k : Nat) (wx : World) : Prop := TInv w x (i + 1) B arr wx ∧ RInv1 (rowI x i) g1 k wx
theorem Tx.below {w : World} {x : Two} {i B : Nat} {arr : List Value} {g1 k : Nat} {wx wy : World} (h : Tx w x i B arr g1 k wx) (hb : Below (g1 + 1) wx wy) (hB : B ≤ g1) : Tx w x i B arr g1 k wy :=
  ⟨h.1.below (hb.mono (by omega)), h.2.same (hb.block g1 (by omega))⟩

theorem info_r1 : (Try.prog.info? 22).map (fun i => (i.zero, i.size, i.bytes)) = some (some (.slice none 0 0), 1, 24) := by kernel_rfl
theorem info_r0 : (Try.prog.info? 3).map (fun i => (i.zero, i.size, i.bytes)) = some (some (.int .i64 0), 1, 8) := by kernel_rfl
theorem min_l {a b : Int} (h : ¬ b < a) : min a b = a := by omega
theorem min_r {a b : Int} (h : b < a) : min a b = b := by omega

set_option maxRecDepth 100000 in
set_option maxHeartbeats 2000000 in
theorem rtable_any (x : Two) (w : World) (ha : Rd w x.Aa (ic x.a)) (hb : Rd w x.Ab (ic x.b)) (hf : x.Fine) :
    Calls Try.prog 44 #[.slice x.Aa x.a.length x.ca, .slice x.Ab x.b.length x.cb, .int .i64 x.g] w fun e w' => e = .returned (.slice (some ⟨w.heap.size, 0, none⟩) (x.a.length + 1) (x.a.length + 1)) ∧ ∃ B arr, TInv w x 0 B arr w' := by
  obtain ⟨i2, hi2, hz20, hz21, hz22⟩ := info_parts info_r1
  obtain ⟨i1, hi1, hz10, hz11, hz12⟩ := info_parts info_r0
  obtain ⟨hla, hlb, hg0, hg1, HMA0, HMB0⟩ := id hf
  have hmk2 := run_mk (P := Try.prog) 39 22 i2 _ 24 Try.underlying39 hi2 hz20 hz21 hz22 rfl ((x.a.length : Int) + 1) (x.a.length + 1) (by omega) (by omega) (by omega)
  have HMK := Lib.hid (run_mk (P := Try.prog) 22 3 i1 _ 8 Try.underlying22 hi1 hz10 hz11 hz12 rfl ((x.b.length : Int) + 1) (x.b.length + 1) (by omega) (by omega) (by omega))
  have HST := Lib.hid (tinv_start w x)
  have HF := Lib.hid hf
  have HMA := Lib.hid HMA0
  have HMB := Lib.hid HMB0
  have HA := Lib.hid ha
  have HB := Lib.hid hb
  clear hf HMA0 HMB0 ha hb hi2 hz20 hz21 hz22 hi1 hz10 hz11 hz12
  go_enter Try.func44, Try.ntmps44
  go_wp2
  go_loopw [8] (fun s wr => ∃ (lo B : Nat) (arr : List Value), lo ≤ x.a.length + 1 ∧ s = .int .i64 ((lo : Int) - 1) ∧ TInv w x lo B arr wr) (fun s _ => (intOf s + 1).toNat)
  case atStart => exact ⟨x.a.length + 1, w.heap.size + 1, zs (x.a.length + 1) (.slice none 0 0), Nat.le_refl _, by go_num, HST.out⟩
  case round =>
    obtain ⟨lo, B, arr, hlo, rfl, hinv⟩ := hrel
    by_cases hl0 : lo = 0
    · have hd : ¬ (0 : Int) ≤ (lo : Int) - 1 := by omega
      have hd' : ¬ (1 : Int) ≤ (lo : Int) := by omega
      have HL := Lib.hid hl0
      clear hl0
      go_wp2
      go_ret
      exact ⟨rfl, B, arr, by rw [← HL.out]; exact hinv⟩
    obtain ⟨i, rfl⟩ : ∃ s, lo = s + 1 := ⟨lo - 1, by omega⟩
    have hsub : ((i + 1 : Nat) : Int) - 1 = (i : Int) := by omega
    rw [hsub]
    clear hsub hl0 hmk2
    have hs1 : i ≤ x.a.length := by omega
    obtain ⟨v0, hv0, ho, hof⟩ := hinv.outer i hs1
    have hmk1 := HMK.out
    have hOsz : w.heap.size < wr.heap.size := by have := hinv.2.1; have := hinv.2.2.1; omega
    have HINV := Lib.hid hinv
    clear hinv hv0
    have hi0 : (0 : Int) ≤ (i : Int) := by omega
    have hi1 : (i : Int) < (x.a.length : Int) + 1 := by omega
    go_upto_region 6 with (fail)
    have hI1 : TInv w x (i + 1) B (arr.set i (.slice (some ⟨wr.heap.size, 0, none⟩) (x.b.length + 1) (x.b.length + 1))) ((wr.setCell ⟨w.heap.size, i, none⟩ (.slice (some ⟨wr.heap.size, 0, none⟩) (x.b.length + 1) (x.b.length + 1))).alloc (.cells (zs (x.b.length + 1) (.int .i64 0)).toArray 3)) :=
      (HINV.out.store (by omega) _).below ((Below.refl _ _).alloc (by have := HINV.out.2.2.1; simpa [World.setCell] using this) _)
    have hI2 : RInv1 (rowI x i) wr.heap.size (x.b.length + 1) ((wr.setCell ⟨w.heap.size, i, none⟩ (.slice (some ⟨wr.heap.size, 0, none⟩) (x.b.length + 1) (x.b.length + 1))).alloc (.cells (zs (x.b.length + 1) (.int .i64 0)).toArray 3)) := by
      have hsz : (wr.setCell ⟨w.heap.size, i, none⟩ (.slice (some ⟨wr.heap.size, 0, none⟩) (x.b.length + 1) (x.b.length + 1))).heap.size = wr.heap.size := by simp [World.setCell]
      have h1 := RInv1.start (row := rowI x i) (wr.setCell ⟨w.heap.size, i, none⟩ (.slice (some ⟨wr.heap.size, 0, none⟩) (x.b.length + 1) (x.b.length + 1))) (x.b.length + 1) (rowI_len _ _)
      rw [hsz] at h1
      exact h1
    have hBw := HINV.out.2.2.1
    have harr : (arr.set i (.slice (some ⟨wr.heap.size, 0, none⟩) (x.b.length + 1) (x.b.length + 1)))[i]? = some (.slice (some ⟨wr.heap.size, 0, none⟩) (x.b.length + 1) (x.b.length + 1)) := by
      have := HINV.out.2.2.2.2.1
      rw [List.getElem?_set_self (by omega)]
    have hJ : Tx w x i B (arr.set i (.slice (some ⟨wr.heap.size, 0, none⟩) (x.b.length + 1) (x.b.length + 1))) wr.heap.size (x.b.length + 1) ((wr.setCell ⟨w.heap.size, i, none⟩ (.slice (some ⟨wr.heap.size, 0, none⟩) (x.b.length + 1) (x.b.length + 1))).alloc (.cells (zs (x.b.length + 1) (.int .i64 0)).toArray 3)) := ⟨hI1, hI2⟩
    have HARR := Lib.hid harr
    clear hI1 hI2 harr HINV ho hof hmk1 hOsz HST hi0 hi1
    generalize (wr.setCell ⟨w.heap.size, i, none⟩ (.slice (some ⟨wr.heap.size, 0, none⟩) (x.b.length + 1) (x.b.length + 1))).alloc (.cells (zs (x.b.length + 1) (.int .i64 0)).toArray 3) = wq at *
    generalize arr.set i (.slice (some ⟨wr.heap.size, 0, none⟩) (x.b.length + 1) (x.b.length + 1)) = arr1 at *
    generalize wr.heap.size = g1 at *
    have hBg : B ≤ g1 := hBw
    clear hBw
    go_wp2_with fail
    go_loopw [9] (fun jv wr => ∃ k : Nat, k ≤ x.b.length + 1 ∧ jv = .int .i64 ((k : Int) - 1) ∧ Tx w x i B arr1 g1 k wr) (fun jv _ => (intOf jv + 1).toNat)
    case atStart => exact ⟨x.b.length + 1, Nat.le_refl _, by go_num, hJ⟩
    case round =>
      clear hJ
      obtain ⟨k, hk, rfl, hJ⟩ := hrel
      by_cases hk0 : k = 0
      · have hd : ¬ (0 : Int) ≤ (k : Int) - 1 := by omega
        have hd' : ¬ (1 : Int) ≤ (k : Int) := by omega
        have hfin : TInv w x i wr.heap.size arr1 wr := by
          have hr := hJ.2
          rw [hk0] at hr
          have hl := hr.lt
          have hf := hr.full (S := fun b => B ≤ b ∧ b < wr.heap.size) ⟨hBg, hl⟩ (x.b.length + 1)
          rw [rowI_len] at hf
          exact hJ.1.done (by have := hJ.1.2.2.1; omega) (Nat.le_refl _) HARR.out hf
        clear hk0 hJ
        go_wp2_with fail
        go_roundw
        case rel => exact ⟨i, wr.heap.size, arr1, by omega, by go_num, hfin⟩
        case measure => simp [intOf]
      obtain ⟨j, rfl⟩ : ∃ j, k = j + 1 := ⟨k - 1, by omega⟩
      have hsub : ((j + 1 : Nat) : Int) - 1 = (j : Int) := by omega
      rw [hsub]
      clear hsub hk0
      have hj1 : j ≤ x.b.length := by omega
      have hr0 := rc0_bd HF.out i j hs1 hj1
      have HR0 : Hid (rc0 x i j = x.g * 1000 * ((x.a.length : Int) - i + x.b.length - j)) := rfl
      have hr0' : 0 ≤ x.g * 1000 * ((x.a.length : Int) - i + x.b.length - j) ∧ x.g * 1000 * ((x.a.length : Int) - i + x.b.length - j) ≤ 60000000 := hr0
      have hd31 : decide ((0 : Int) ≤ (j : Int)) = true := by simp
      obtain ⟨b49, h49⟩ : ∃ v, decide (i < x.a.length) = v := ⟨_, rfl⟩
      have HJ := Lib.hid hJ
      clear hJ hr0
      go_upto_if 49 with (fail)
      go_cut [10] (fun v wx => v = .int .i64 (rc1 x i j) ∧ wx = wr)
      case first =>
        as_aux_lemma =>
        cases b49 with
        | false =>
          have hn : ¬ (i < x.a.length) := by simpa using h49
          have HE : Hid (rc1 x i j = rc0 x i j) := by show _ = _; unfold rc1; rw [if_neg hn]
          go_wp2_with fail
          go_meet
          case rel => exact ⟨by rw [HE.out, HR0.out], rfl⟩
        | true =>
          have hy : i < x.a.length := by simpa using h49
          have HE : Hid (rc1 x i j = min (rc0 x i j) (te x (i + 1) j + x.g * 1000)) := by show _ = _; unfold rc1; rw [if_pos hy]
          obtain ⟨b3, off3, cc3, e1, e2⟩ := HJ.out.1.entry (s := i + 1) (j := j) (Nat.le_refl _) (by omega) hj1
          have ht := te_bd HF.out (i + 1) j
          generalize te x (i + 1) j = t at *
          rw [HR0.out] at HE
          by_cases hm : t + x.g * 1000 < x.g * 1000 * ((x.a.length : Int) - i + x.b.length - j)
          · have HM := Lib.hid (min_r hm)
            go_wp2_with fail
            go_meet
            case rel => exact ⟨by rw [HE.out, HM.out], rfl⟩
          · have HM := Lib.hid (min_l hm)
            go_wp2_with fail
            go_meet
            case rel => exact ⟨by rw [HE.out, HM.out], rfl⟩
      case rest =>
      obtain ⟨rfl, hwx0⟩ := hcut
      have hwx := hwx0.symm
      clear hwx0
      subst hwx
      have hr1 : -1000 ≤ rc1 x i j ∧ rc1 x i j ≤ 60000000 := by
        have h1 := rc0_bd HF.out i j hs1 hj1
        have h2 := te_bd HF.out (i + 1) j
        unfold rc1
        split <;> omega
      obtain ⟨b66, h66⟩ : ∃ v, decide (j < x.b.length) = v := ⟨_, rfl⟩
      clear hr0' HR0
      go_upto_if 66 with (fail)
      go_cut [10] (fun v wx => v = .int .i64 (rc2 x i j) ∧ wx = wr)
      case first =>
        as_aux_lemma =>
        cases b66 with
        | false =>
          have hn : ¬ (j < x.b.length) := by simpa using h66
          have HE : Hid (rc2 x i j = rc1 x i j) := by show _ = _; unfold rc2; rw [if_neg hn]
          go_wp2_with fail
          go_meet
          case rel => exact ⟨by rw [HE.out], rfl⟩
        | true =>
          have hy : j < x.b.length := by simpa using h66
          have HE : Hid (rc2 x i j = min (rc1 x i j) (te x i (j + 1) + x.g * 1000)) := by show _ = _; unfold rc2; rw [if_pos hy]
          have e1 : wr.cell? ⟨w.heap.size, i, none⟩ = some (.slice (some ⟨g1, 0, none⟩) (x.b.length + 1) (x.b.length + 1)) := by
            obtain ⟨v, hv, hc, _⟩ := HJ.out.1.outer i hs1
            rw [HARR.out] at hv; rw [hc, ← hv]
          have e2 := HJ.out.2.at_ (j := j + 1) (by rw [rowI_len]; omega) (Nat.le_refl _)
          rw [rowI_at] at e2
          have ht := te_bd HF.out i (j + 1)
          generalize te x i (j + 1) = t at *
          generalize rc1 x i j = r1 at *
          by_cases hm : t + x.g * 1000 < r1
          · have HM := Lib.hid (min_r hm)
            go_wp2_with fail
            go_meet
            case rel => exact ⟨by rw [HE.out, HM.out], rfl⟩
          · have HM := Lib.hid (min_l hm)
            go_wp2_with fail
            go_meet
            case rel => exact ⟨by rw [HE.out, HM.out], rfl⟩
      case rest =>
      obtain ⟨rfl, hwx0⟩ := hcut
      have hwx := hwx0.symm
      clear hwx0
      subst hwx
      have hr2 : -1000 ≤ rc2 x i j ∧ rc2 x i j ≤ 60000000 := by
        have h2 := te_bd HF.out i (j + 1)
        unfold rc2
        split <;> omega
      obtain ⟨b89, hb89⟩ : ∃ v, decide (i < x.a.length ∧ j < x.b.length) = v := ⟨_, rfl⟩
      have H89 := Lib.hid hb89
      clear hb89 h49 h66 hr1
      go_upto_region 14 with (fail)
      go_cut [89] (fun v wx => v = .bool b89 ∧ wx = wr)
      case first =>
        as_aux_lemma =>
        by_cases h1 : i < x.a.length
        · have h1b : decide (i < x.a.length) = true := by simpa using h1
          by_cases h2 : j < x.b.length
          · have h2b : decide (j < x.b.length) = true := by simpa using h2
            have HE : Hid (decide (i < x.a.length ∧ j < x.b.length) = true) := by show _ = _; simp [h1, h2]
            clear h1 h2
            go_wp2_with fail
            go_meet
            case rel => exact ⟨by rw [← H89.out, HE.out], rfl⟩
          · have h2b : decide (j < x.b.length) = false := by simpa using h2
            have HE : Hid (decide (i < x.a.length ∧ j < x.b.length) = false) := by show _ = _; simp [h2]
            clear h1 h2
            go_wp2_with fail
            go_meet
            case rel => exact ⟨by rw [← H89.out, HE.out], rfl⟩
        · have h1b : decide (i < x.a.length) = false := by simpa using h1
          have HE : Hid (decide (i < x.a.length ∧ j < x.b.length) = false) := by show _ = _; simp [h1]
          clear h1
          go_wp2_with fail
          go_meet
          case rel => exact ⟨by rw [← H89.out, HE.out], rfl⟩
      case rest =>
      obtain ⟨rfl, hwx0⟩ := hcut
      have hwx := hwx0.symm
      clear hwx0
      subst hwx
      go_upto_if 89 with (fail)
      go_cut [10] (fun v wx => v = .int .i64 (rc3 x i j) ∧ ∃ n, wx = wr.drewN n)
      case first =>
        as_aux_lemma =>
        by_cases hc : i < x.a.length ∧ j < x.b.length
        case neg =>
          have hcb : b89 = false := by rw [← H89.out]; simpa using hc
          subst hcb
          have HE : Hid (rc3 x i j = rc2 x i j) := by show _ = _; unfold rc3; rw [if_neg hc]
          clear hc
          go_wp2_with fail
          go_meet
          case rel => exact ⟨by rw [HE.out], 0, rfl⟩
        have hcb : b89 = true := by rw [← H89.out]; simpa using hc
        subst hcb
        have HE : Hid (rc3 x i j = min (rc2 x i j) (te x (i + 1) (j + 1) + bd (x.a.getD i 0) (x.b.getD j 0) * 1000 - 1)) := by show _ = _; unfold rc3; rw [if_pos hc]
        obtain ⟨h1, h2⟩ := hc
        obtain ⟨na, hna, hna2⟩ := HMA.out i
        obtain ⟨nb, hnb, hnb2⟩ := HMB.out j
        obtain ⟨b3, off3, cc3, e1, e2⟩ := HJ.out.1.entry (s := i + 1) (j := j + 1) (Nat.le_refl _) (by omega) (by omega)
        obtain ⟨ba, oa, hAa, _, hac⟩ := mark_cell (HA.out.below HJ.out.1.1) h1
        obtain ⟨bb, ob, hAb, _, hbc⟩ := mark_cell (HB.out.below HJ.out.1.1) h2
        have ht := te_bd HF.out (i + 1) (j + 1)
        rw [hna] at hac HE
        rw [hnb] at hbc HE
        have HO := Lib.hid (fun W => rbits_any na nb W hna2 hnb2)
        have hd0 := bd_nn (na : Int) (nb : Int)
        have hd8 := bd_le (na : Int) (nb : Int)
        clear hna hnb
        generalize bd (na : Int) (nb : Int) = d at *
        generalize te x (i + 1) (j + 1) = t at *
        generalize rc2 x i j = r2 at *
        generalize x.Aa = Aa at *
        generalize x.Ab = Ab at *
        subst hAa
        subst hAb
        have hw1 : IntKind.i64.wrap ((i : Int) + 1) = (i : Int) + 1 := IntWalk.i64_in _ (by omega)
        have hw2 : IntKind.i64.wrap ((j : Int) + 1) = (j : Int) + 1 := IntWalk.i64_in _ (by omega)
        have hw3 : IntKind.i64.wrap (d * 1000) = d * 1000 := IntWalk.i64_in _ (by omega)
        have hw4 : IntKind.i64.wrap (t + d * 1000) = t + d * 1000 := IntWalk.i64_in _ (by omega)
        have hw5 : IntKind.i64.wrap (t + d * 1000 - 1) = t + d * 1000 - 1 := IntWalk.i64_in _ (by omega)
        have hi0 : (0 : Int) ≤ (i : Int) := by omega
        have hj0 : (0 : Int) ≤ (j : Int) := by omega
        have hi1 : (i : Int) < (x.a.length : Int) := by omega
        have hj2 : (j : Int) < (x.b.length : Int) := by omega
        have hi2 : (i : Int) + 1 < (x.a.length : Int) + 1 := by omega
        have hj3 : (j : Int) + 1 < (x.b.length : Int) + 1 := by omega
        have hi3 : 0 ≤ (i : Int) + 1 := by omega
        have hj4 : 0 ≤ (j : Int) + 1 := by omega
        have hi4 : ((i : Int) + 1).toNat = i + 1 := by omega
        have hj5 : ((j : Int) + 1).toNat = j + 1 := by omega
        by_cases hm : t + d * 1000 - 1 < r2
        · have HM := Lib.hid (min_r hm)
          go_wp2_with fail
          go_region_held3 (fun W => W.cell? ⟨w.heap.size, i + 1, none⟩ = some (.slice (some ⟨b3, off3, none⟩) (x.b.length + 1) cc3) ∧ W.cell? ⟨b3, off3 + (j + 1), none⟩ = some (.int .i64 t) ∧ W.cell? ⟨ba, oa + i, none⟩ = some (.int .i64 (na : Int)) ∧ W.cell? ⟨bb, ob + j, none⟩ = some (.int .i64 (nb : Int)))
            (first | assumption | go_keep)
            (first | (go_at_call 46; refine (HO.out _).mono ?_; rintro e w' ⟨rfl, rfl⟩))
          go_wp2_with fail
          go_meet
          case rel => exact ⟨by rw [HE.out, HM.out], 1, rfl⟩
        · have HM := Lib.hid (min_l hm)
          go_wp2_with fail
          go_region_held3 (fun W => W.cell? ⟨w.heap.size, i + 1, none⟩ = some (.slice (some ⟨b3, off3, none⟩) (x.b.length + 1) cc3) ∧ W.cell? ⟨b3, off3 + (j + 1), none⟩ = some (.int .i64 t) ∧ W.cell? ⟨ba, oa + i, none⟩ = some (.int .i64 (na : Int)) ∧ W.cell? ⟨bb, ob + j, none⟩ = some (.int .i64 (nb : Int)))
            (first | assumption | go_keep)
            (first | (go_at_call 46; refine (HO.out _).mono ?_; rintro e w' ⟨rfl, rfl⟩))
          go_wp2_with fail
          go_meet
          case rel => exact ⟨by rw [HE.out, HM.out], 1, rfl⟩
      case rest =>
      obtain ⟨rfl, n, hwx⟩ := hcut
      have hJ : Tx w x i B arr1 g1 (j + 1) wc := by rw [hwx]; exact HJ.out.below (below_drewN (Below.refl _ _) n) hBg
      have HCE := Lib.hid (rc_eq HF.out i j hs1 hj1)
      clear hwx HJ H89 hr2
      have e1 : wc.cell? ⟨w.heap.size, i, none⟩ = some (.slice (some ⟨g1, 0, none⟩) (x.b.length + 1) (x.b.length + 1)) := by
        obtain ⟨v, hv, hc, _⟩ := hJ.1.outer i hs1
        rw [HARR.out] at hv; rw [hc, ← hv]
      obtain ⟨⟨o1, e2⟩, e4⟩ := hJ.2.cellF (j := j) (by rw [rowI_len]; omega)
      have hrow := hJ.2.store (k := j) (by rw [rowI_len]; omega) (s := rc3 x i j) (by rw [rowI_at]; exact HCE.out)
      have HFIN : Hid (Tx w x i B arr1 g1 j (wc.setCell ⟨g1, j, none⟩ (.int .i64 (rc3 x i j)))) :=
        ⟨hJ.1.below (Below.setCell (p := ⟨g1, j, none⟩) (Below.refl _ _) hBg _), hrow⟩
      clear hrow hJ
      generalize rc3 x i j = r3 at *
      go_wp2_with fail
      go_roundw
      case rel => exact ⟨j, by omega, by go_num, HFIN.out⟩
      case measure => simp [intOf]
end Go.Proofs.Ytdgkchdobmhpnaa
