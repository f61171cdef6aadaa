/- The contract of match.Choose. -/
import Derived.Test.YtdgkchdobmhpnaaChooseC
import Derived.Test.YtdgkchdobmhpnaaChooseR
namespace Go.Proofs.Ytdgkchdobmhpnaa
open Go.RowKit Go.Dw

/-- numbers, a number and a fault are returned; old memory is as it was -/
def LRes (w : World) (r : List Int × Int × Int) (e : Ending) (w' : World) : Prop :=
  ∃ A c, e = .returned (.tuple #[.slice A r.1.length c, .int .i64 r.2.1, .int .i64 r.2.2]) ∧ Rd w' A (ic r.1) ∧ Below w.heap.size w w'
theorem LRes.mk0 {w w' : World} {r : List Int × Int × Int} {a f : Int} (h : r = ([], a, f)) (hb : Below w.heap.size w w') : LRes w r (.returned (.tuple #[.slice none 0 0, .int .i64 a, .int .i64 f])) w' :=
  ⟨none, 0, by rw [h]; rfl, .inl (by rw [h]; rfl), hb⟩
theorem chR_csc {t : Int} {rows : List (List Int)} {cost most : Int} (h : csc t rows cost most ≠ 0) : chR t rows cost most = ([], 0, csc t rows cost most) := by unfold chR; rw [if_pos h]
theorem chR_nil {t : Int} {rows : List (List Int)} {cost most : Int} (h : csc t rows cost most = 0) (hn : rows.length = 0) : chR t rows cost most = ([], 0, 0) := by unfold chR; rw [if_neg (fun hh => hh h), if_pos hn]
theorem chR_none {t : Int} {rows : List (List Int)} {cost most : Int} (h : csc t rows cost most = 0) (hn : rows.length ≠ 0) (hv : (fb (tb t.toNat most.toNat cost rows 0) most.toNat t.toNat).2 = NONE) : chR t rows cost most = ([], 0, 9) := by
  unfold chR; rw [if_neg (fun hh => hh h), if_neg hn, if_pos hv]
theorem chR_ok {t : Int} {rows : List (List Int)} {cost most : Int} (h : csc t rows cost most = 0) (hn : rows.length ≠ 0) (hv : (fb (tb t.toNat most.toNat cost rows 0) most.toNat t.toNat).2 ≠ NONE) :
    chR t rows cost most = (outT t.toNat most.toNat cost rows rows.length, (fb (tb t.toNat most.toNat cost rows 0) most.toNat t.toNat).2, 0) := by
  unfold chR; rw [if_neg (fun hh => hh h), if_neg hn, if_neg hv]

theorem Inv.old {w0 wr : World} {KB n T M : Nat} {cost : Int} {pv : Value} {pts : List (List Int)} {lo B : Nat} {arr : List Value} (h : Inv w0 KB n T M cost pv pts lo B arr wr) {b : Nat} (hb : b < w0.heap.size) (hne : b ≠ KB) : wr.heap[b]? = w0.heap[b]? :=
  h.1.block b hb (fun e => hne (Option.some.inj e))
/-- below the chooser's block nothing has turned -/
theorem Inv.belowK {w0 wr : World} {KB n T M : Nat} {cost : Int} {pv : Value} {pts : List (List Int)} {lo B : Nat} {arr : List Value} (h : Inv w0 KB n T M cost pv pts lo B arr wr) (hK : KB < w0.heap.size) : Below KB w0 wr :=
  ⟨h.1.os, h.1.tape, h.1.output, h.1.size, fun b hb => h.old (by omega) (by omega)⟩
/-- the entry of the table of section s -/
theorem Inv.entry {w0 wr : World} {KB n T M : Nat} {cost : Int} {pv : Value} {pts : List (List Int)} {B : Nat} {arr : List Value} (h : Inv w0 KB n T M cost pv pts 0 B arr wr) {s t c : Nat} (hs : s < n) (ht : t < (tb T M cost pts s).length) (hc : c < ((tb T M cost pts s)[t]).length) :
    ∃ b off c1 b2 off2 c2, wr.cell? ⟨w0.heap.size, s, none⟩ = some (.slice (some ⟨b, off, none⟩) (tb T M cost pts s).length c1) ∧ wr.cell? ⟨b, off + t, none⟩ = some (.slice (some ⟨b2, off2, none⟩) ((tb T M cost pts s)[t]).length c2) ∧ wr.cell? ⟨b2, off2 + c, none⟩ = some (.int .i64 (en (tb T M cost pts s) t c)) := by
  obtain ⟨h1, h2, h3, h4, h5, h6, h7, h8⟩ := h
  have hl : s < arr.length := by omega
  obtain ⟨b, off, c1, b2, off2, c2, e1, e2, e3⟩ := (h8 s (Nat.zero_le _) hl).at_ ht hc
  refine ⟨b, off, c1, b2, off2, c2, ?_, e2, by rw [en_at ht hc]; exact e3⟩
  rw [h6.cell s, List.getElem?_eq_getElem hl, e1]

theorem inv_x {w1 wr : World} {o : Obj} {n T M : Nat} {cost : Int} {pv : Value} {pts : List (List Int)} {lo B : Nat} {arr : List Value} (h : Inv (w1.alloc o) w1.heap.size n T M cost pv pts lo B arr wr) : Below w1.heap.size w1 wr :=
  ((Below.refl _ _).alloc (Nat.le_refl _) o).trans (h.belowK (by simp))
theorem ic_app (a b : List Int) : ic (a ++ b) = ic a ++ ic b := by simp [ic]
theorem nat_sub_toNat {a : Nat} (h : 0 < a) : ((a : Int) - 1).toNat = a - 1 := by omega

set_option maxRecDepth 100000 in
set_option maxHeartbeats 2000000 in
theorem choose_any (x : Sco) (w : World) (h : x.Ok w) :
    Calls Try.prog 18 #[.agg x.cells.toArray] w (LRes w (chR x.t x.rows x.cost x.most)) := by
  have hb0 : Below w.heap.size w (w.alloc (.cells x.cells.toArray 41)) := (Below.refl _ _).alloc (Nat.le_refl _) _
  have h1 := h.below hb0
  have HB0 := Lib.hid hb0
  have HCK := Lib.hid (checkScores_any x _ h1)
  have HRA := Lib.hid (rows_at x)
  have HRL := Lib.hid (rows_len x)
  clear hb0
  generalize x.rows = rows at *
  obtain ⟨t, ⟨PA, pcap, L⟩, cost, most⟩ := x
  simp only [Sco.cells, Slc.v] at *
  clear h
  go_enter Try.func18, Try.ntmps18
  go_wp2_with fail
  refine HCK.out.mono ?_
  rintro e w1 ⟨rfl, hb1⟩
  have HB1 := Lib.hid (HB0.out.trans (hb1.mono (by simp)))
  have h2 := h1.below hb1
  obtain ⟨c0, c1, c2, c3⟩ := sco_cells (by simpa using hb1)
  have hX : w.heap.size < w1.heap.size := by have := hb1.size; simp at this; omega
  clear hb1 h1 HCK HB0
  by_cases hz : csc t rows cost most = 0
  case neg =>
    have hne : (csc t rows cost most != 0) = true := by simpa using hz
    have HZ := Lib.hid hz
    clear hz
    go_wp2_with fail
    go_ret3
    exact LRes.mk0 (chR_csc HZ.out) HB1.out
  obtain ⟨⟨ht1, ht2⟩, hl60, hrowF, hco1, hco2, hmo1, hmo2⟩ := csc_zero hz
  have HRF := Lib.hid hrowF
  have hne : (csc t rows cost most != 0) = false := by simpa using hz
  have HZ := Lib.hid hz
  rw [HRL.out] at hl60
  clear hz hrowF
  by_cases hn0 : L.length = 0
  · have h3 : ((L.length : Int) == 0) = true := by rw [hn0]; rfl
    have HN0 := Lib.hid (show rows.length = 0 by rw [HRL.out]; exact hn0)
    clear hn0
    go_wp2_with fail
    go_ret3
    exact LRes.mk0 (chR_nil HZ.out HN0.out) HB1.out
  have h3 : ((L.length : Int) == 0) = false := beq_eq_false_iff_ne.2 (by omega)
  have HN0 := Lib.hid (show rows.length ≠ 0 by rw [HRL.out]; exact hn0)
  have hnp : 0 < L.length := by omega
  clear hn0
  obtain ⟨T, rfl⟩ := Int.eq_ofNat_of_zero_le (show 0 ≤ t by omega)
  obtain ⟨M, rfl⟩ := Int.eq_ofNat_of_zero_le hmo1
  -- the rows as fill wants them
  have hpts : RdIIs (fun b => b < w1.heap.size) w1 (.slice PA L.length pcap) rows := by
    obtain ⟨hn, hrd, hrs⟩ := h2
    refine ⟨PA, pcap, L.map Slc.v, by rw [HRL.out], by rw [List.length_map, HRL.out], hrd.rds, fun i hi1 hi2 => ?_⟩
    have hiL : i < L.length := by simpa using hi1
    have := (hrs L[i] (List.getElem_mem hiL)).2
    have e : rows[i] = L[i].xs := by rw [← getRow hi2]; exact HRA.out i hiL
    rw [e, List.getElem_map]
    exact ⟨L[i].a, L[i].c, rfl, this.rds⟩
  have hrow : ∀ s, s < L.length → (rows.getD s []).length = T := by
    intro s hs
    have := (rowF_zero (HRF.out s (by rw [HRL.out]; exact hs))).1
    omega
  have hent : ∀ s u, -1 ≤ (rows.getD s []).getD u 0 ∧ (rows.getD s []).getD u 0 ≤ 1000000 := by
    intro s u
    by_cases hs : s < rows.length
    · have ha := (rowF_zero (HRF.out s hs)).2
      by_cases hu : u < (rows.getD s []).length
      · have := okP_t (List.all_eq_true.1 ha _ (List.getElem_mem hu))
        rw [List.getD_eq_getElem?_getD (l := rows.getD s []), List.getElem?_eq_getElem hu]; exact this
      · rw [List.getD_eq_getElem?_getD (l := rows.getD s []), List.getElem?_eq_none (by omega)]; simp
    · rw [List.getD_eq_getElem?_getD (l := rows), List.getElem?_eq_none (by omega)]; simp
  have hfill := fill_any w1.heap.size L.length T M cost PA pcap rows (w1.alloc (.cells (kCells T (.slice PA L.length pcap) cost M (.slice none 0 0)).toArray 64)) (Blk.new w1 _ _)
    ((hpts.same (Same.alloc _ _)).mono (fun b _ hb => ⟨by simp; omega, by omega⟩)) (by rw [HRL.out]) (by omega) (by omega) (by omega) hco1 hco2 hrow hent
  have HFILL := Lib.hid hfill
  have HROW := Lib.hid hrow
  have HENT := Lib.hid hent
  clear hfill hrow hent hpts h2 HRA HRF
  go_wp2_with fail
  refine HFILL.out.mono ?_
  rintro e w3 ⟨rfl, B, arr, hinv⟩
  have hTB := tb_bd T M cost rows hco1 hco2 (fun s t => (HENT.out s t).2) (by rw [HRL.out]; exact hl60)
  have HTB : Hid (∀ s, s < L.length → TabD (L.length - s) T M (tb T M cost rows s)) := by
    intro s hs
    have := hTB (L.length - s - 1) s (by rw [HRL.out]; omega)
    rwa [show L.length - s - 1 + 1 = L.length - s by omega] at this
  have HENTRY : Hid (∀ (wr : World) (s u c : Nat), Inv (w1.alloc (.cells (kCells T (.slice PA L.length pcap) cost M (.slice none 0 0)).toArray 64)) w1.heap.size L.length T M cost (.slice PA L.length pcap) rows 0 B arr wr → s < L.length → u < T → c ≤ M →
      ∃ b off c1 b2 off2 c2, wr.cell? ⟨w1.heap.size + 1, s, none⟩ = some (.slice (some ⟨b, off, none⟩) T c1) ∧ wr.cell? ⟨b, off + u, none⟩ = some (.slice (some ⟨b2, off2, none⟩) (M + 1) c2) ∧ wr.cell? ⟨b2, off2 + c, none⟩ = some (.int .i64 (en (tb T M cost rows s) u c))) := by
    intro wr s u c hi hs hu hc
    have hd := HTB.out s hs
    have hlT : u < (tb T M cost rows s).length := by rw [hd.1]; exact hu
    have hlM : (tb T M cost rows s)[u].length = M + 1 := by rw [← getRow hlT]; exact (hd.2 u hu).1
    obtain ⟨b, off, c1, b2, off2, c2, e1, e2, e3⟩ := hi.entry hs hlT (by omega : c < (tb T M cost rows s)[u].length)
    rw [hd.1] at e1
    rw [hlM] at e2
    exact ⟨b, off, c1, b2, off2, c2, by simpa using e1, e2, e3⟩
  have HINV := Lib.hid hinv
  have hB1 := hinv.2.1
  have hB2 := hinv.2.2.1
  simp at hB1
  clear hTB hinv HFILL
  have HXC : Hid (∀ wr : World, Inv (w1.alloc (.cells (kCells T (.slice PA L.length pcap) cost M (.slice none 0 0)).toArray 64)) w1.heap.size L.length T M cost (.slice PA L.length pcap) rows 0 B arr wr →
      wr.cell? ⟨w.heap.size, 0, none⟩ = some (.int .i64 (T : Int)) ∧ wr.cell? ⟨w.heap.size, 1, none⟩ = some (.slice PA L.length pcap) ∧ wr.cell? ⟨w.heap.size, 2, none⟩ = some (.int .i64 cost) ∧ wr.cell? ⟨w.heap.size, 3, none⟩ = some (.int .i64 (M : Int))) := by
    intro wr hi
    have hb := inv_x hi
    refine ⟨?_, ?_, ?_, ?_⟩ <;> (rw [hb.cell (by exact hX)]; assumption)
  clear c0 c1 c2 c3
  obtain ⟨x0, x1, x2, x3⟩ := HXC.out w3 HINV.out
  have k4 : w3.cell? ⟨w1.heap.size, 4, none⟩ = some (.slice (some ⟨w1.heap.size + 1, 0, none⟩) L.length L.length) := by
    obtain ⟨_, _, _, _, k4⟩ := HINV.out.cells
    simpa using k4
  go_wp2_with fail
  go_loopw [8, 9, 35] (fun f v i wr => ∃ u nq : Nat, u ≤ T ∧ i = .int .i64 u ∧ f = .int .i64 (fb (tb T M cost rows 0) M u).1 ∧ v = .int .i64 (fb (tb T M cost rows 0) M u).2 ∧ wr = w3.drewN nq) (fun _ _ i _ => T - (intOf i).toNat)
  case atStart => exact ⟨0, 0, Nat.zero_le _, rfl, rfl, rfl, rfl⟩
  case round =>
    obtain ⟨u, nq, hu, rfl, rfl, rfl, rfl⟩ := hrel
    by_cases hul : u < T
    · obtain ⟨b, off, c1, b2, off2, c2, e1, e2, e3⟩ := HENTRY.out w3 0 u M HINV.out hnp hul (Nat.le_refl _)
      have hF : fb (tb T M cost rows 0) M (u + 1) = if (fb (tb T M cost rows 0) M u).2 < en (tb T M cost rows 0) u M then (u, en (tb T M cost rows 0) u M) else fb (tb T M cost rows 0) M u := rfl
      have HF := Lib.hid hF
      clear hF
      have hi1 : (0 : Int) < (L.length : Int) := by omega
      have hi2 : (u : Int) < (T : Int) := by omega
      have hi3 : (M : Int) < (M : Int) + 1 := by omega
      by_cases hgt : (fb (tb T M cost rows 0) M u).2 < en (tb T M cost rows 0) u M
      · have HF2 : Hid (fb (tb T M cost rows 0) M (u + 1) = (u, en (tb T M cost rows 0) u M)) := by show _ = _; rw [HF.out, if_pos hgt]
        go_wp2_with fail
        go_quiet (fail)
        go_wp2_with fail
        go_roundw
        case rel => exact ⟨u + 1, _, by omega, by go_num, by rw [HF2.out], by rw [HF2.out], rfl⟩
        case measure => simp [intOf]; omega
      · have HF2 : Hid (fb (tb T M cost rows 0) M (u + 1) = fb (tb T M cost rows 0) M u) := by show _ = _; rw [HF.out, if_neg hgt]
        go_wp2_with fail
        go_quiet (fail)
        go_wp2_with fail
        go_roundw
        case rel => exact ⟨u + 1, _, by omega, by go_num, by rw [HF2.out], by rw [HF2.out], rfl⟩
        case measure => simp [intOf]; omega
    · have hfT : Hid ((fb (tb T M cost rows 0) M u) = (fb (tb T M cost rows 0) M T)) := by
        have : u = T := by omega
        show _ = _; rw [this]
      have hfl : (fb (tb T M cost rows 0) M u).1 < T := by rw [hfT.out]; exact fb_lt _ _ _ (by omega)
      obtain ⟨vv, hvv⟩ : ∃ v : Int, v = (fb (tb T M cost rows 0) M u).2 := ⟨_, rfl⟩
      obtain ⟨ff, hff⟩ : ∃ v : Nat, v = (fb (tb T M cost rows 0) M u).1 := ⟨_, rfl⟩
      rw [← hvv, ← hff]
      rw [← hff] at hfl
      have HVV : Hid (vv = (fb (tb T M cost rows 0) M T).2) := by show _ = _; rw [hvv, hfT.out]
      have HFF : Hid (ff = (fb (tb T M cost rows 0) M T).1) := by show _ = _; rw [hff, hfT.out]
      clear hvv hff hfT
      have hI := HINV.out.below (below_drewN (Below.refl _ _) nq) (by simp)
      by_cases hvn : vv = NONE
      · have h5 : (vv == -1152921504606846976) = true := by simpa [NONE] using hvn
        have HVN := Lib.hid hvn
        clear hvn
        go_wp2_with fail
        go_ret3
        exact LRes.mk0 (chR_none HZ.out HN0.out (by rw [Int.toNat_natCast, Int.toNat_natCast, ← HVV.out]; exact HVN.out)) (HB1.out.trans ((inv_x hI).mono (by omega)))
      have h5 : (vv == -1152921504606846976) = false := by simpa [NONE] using hvn
      have HVN : Hid ((fb (tb T M cost rows 0) M T).2 ≠ NONE) := by show _ ≠ _; rw [← HVV.out]; exact hvn
      have HST0 := Lib.hid (st_zero (T := T) (M := M) (cost := cost) (pts := rows) (by rw [HRL.out]; exact hnp) HVN.out)
      have HSTA := Lib.hid (fun j hj => st_all HST0.out j hj)
      clear hvn
      have hxa : ((w3.drewN nq).alloc (.cells #[.int .i64 (ff : Int)] 3)).cell? ⟨w.heap.size, 3, none⟩ = some (.int .i64 (M : Int)) :=
        (World.cell?_alloc_lt (w3.drewN nq) _ ⟨w.heap.size, 3, none⟩ (by show w.heap.size < w3.heap.size; omega)).trans x3
      go_wp2_with fail
      go_quiet (fail)
      go_wp2_with fail
      clear hxa
      go_loopw [12, 13, 14] (fun v s c wr => ∃ j : Nat, j < L.length ∧ s = .int .i64 j ∧ c = .int .i64 (stp T M cost rows j).2 ∧ wr.ownsRow B 3 1 v (outT T M cost rows (j + 1)).length (ic (outT T M cost rows (j + 1))) ∧ Inv (w1.alloc (.cells (kCells T (.slice PA L.length pcap) cost M (.slice none 0 0)).toArray 64)) w1.heap.size L.length T M cost (.slice PA L.length pcap) rows 0 B arr wr) (fun _ s _ _ => L.length - (intOf s).toNat)
      case atStart =>
        refine ⟨0, hnp, rfl, rfl, ?_, ?_⟩
        · have ho : outT T M cost rows (0 + 1) = [(ff : Int)] := by rw [HFF.out]; rfl
          rw [ho]
          exact ⟨rfl, .inr ⟨w3.heap.size, 1, #[.int .i64 (ff : Int)], rfl, hB2, heap_alloc_new (w3.drewN nq) _, by simp, by unfold maxLen; omega, rfl, rfl⟩⟩
        · exact (hI.below ((Below.refl _ _).alloc (by exact hB2) _) (by simp)).below (below_drewN (Below.refl _ _) _) (by simp)
      case round =>
        clear hI x0 x1 x2 x3 k4 HINV
        obtain ⟨j, hj, rfl, rfl, hown, hI⟩ := hrel
        obtain ⟨q1, q2, q3, q4, q5, q6⟩ := HSTA.out j (by rw [HRL.out]; exact hj)
        have hol := outT_len T M cost rows (j + 1)
        rw [hol] at hown
        by_cases hjn : j + 1 < L.length
        case neg =>
          have hjL : j + 1 = L.length := by omega
          have hjn' : ¬ ((j : Int) + 1 < (L.length : Int)) := by omega
          have HR := Lib.hid (chR_ok HZ.out HN0.out (by rw [Int.toNat_natCast, Int.toNat_natCast]; exact HVN.out))
          have HOE : Hid (outT T M cost rows (j + 1) = outT (T : Int).toNat (M : Int).toNat cost rows rows.length) := by show _ = _; rw [Int.toNat_natCast, Int.toNat_natCast, HRL.out, hjL]
          obtain ⟨A2, c2, rfl⟩ := slice_of_own hown
          have hrd := Rd.of_own hown
          have HLL := Lib.hid hol
          have HBL := Lib.hid (HB1.out.trans ((inv_x hI).mono (by omega)))
          clear hjL hol q1 q2 q3 q4 q5 q6 hown hI
          go_wp2_with fail
          go_ret3
          refine ⟨A2, c2, ?_, by rw [HR.out, ← HOE.out]; exact hrd, HBL.out⟩
          rw [HR.out, ← HOE.out, HLL.out, HVV.out]; rfl
        obtain ⟨HSTN, u0, hu0, hw0⟩ := st_step (by rw [HRL.out]; exact hjn) (HSTA.out j (by rw [HRL.out]; exact hj))
        have HSTN1 := HSTN.1
        have HSTN2 := HSTN.2.1
        have hstp : stp T M cost rows (j + 1) = (nu (tb T M cost rows (j + 1)) cost (stp T M cost rows j).1 (stp T M cost rows j).2 T (en (tb T M cost rows j) (stp T M cost rows j).1 (stp T M cost rows j).2 - (rows.getD j []).getD (stp T M cost rows j).1 0),
            if nu (tb T M cost rows (j + 1)) cost (stp T M cost rows j).1 (stp T M cost rows j).2 T (en (tb T M cost rows j) (stp T M cost rows j).1 (stp T M cost rows j).2 - (rows.getD j []).getD (stp T M cost rows j).1 0) = (stp T M cost rows j).1 then (stp T M cost rows j).2 else (stp T M cost rows j).2 - 1) := rfl
        have hosucc := outT_succ T M cost rows (j + 1)
        have hoat : (ic (outT T M cost rows (j + 1)))[j]? = some (.int .i64 ((stp T M cost rows j).1 : Int)) := by
          have h1 := outT_at T M cost rows (j + 1) j (by omega)
          rw [getD_at' _ _ _ (by rw [hol]; omega)] at h1
          rw [ic_at _ j (by rw [hol]; omega), h1]
        obtain ⟨g, cap, rfl, hgB, hgl⟩ := hown.form (by omega)
        have hoc : wr.cell? ⟨g, j, none⟩ = some (.int .i64 ((stp T M cost rows j).1 : Int)) := by
          rw [hown.cellAt j (by omega)]; exact hoat
        obtain ⟨x0, x1, x2, x3⟩ := HXC.out wr hI
        have k4 : wr.cell? ⟨w1.heap.size, 4, none⟩ = some (.slice (some ⟨w1.heap.size + 1, 0, none⟩) L.length L.length) := by
          obtain ⟨_, _, _, _, k4⟩ := hI.cells
          simpa using k4
        have k2 : wr.cell? ⟨w1.heap.size, 2, none⟩ = some (.int .i64 cost) := hI.cells.2.2.1
        obtain ⟨eb, eoff, ec1, eb2, eoff2, ec2, e1, e2, e3⟩ := HENTRY.out wr j (stp T M cost rows j).1 (stp T M cost rows j).2 hI hj q1 q2
        have hjr : j < rows.length := by rw [HRL.out]; exact hj
        have hjl : (rows[j]).length = T := by rw [← getRow hjr]; exact HROW.out j hj
        obtain ⟨pb, poff, pc1, pb2, poff2, pc2, hpe, hp1, hp2⟩ := hI.2.2.2.2.1.at_ (i := j) (k := (stp T M cost rows j).1) hjr (by omega)
        have hpv : rows[j][(stp T M cost rows j).1]'(by omega) = (rows.getD j []).getD (stp T M cost rows j).1 0 := by
          rw [getRow hjr, getD_at' _ _ _ (by omega)]
        rw [hpv] at hp2
        rw [hjl] at hp1
        have hPA : PA = some ⟨pb, poff, none⟩ := by injection hpe
        rw [hPA] at x1
        have hTBn := (HTB.out (j + 1) hjn).tabB (by omega)
        have hTLn := (HTB.out (j + 1) hjn).1
        have hTBj := ((HTB.out j hj).tabB (by omega) (stp T M cost rows j).1 (by rw [(HTB.out j hj).1]; exact q1)).2 (stp T M cost rows j).2 q2
        have hpb := HENT.out j (stp T M cost rows j).1
        obtain ⟨vn, hvn, hon, _⟩ := hI.outer (j + 1) hjn
        have hon' : wr.cell? ⟨w1.heap.size + 1, j + 1, none⟩ = some vn := by simpa using hon
        have hrn : RdIIs (fun b => (w1.alloc (.cells (kCells T (.slice PA L.length pcap) cost M (.slice none 0 0)).toArray 64)).heap.size < b ∧ b < B) wr vn (tb T M cost rows (j + 1)) := by
          have hl : j + 1 < arr.length := by have := hI.2.2.2.2.2.2.1; omega
          have := hI.2.2.2.2.2.2.2 (j + 1) (Nat.zero_le _) hl
          rw [List.getElem?_eq_getElem hl] at hvn
          rw [← Option.some.inj hvn]; exact this
        have hwn : en (tb T M cost rows j) (stp T M cost rows j).1 (stp T M cost rows j).2 - (rows.getD j []).getD (stp T M cost rows j).1 0 ≠ NONE := by
          obtain ⟨_, _, qq⟩ := en_pos hjr q1 q2 q3
          obtain ⟨qa, qb⟩ := qq (by rw [HRL.out]; exact hjn)
          rw [qb, Int.add_sub_cancel]; exact qa
        have HWN := Lib.hid hwn
        have HRN := Lib.hid hrn
        have HSTP := Lib.hid hstp
        have HOS := Lib.hid hosucc
        have HTBN := Lib.hid hTBn
        have HTLN := Lib.hid hTLn
        have HOWN := Lib.hid hown
        have HI := Lib.hid hI
        have HNU : Hid (∀ (u : Nat) (want : Int), u < T → thn (tb T M cost rows (j + 1)) cost (stp T M cost rows j).1 (stp T M cost rows j).2 u = want → (∀ v, v < u → thn (tb T M cost rows (j + 1)) cost (stp T M cost rows j).1 (stp T M cost rows j).2 v ≠ want) → nu (tb T M cost rows (j + 1)) cost (stp T M cost rows j).1 (stp T M cost rows j).2 T want = u) := fun u want h1 h2 h3 => nu_eq h1 h2 h3
        have HHOL := Lib.hid hol
        have HPA := Lib.hid hPA
        have HOL2 := Lib.hid (outT_len T M cost rows (j + 1 + 1))
        clear hwn hrn hstp hosucc hTBn hTLn hown hI hoat hol hon hvn hpe hpv hjl hPA q3 q4 q5 q6 HSTN
        generalize hct : (stp T M cost rows j).1 = ct at *
        generalize hcc : (stp T M cost rows j).2 = cc at *
        generalize en (tb T M cost rows j) ct cc = ev at *
        generalize (rows.getD j []).getD ct 0 = pvl at *
        have hi1 : (j : Int) < (L.length : Int) := by omega
        have hi2 : (ct : Int) < (T : Int) := by omega
        have hi3 : (cc : Int) < (M : Int) + 1 := by omega
        have hi4 : (j : Int) < (j : Int) + 1 := by omega
        have hd66 : decide ((j : Int) + 1 < (L.length : Int)) = true := by simp; omega
        go_wp2_with fail
        have hwr : IntKind.i64.wrap (ev - pvl) = ev - pvl := IntWalk.i64_in _ (by omega)
        go_quiet (fail)
        clear hwr
        go_wp2_with fail
        have HW0 := Lib.hid hw0
        obtain ⟨ii, hii, hzi0, hzi1, hzi2⟩ := info_parts info_i
        clear hw0 e1 e2 e3 hp1 hp2 x0 x1 x2 x3 hoc hTBj
        go_loopw [17] (fun ui wq => ∃ u nq2 : Nat, u ≤ u0 ∧ ui = .int .i64 u ∧ Hid (∀ v, v < u → thn (tb T M cost rows (j + 1)) cost ct cc v ≠ ev - pvl) ∧ wq = wr.drewN nq2) (fun ui _ => T - (intOf ui).toNat)
        case atStart => exact ⟨0, _, Nat.zero_le _, rfl, by intro v hv; omega, rfl⟩
        case round =>
          obtain ⟨u, nq2, hu, rfl, hall, rfl⟩ := hrel
          have hthen := then_any (fun b => (w1.alloc (.cells (kCells T (.slice PA L.length pcap) cost M (.slice none 0 0)).toArray 64)).heap.size < b ∧ b < B) w1.heap.size (w1.heap.size + 1) L.length cost j ct cc u M (tb T M cost rows (j + 1)) vn (wr.drewN nq2) k2 k4 hon' (HRN.out.same (Same.drewN _ _)) hjn (by omega) (by rw [HTLN.out]; omega) (by rw [HTLN.out]; omega) (by omega) (by omega) (by omega) HTBN.out hco1 hco2
          have HTH := Lib.hid hthen
          clear hthen
          go_wp2_with fail
          refine HTH.out.mono ?_
          rintro e w' ⟨rfl, nq3, rfl⟩
          by_cases he : thn (tb T M cost rows (j + 1)) cost ct cc u = ev - pvl
          case neg =>
            have hne2 : (thn (tb T M cost rows (j + 1)) cost ct cc u != ev - pvl) = true := by simpa using he
            have huu : u < u0 := by
              rcases Nat.lt_or_ge u u0 with h | h
              · exact h
              · exact absurd (by rw [show u = u0 by omega]; exact HW0.out) he
            have hall2 : Hid (∀ v, v < u + 1 → thn (tb T M cost rows (j + 1)) cost ct cc v ≠ ev - pvl) := by
              intro v hv
              by_cases hvu : v = u
              · rw [hvu]; exact he
              · exact hall.out v (by omega)
            clear he
            go_wp2_with fail
            go_roundw
            case rel => exact ⟨u + 1, nq2 + nq3, by omega, by go_num, hall2, rfl⟩
            case measure => simp [intOf]; omega
          have hne2 : (thn (tb T M cost rows (j + 1)) cost ct cc u != ev - pvl) = false := by simpa using he
          have HNUU := Lib.hid (HNU.out u _ (by omega) he hall.out)
          have hst1 : (stp T M cost rows (j + 1)).1 = u := by rw [HSTP.out]; exact HNUU.out
          have hst2 : (stp T M cost rows (j + 1)).2 = if u = ct then cc else cc - 1 := by rw [HSTP.out]; simp only [HNUU.out]
          have HS1 := Lib.hid hst1
          have HOSU : Hid (outT T M cost rows (j + 1 + 1) = outT T M cost rows (j + 1) ++ [(u : Int)]) := by show _ = _; rw [HOS.out, hst1]
          have hI2 := HI.out.below (below_drewN (Below.refl B wr) (nq2 + nq3)) (by simp)
          have hown2 : (wr.drewN (nq2 + nq3)).ownsRow B 3 1 (.slice (some ⟨g, 0, none⟩) (j + 1) cap) (j + 1) (ic (outT T M cost rows (j + 1))) := HOWN.out
          have HE := Lib.hid he
          clear he hst1
          have hsz : B ≤ (wr.drewN (nq2 + nq3)).heap.size := hI2.2.2.1
          have HI2 := Lib.hid hI2
          clear hI2
          by_cases hut : u = ct
          · have hq : ((u : Int) != (ct : Int)) = false := by simp; omega
            have HS2 : Hid ((stp T M cost rows (j + 1)).2 = cc) := by show _ = _; rw [hst2, if_pos hut]
            clear hut hst2
            go_wp2_with (at_builtin; refine wpList_append_own _ rfl _ _ 22 rfl B 3 ii (.int .i64 0) 1 8 Try.underlying22 hii hzi0 hzi1 hzi2 rfl (by decide) _ _ _ rfl (hown2.alloc _) ⟨wr.heap.size, 0, none⟩ 1 1 [.int .i64 (u : Int)] rfl rfl (World.news_of_block (cs := #[.int .i64 (u : Int)]) (t := 3) (fr := (0, 0)) (heap_alloc_new (wr.drewN (nq2 + nq3)) _)) (by simp [Value.oneCell']) (by unfold maxLen; omega) (by omega) (by simp; omega) ?_; intro v1 wA hownA hgrowA _)
            have hbA := below_app' (Below.refl B _) hsz hown2 hgrowA
            go_wp2_with fail
            go_roundw
            case rel => exact ⟨j + 1, hjn, by go_num, by rw [HS2.out], owns_eq hownA (by rw [HOL2.out]) (by rw [HOSU.out, ic_app]; rfl), HI2.out.below hbA (by simp)⟩
            case measure => simp [intOf]; omega
          · have hq : ((u : Int) != (ct : Int)) = true := by simp; omega
            have hcc0 : 0 < cc := by
              rcases Nat.eq_zero_or_pos cc with h | h
              · exfalso
                apply HWN.out
                rw [← HE.out]
                unfold thn
                rw [if_neg hut, if_pos h]
              · exact h
            have HS2 : Hid ((((stp T M cost rows (j + 1)).2 : Nat) : Int) = (cc : Int) - 1) := by show _ = _; rw [hst2, if_neg hut]; omega
            clear hut hst2
            go_wp2_with (at_builtin; refine wpList_append_own _ rfl _ _ 22 rfl B 3 ii (.int .i64 0) 1 8 Try.underlying22 hii hzi0 hzi1 hzi2 rfl (by decide) _ _ _ rfl (hown2.alloc _) ⟨wr.heap.size, 0, none⟩ 1 1 [.int .i64 (u : Int)] rfl rfl (World.news_of_block (cs := #[.int .i64 (u : Int)]) (t := 3) (fr := (0, 0)) (heap_alloc_new (wr.drewN (nq2 + nq3)) _)) (by simp [Value.oneCell']) (by unfold maxLen; omega) (by omega) (by simp; omega) ?_; intro v1 wA hownA hgrowA _)
            have hbA := below_app' (Below.refl B _) hsz hown2 hgrowA
            go_wp2_with fail
            go_roundw
            case rel => exact ⟨j + 1, hjn, by go_num, by rw [HS2.out], owns_eq hownA (by rw [HOL2.out]) (by rw [HOSU.out, ic_app]; rfl), HI2.out.below hbA (by simp)⟩
            case measure => simp [intOf]; omega
end Go.Proofs.Ytdgkchdobmhpnaa
