/- The law MatchChoosesTheBest returns true, whatever the scores and the takes. -/
import Derived.Test.YtdgkchdobmhpnaaChooseD
import Derived.Test.YtdgkchdobmhpnaaMatchH
import Derived.Test.YtdgkchdobmhpnaaDecMatch
namespace Go.Proofs.Ytdgkchdobmhpnaa
open Go.RowKit Go.Dw

section
variable {t : Int} {rows : List (List Int)} {cost most : Int}
theorem chR_nilF (h : (chR t rows cost most).2.2 ≠ 0) : (chR t rows cost most).1 = [] := by
  by_cases hz : csc t rows cost most = 0
  · by_cases hn : rows.length = 0
    · rw [chR_nil hz hn]
    · by_cases hv : (fb (tb t.toNat most.toNat cost rows 0) most.toNat t.toNat).2 = NONE
      · rw [chR_none hz hn hv]
      · rw [chR_ok hz hn hv] at h; simp at h
  · rw [chR_csc hz]
theorem chR_val (h : (chR t rows cost most).2.2 = 0) : csc t rows cost most = 0 ∧ vl t rows cost most (chR t rows cost most).1 = ((chR t rows cost most).2.1, 0) := by
  by_cases hz : csc t rows cost most = 0
  · refine ⟨hz, ?_⟩
    by_cases hn : rows.length = 0
    · rw [chR_nil hz hn]
      obtain ⟨_, _, _, _, _, hm, _⟩ := csc_zero hz
      rw [vl_end hz (by simp [hn]) (by simp)]
      simp only [List.length_nil, cutsTo, sumTo]
      rw [if_neg (by omega)]; simp
    · by_cases hv : (fb (tb t.toNat most.toNat cost rows 0) most.toNat t.toNat).2 = NONE
      · rw [chR_none hz hn hv] at h; simp at h
      · rw [chR_ok hz hn hv]; exact out_val hz (by omega) hv
  · rw [chR_csc hz] at h; exact absurd h hz
/-- no takes are worth more -/
theorem chR_max (takes : List Int) {m : Int} (hv : vl t rows cost most takes = (m, 0)) : (chR t rows cost most).2.2 = 0 ∧ m ≤ (chR t rows cost most).2.1 := by
  have hz : csc t rows cost most = 0 := by
    by_cases hz : csc t rows cost most = 0
    · exact hz
    · rw [vl_csc hz] at hv; exact absurd (congrArg Prod.snd hv) hz
  by_cases hn : rows.length = 0
  · rw [chR_nil hz hn]
    refine ⟨rfl, ?_⟩
    by_cases hl : takes.length = rows.length
    · have : takes = [] := List.eq_nil_of_length_eq_zero (by omega)
      subst this
      rw [vl_end hz (by simp [hn]) (by simp)] at hv
      simp only [List.length_nil, cutsTo, sumTo] at hv
      split at hv
      · simp at hv
      · have := congrArg Prod.fst hv; simp only at this ⊢; omega
    · rw [vl_len hz hl] at hv; exact absurd (congrArg Prod.snd hv) (by simp)
  · obtain ⟨u, hu, hne, hle⟩ := opt_all hv (by omega)
    have hge := fb_ge (tb t.toNat most.toNat cost rows 0) most.toNat t.toNat u hu
    have hv2 : (fb (tb t.toNat most.toNat cost rows 0) most.toNat t.toNat).2 ≠ NONE := by
      have h1 : NONE ≤ en (tb t.toNat most.toNat cost rows 0) u most.toNat := by
        obtain ⟨⟨ht1, ht2⟩, hl60, hrowF, hco1, hco2, hmo1, hmo2⟩ := csc_zero hz
        have hent : ∀ s u, (rows.getD s []).getD u 0 ≤ 1000000 := by
          intro s u
          by_cases hs : s < rows.length
          · have ha := (rowF_zero (hrowF s hs)).2
            by_cases hu : u < (rows.getD s []).length
            · have := okP_t (List.all_eq_true.1 ha _ (List.getElem_mem hu))
              rw [List.getD_eq_getElem?_getD (l := rows.getD s []), List.getElem?_eq_getElem hu]; exact this.2
            · rw [List.getD_eq_getElem?_getD (l := rows.getD s []), List.getElem?_eq_none (by omega)]; simp
          · rw [List.getD_eq_getElem?_getD (l := rows), List.getElem?_eq_none (by omega)]; simp
        have hd := tb_bd t.toNat most.toNat cost rows hco1 hco2 hent hl60 (rows.length - 1) 0 (by omega)
        have := (hd.2 u hu).2 most.toNat (Nat.le_refl _)
        unfold Bd at this
        simp only [NONE] at *
        omega
      omega
    rw [chR_ok hz hn hv2]
    exact ⟨rfl, by simp only; omega⟩
theorem csc_most (h : csc t rows cost most = 0) (hm : most ≠ 60) : csc t rows cost (most + 1) = 0 := by
  obtain ⟨ht, hl60, hrowF, hco1, hco2, hmo1, hmo2⟩ := csc_zero h
  rw [csc_end ht (by omega) hrowF, if_neg (by omega)]
theorem vl_most {takes : List Int} {m : Int} (hv : vl t rows cost most takes = (m, 0)) (hm : most ≠ 60) : vl t rows cost (most + 1) takes = (m, 0) := by
  have hz : csc t rows cost most = 0 := by
    by_cases hz : csc t rows cost most = 0
    · exact hz
    · rw [vl_csc hz] at hv; exact absurd (congrArg Prod.snd hv) hz
  have hz2 := csc_most hz hm
  unfold vl at hv ⊢
  rw [if_neg (fun hh => hh hz)] at hv
  rw [if_neg (fun hh => hh hz2)]
  split at hv
  · exact absurd (congrArg Prod.snd hv) (by simp)
  · rename_i h1
    rw [if_neg h1]
    split at hv
    · rename_i h2; exact absurd (congrArg Prod.snd hv) h2
    · rename_i h2
      rw [if_neg h2]
      split at hv
      · exact absurd (congrArg Prod.snd hv) (by simp)
      · rename_i h3
        rw [if_neg (by omega)]; exact hv
end
/-- scores that came in -/
theorem decScores {H : Type} {enc : TypeId × Value → H} {w : World} :
    Dec enc Try.prog w 41 Sco.cells (fun x => inI64 x.t ∧ x.Ok w ∧ inI64 x.cost ∧ inI64 x.most) :=
  (Dec.struct (tot := 4) (fl := [(3, 0, 1), (39, 1, 1), (3, 2, 1), (3, 3, 1)]) Try.underlying41 (by kernel_rfl) (by kernel_rfl)
    (DecS.cons (Dec.int Try.underlying3) (DecS.cons (Dec.slice 1 Try.underlying39 (by kernel_rfl) (fun _ => rfl) (by omega) decInts) (DecS.cons (Dec.int Try.underlying3) (DecS.cons (tot := 0) (Dec.int Try.underlying3) DecS.nil))))).map
    (fun p => (⟨p.1, p.2.1, p.2.2.1, p.2.2.2.1⟩ : Sco)) (fun _ => rfl) (fun p h => by
      obtain ⟨h1, ⟨h2, h3, h4⟩, h5, h6, _⟩ := h
      refine ⟨h1, ⟨by simpa [maxLen] using h2, ?_, fun s hs => ?_⟩, h5, h6⟩
      · show Rd w p.2.1.a (p.2.1.xs.map Slc.v)
        have : p.2.1.xs.flatMap (fun l => [l.v]) = p.2.1.xs.map Slc.v := by
          generalize p.2.1.xs = l
          induction l with
          | nil => rfl
          | cons a t ih => rw [List.flatMap_cons, ih]; rfl
        rw [← this]; exact h3
      · obtain ⟨q1, q2, _⟩ := h4 s hs
        rw [ic_flat] at q2
        exact ⟨by simpa [maxLen] using q1, q2⟩)

set_option maxRecDepth 100000 in
set_option maxHeartbeats 1600000 in
theorem chooses_walk (x : Sco) (tk : Slc Int) (w : World) (hx : inI64 x.t ∧ x.Ok w ∧ inI64 x.cost ∧ inI64 x.most) (ht : tk.xs.length ≤ maxLen ∧ Rd w tk.a (tk.xs.flatMap fun n => [Value.int .i64 n]) ∧ ∀ n ∈ tk.xs, inI64 n) :
    Calls Try.prog 5 #[.agg x.cells.toArray, tk.v] w fun e w' => e = .returned (.bool true) ∧ Below w.heap.size w w' := by
  obtain ⟨_, h, _, _⟩ := hx
  obtain ⟨htn, htr, _⟩ := ht
  rw [ic_flat] at htr
  have hb0 : Below w.heap.size w (w.alloc (.cells x.cells.toArray 41)) := (Below.refl _ _).alloc (Nat.le_refl _) _
  have h1 := h.below hb0
  have htr1 := htr.below hb0
  have HB0 := Lib.hid hb0
  have HCH := Lib.hid (choose_any x _ h1)
  obtain ⟨ta, tc, takes⟩ := tk
  simp only [Slc.v, maxLen] at *
  have HVA := Lib.hid (fun (A : Option Addr) (c : Nat) (l : List Int) (W : World) (hh : x.Ok W) (ha : Rd W A (ic l)) (hn : l.length ≤ 9223372036854775807) => value_any x A c l W hh ha hn)
  have HCN := Lib.hid (fun (W : World) (hh : x.Ok W) => choose_any { x with most := x.most + 1 } W hh)
  have hrows : ∀ v : Int, Sco.rows { x with most := v } = x.rows := fun _ => rfl
  generalize hrw : x.rows = rows at *
  obtain ⟨t, p, cost, most⟩ := x
  simp only [Sco.cells] at *
  simp only [hrows] at HCN
  have HMX : Hid (∀ (tk : List Int) (m : Int), vl t rows cost most tk = (m, 0) → m ≤ (chR t rows cost most).2.1) := fun tk m hv => (chR_max tk hv).2
  have HMX2 : Hid (∀ (tk : List Int) (m : Int), vl t rows cost (most + 1) tk = (m, 0) → (chR t rows cost (most + 1)).2.2 = 0 ∧ m ≤ (chR t rows cost (most + 1)).2.1) := fun tk m hv => chR_max tk hv
  have HVL := Lib.hid (@chR_val t rows cost most)
  have HNF := Lib.hid (@chR_nilF t rows cost most)
  have HVM : Hid (∀ (tk : List Int) (m : Int), vl t rows cost most tk = (m, 0) → most ≠ 60 → vl t rows cost (most + 1) tk = (m, 0)) := fun tk m => vl_most
  have HLEN : Hid ((chR t rows cost most).2.2 = 0 → (chR t rows cost most).1.length ≤ 9223372036854775807) := by
    intro hh
    have := (HVL.out hh)
    have hz := csc_zero this.1
    by_cases hl : (chR t rows cost most).1.length = rows.length
    · omega
    · rw [vl_len this.1 hl] at this; exact absurd (congrArg Prod.snd this.2) (by simp)
  have HR1 := Lib.hid hrw
  have HOK := Lib.hid h
  have hbk0 := Blk.new w 41 [.int .i64 t, p.v, .int .i64 cost, .int .i64 most]
  have HBK0 := Lib.hid hbk0
  clear hrw hrows h htr hbk0
  go_enter Try.func5, Try.ntmps5
  go_wp2_with fail
  refine HCH.out.mono ?_
  rintro e w1 ⟨A1, cp1, rfl, hr1, hb1⟩
  have HB1 := Lib.hid (HB0.out.trans (hb1.mono (by simp)))
  have h2 := h1.below hb1
  have htr2 := htr1.below hb1
  obtain ⟨c0, c1, c2, c3⟩ := sco_cells (by simpa using hb1)
  have hX : w.heap.size < w1.heap.size := by have := hb1.size; simp at this; omega
  have HBK1 := Lib.hid (blk_below HBK0.out hb1 (by simp))
  clear hb1 h1 htr1 HCH HB0 HBK0
  by_cases hf : (chR t rows cost most).2.2 = 0
  case neg =>
    have hnf := HNF.out hf
    rw [hnf] at hr1 ⊢
    have hne : ((chR t rows cost most).2.2 != 0) = true := by simpa using hf
    clear hf hnf
    go_wp2_with fail
    refine (awake4 _).mono ?_
    rintro e w8 ⟨rfl, hb8⟩
    have HB8 := Lib.hid (HB1.out.trans (hb8.mono HB1.out.size))
    clear hb8
    go_wp2_with fail
    go_ret
    exact ⟨rfl, HB8.out⟩
  obtain ⟨hz, hval⟩ := HVL.out hf
  have HZB := Lib.hid (csc_zero hz).2.2.2.2.2
  have hl1 := HLEN.out hf
  have HVAL := Lib.hid hval
  rw [hf]
  clear hf hz hval HVL HNF HLEN
  generalize hl : (chR t rows cost most).1 = l at *
  generalize hn : (chR t rows cost most).2.1 = n at *
  have HL := Lib.hid hl
  have HN := Lib.hid hn
  clear hl hn
  go_wp2_with fail
  refine (HVA.out A1 cp1 l w1 h2 hr1 hl1).mono ?_
  rintro e w2 ⟨rfl, hb2⟩
  rw [HVAL.out]
  have HB2 := Lib.hid (HB1.out.trans (hb2.mono HB1.out.size))
  have h3 := h2.below hb2
  have htr3 := htr2.below hb2
  rw [← hb2.cell (by exact hX)] at c0 c1 c2 c3
  have hX2 : w.heap.size < w2.heap.size := by have := hb2.size; omega
  have HBK2 := Lib.hid (blk_below HBK1.out hb2 hX)
  clear hb2 h2 htr2 hr1
  go_wp2_with fail
  refine (HVA.out ta tc takes w2 h3 htr3 htn).mono ?_
  rintro e w4 ⟨rfl, hb4⟩
  have HB4 := Lib.hid (HB2.out.trans (hb4.mono HB2.out.size))
  have h5 := h3.below hb4
  rw [← hb4.cell (by exact hX2)] at c0 c1 c2 c3
  have hX4 : w.heap.size < w4.heap.size := by have := hb4.size; omega
  have hfr : w4.frozen? ⟨w.heap.size, 3, none⟩ = false := (blk_below HBK2.out hb4 hX2).frozen 3
  clear hb4 h3 htr3
  have hle : (vl t rows cost most takes).2 = 0 → (vl t rows cost most takes).1 ≤ n := fun hh => HMX.out takes _ (by rw [← hh])
  generalize hv : vl t rows cost most takes = v at *
  obtain ⟨vm, vf⟩ := v
  have HV := Lib.hid hv
  simp only at hle ⊢
  clear hv HMX
  have hgo : ((vf == 0) = true ∧ ¬ n < vm) ∨ (vf == 0) = false := by
    by_cases hvf : vf = 0
    · exact .inl ⟨by simp [hvf], by have := hle hvf; omega⟩
    · exact .inr (by simpa using hvf)
  clear hle
  by_cases hm60 : most = 60
  · have h60 : (most == 60) = true := by simp [hm60]
    clear hm60
    rcases hgo with ⟨hg1, hg2⟩ | hg1
    all_goals
      go_wp2_with fail
      refine (awake4 _).mono ?_
      rintro e w8 ⟨rfl, hb8⟩
      have HB8 := Lib.hid (HB4.out.trans (hb8.mono HB4.out.size))
      clear hb8
      go_wp2_with fail
      go_ret
      exact ⟨rfl, HB8.out⟩
  have h60 : (most == 60) = false := by simpa using hm60
  obtain ⟨hr2, hr3⟩ := HMX2.out l n (HVM.out l n HVAL.out hm60)
  obtain ⟨hmz1, hmz2⟩ := HZB.out
  clear hm60
  have hB5 : Below w.heap.size w (w4.setCell ⟨w.heap.size, 3, none⟩ (.int .i64 (most + 1))) := HB4.out.setCell (p := ⟨w.heap.size, 3, none⟩) (Nat.le_refl _) _
  have HB5 := Lib.hid hB5
  have HCW := Lib.hid (HCN.out _ (HOK.out.below hB5))
  have hsz5 : (w4.setCell ⟨w.heap.size, 3, none⟩ (.int .i64 (most + 1))).heap.size = w4.heap.size := by simp [World.setCell]
  have HSZ5 := Lib.hid hsz5
  have HR2 := Lib.hid hr2
  clear hB5 hsz5 hr2
  rcases hgo with ⟨hg1, hg2⟩ | hg1
  all_goals
    go_wp2_with fail
    refine HCW.out.mono ?_
    rintro e w6 ⟨A6, cp6, rfl, hr6, hb6⟩
    have HB6 := Lib.hid (HB5.out.trans (hb6.mono HB5.out.size))
    clear hb6 hr6
    rw [HR2.out]
    have hr3' : ¬ (chR t rows cost (most + 1)).2.1 < n := by omega
    go_wp2_with fail
    refine (awake4 _).mono ?_
    rintro e w8 ⟨rfl, hb8⟩
    have HB8 := Lib.hid (HB6.out.trans (hb8.mono HB6.out.size))
    clear hb8
    go_wp2_with fail
    go_ret
    exact ⟨rfl, HB8.out⟩
end Go.Proofs.Ytdgkchdobmhpnaa
