/- The contract of the reference's Choose. -/
import Derived.Test.YtdgkchdobmhpnaaRefChooseC
import Derived.Test.YtdgkchdobmhpnaaRefChooseQ
import Derived.Test.YtdgkchdobmhpnaaChooseD
import Derived.Test.YtdgkchdobmhpnaaValueB
namespace Go.Proofs.Ytdgkchdobmhpnaa
open Go.RowKit Go.Dw

theorem RInv.entry {w0 wr : World} {n T M : Nat} {cost : Int} {pv : Value} {pts : List (List Int)} {B : Nat} {arr : List Value} (h : RInv w0 n T M cost pv pts 0 B arr wr) {s t c : Nat} (hs : s < n) (ht : t < (rtb T M cost pts s).length) (hc : c < ((rtb T M cost pts s)[t]).length) :
    ∃ b off c1 b2 off2 c2, wr.cell? ⟨w0.heap.size + 1, s, none⟩ = some (.slice (some ⟨b, off, none⟩) (rtb T M cost pts s).length c1) ∧ wr.cell? ⟨b, off + t, none⟩ = some (.slice (some ⟨b2, off2, none⟩) ((rtb T M cost pts s)[t]).length c2) ∧ wr.cell? ⟨b2, off2 + c, none⟩ = some (.int .i64 (en (rtb T M cost pts s) t c)) := by
  obtain ⟨h1, h2, h3, h4, h5, h6, h7, h8⟩ := h
  have hl : s < arr.length := by omega
  obtain ⟨b, off, c1, b2, off2, c2, e1, e2, e3⟩ := (h8 s (Nat.zero_le _) hl).at_ ht hc
  refine ⟨b, off, c1, b2, off2, c2, ?_, e2, by rw [en_at ht hc]; exact e3⟩
  rw [h6.cell s, List.getElem?_eq_getElem hl, e1]
/-- where the walk ends: in the reference's Value -/
def VRes (w : World) (A : Option Addr) (c : Nat) (l : List Int) (r : Int × Int) (e : Ending) (w' : World) : Prop :=
  e = .returned (.tuple #[.slice A l.length c, .int .i64 r.1, .int .i64 r.2]) ∧ Rd w' A (ic l) ∧ Below w.heap.size w w'

set_option maxRecDepth 100000 in
set_option maxHeartbeats 2000000 in
theorem rchoose_any (x : Sco) (w : World) (h : x.Ok w) :
    Calls Try.prog 25 #[.agg x.cells.toArray] w (LRes w (chR x.t x.rows x.cost x.most)) := by
  have hb0 : Below w.heap.size w (w.alloc (.cells x.cells.toArray 41)) := (Below.refl _ _).alloc (Nat.le_refl _) _
  have h1 := h.below hb0
  have HB0 := Lib.hid hb0
  have HCK := Lib.hid (rcheckScores_any x _ h1)
  have HRA := Lib.hid (rows_at x)
  have HRL := Lib.hid (rows_len x)
  have HVAL : Hid (∀ (A : Option Addr) (c : Nat) (takes : List Int) (w : World) (_ : x.Ok w) (_ : Rd w A (ic takes)) (_ : takes.length ≤ 9223372036854775807),
      Calls Try.prog 22 #[.agg x.cells.toArray, .slice A takes.length c] w fun e w' => e = .returned (.tuple #[.int .i64 (vl x.t x.rows x.cost x.most takes).1, .int .i64 (vl x.t x.rows x.cost x.most takes).2]) ∧ Below w.heap.size w w') := rvalue_any x
  have HOKB : Hid (∀ w w' : World, x.Ok w → Below w.heap.size w w' → x.Ok w') := fun _ _ h hb => h.below hb
  clear hb0
  generalize x.rows = rows at *
  obtain ⟨t, ⟨PA, pcap, L⟩, cost, most⟩ := x
  simp only [Sco.cells, Slc.v] at *
  clear h
  go_enter Try.func25, Try.ntmps25
  go_wp2_with fail
  refine HCK.out.mono ?_
  rintro e w1 ⟨rfl, hb1⟩
  have HB1 := Lib.hid (HB0.out.trans (hb1.mono (by simp)))
  have h2 := h1.below hb1
  obtain ⟨c0, c1, c2, c3⟩ := sco_cells (by simpa using hb1)
  have hX : w.heap.size < w1.heap.size := by have := hb1.size; simp at this; omega
  clear hb1 h1 HCK HB0
  by_cases hz : csc t rows cost most = 0
  case neg =>
    have hne : (csc t rows cost most != 0) = true := by simpa using hz
    have HZ := Lib.hid hz
    clear hz
    go_wp2_with fail
    go_ret3
    exact LRes.mk0 (chR_csc HZ.out) HB1.out
  obtain ⟨⟨ht1, ht2⟩, hl60, hrowF, hco1, hco2, hmo1, hmo2⟩ := csc_zero hz
  have HRF := Lib.hid hrowF
  have hne : (csc t rows cost most != 0) = false := by simpa using hz
  have HZ := Lib.hid hz
  rw [HRL.out] at hl60
  clear hz hrowF
  obtain ⟨T, rfl⟩ := Int.eq_ofNat_of_zero_le (show 0 ≤ t by omega)
  obtain ⟨M, rfl⟩ := Int.eq_ofNat_of_zero_le hmo1
  have HOK2 := Lib.hid h2
  have hpts : RdIIs (fun b => b < w1.heap.size) w1 (.slice PA L.length pcap) rows := by
    obtain ⟨hn, hrd, hrs⟩ := h2
    refine ⟨PA, pcap, L.map Slc.v, by rw [HRL.out], by rw [List.length_map, HRL.out], hrd.rds, fun i hi1 hi2 => ?_⟩
    have hiL : i < L.length := by simpa using hi1
    have := (hrs L[i] (List.getElem_mem hiL)).2
    have e : rows[i] = L[i].xs := by rw [← getRow hi2]; exact HRA.out i hiL
    rw [e, List.getElem_map]
    exact ⟨L[i].a, L[i].c, rfl, this.rds⟩
  have hrow : ∀ s, s < L.length → (rows.getD s []).length = T := by
    intro s hs
    have := (rowF_zero (HRF.out s (by rw [HRL.out]; exact hs))).1
    omega
  have hent : ∀ s u, -1 ≤ (rows.getD s []).getD u 0 ∧ (rows.getD s []).getD u 0 ≤ 1000000 := by
    intro s u
    by_cases hs : s < rows.length
    · have ha := (rowF_zero (HRF.out s hs)).2
      by_cases hu : u < (rows.getD s []).length
      · have := okP_t (List.all_eq_true.1 ha _ (List.getElem_mem hu))
        rw [List.getD_eq_getElem?_getD (l := rows.getD s []), List.getElem?_eq_getElem hu]; exact this
      · rw [List.getD_eq_getElem?_getD (l := rows.getD s []), List.getElem?_eq_none (by omega)]; simp
    · rw [List.getD_eq_getElem?_getD (l := rows), List.getElem?_eq_none (by omega)]; simp
  have hfill := values_any L.length T M cost PA pcap rows w1 hpts (by rw [HRL.out]) (by omega) (by omega) (by omega) hco1 hco2 hrow hent
  have HFILL := Lib.hid hfill
  have HROW := Lib.hid hrow
  have HENT := Lib.hid hent
  clear hfill hrow hent hpts h2 HRA HRF
  go_wp2_with fail
  refine HFILL.out.mono ?_
  rintro e w3 ⟨rfl, B, arr, hinv⟩
  have hTB := rtb_rel T M cost rows hco1 hco2 (fun s t => (HENT.out s t).2) (by rw [HRL.out]; exact hl60)
  have HTB : Hid (∀ s, s < L.length → RelT (L.length - s) T M (tb T M cost rows s) (rtb T M cost rows s)) := by
    intro s hs
    have := hTB (L.length - s - 1) s (by rw [HRL.out]; omega)
    rwa [show L.length - s - 1 + 1 = L.length - s by omega] at this
  have HENTRY : Hid (∀ (wr : World) (s u c : Nat), RInv w1 L.length T M cost (.slice PA L.length pcap) rows 0 B arr wr → s < L.length → u < T → c ≤ M →
      ∃ b off c1 b2 off2 c2 r, wr.cell? ⟨w1.heap.size + 1, s, none⟩ = some (.slice (some ⟨b, off, none⟩) T c1) ∧ wr.cell? ⟨b, off + u, none⟩ = some (.slice (some ⟨b2, off2, none⟩) (M + 1) c2) ∧ wr.cell? ⟨b2, off2 + c, none⟩ = some (.int .i64 r) ∧
        ((en (tb T M cost rows s) u c = NONE ∧ r ≤ -562949953421312) ∨ (r = en (tb T M cost rows s) u c ∧ r ≠ NONE ∧ -100000000 ≤ r ∧ r ≤ 100000000))) := by
    intro wr s u c hi hs hu hc
    have hd := HTB.out s hs
    have hlT : u < (rtb T M cost rows s).length := by rw [hd.1]; exact hu
    have hlM : (rtb T M cost rows s)[u].length = M + 1 := by rw [← getRow hlT]; exact hd.2.1 u hu
    obtain ⟨b, off, c1, b2, off2, c2, e1, e2, e3⟩ := hi.entry hs hlT (by omega : c < (rtb T M cost rows s)[u].length)
    rw [hd.1] at e1
    rw [hlM] at e2
    refine ⟨b, off, c1, b2, off2, c2, _, e1, e2, e3, ?_⟩
    rcases hd.2.2 u c hu hc with ⟨q1, q2, q3⟩ | ⟨q1, q2, q3, q4⟩
    · exact .inl ⟨q1, by simp only [NT] at q3; omega⟩
    · exact .inr ⟨q2, by rw [q2]; exact q1, by omega, by omega⟩
  have HINV := Lib.hid hinv
  have hB1 := hinv.2.1
  have hB2 := hinv.2.2.1
  clear hTB hinv HFILL
  have HXC : Hid (∀ wr : World, RInv w1 L.length T M cost (.slice PA L.length pcap) rows 0 B arr wr →
      wr.cell? ⟨w.heap.size, 0, none⟩ = some (.int .i64 (T : Int)) ∧ wr.cell? ⟨w.heap.size, 1, none⟩ = some (.slice PA L.length pcap) ∧ wr.cell? ⟨w.heap.size, 2, none⟩ = some (.int .i64 cost) ∧ wr.cell? ⟨w.heap.size, 3, none⟩ = some (.int .i64 (M : Int))) := by
    intro wr hi
    have hb := hi.1
    refine ⟨?_, ?_, ?_, ?_⟩ <;> (rw [hb.cell (by exact hX)]; assumption)
  clear c0 c1 c2 c3
  obtain ⟨x0, x1, x2, x3⟩ := HXC.out w3 HINV.out
  obtain ⟨ii, hii, hzi0, hzi1, hzi2⟩ := info_parts info_i
  have HII := Lib.hid (And.intro hii (And.intro hzi0 (And.intro hzi1 hzi2)))
  clear hii hzi0 hzi1 hzi2
  go_wp2_with fail
  clear x0 x1 x2 x3
  go_loopw [7, 8, 9, 28] (fun v c nd i wr => ∃ j : Nat, j ≤ L.length ∧ i = .int .i64 j ∧ c = .int .i64 (cutJ T M cost rows j) ∧ nd = .int .i64 (needJ T M cost rows j) ∧ wr.ownsRow B 3 1 v (outT T M cost rows j).length (ic (outT T M cost rows j)) ∧ RInv w1 L.length T M cost (.slice PA L.length pcap) rows 0 B arr wr ∧ Hid (0 < j → (fb (tb T M cost rows 0) M T).2 ≠ NONE)) (fun _ _ _ i _ => L.length - (intOf i).toNat)
  case atStart => exact ⟨0, Nat.zero_le _, rfl, rfl, rfl, ⟨rfl, .inl ⟨rfl, rfl⟩⟩, HINV.out, fun hh => absurd hh (Nat.lt_irrefl _)⟩
  case round =>
    clear HINV
    obtain ⟨j, hj, rfl, hcJ, hnJ, hown, hI, HFB⟩ := hrel
    have hol := outT_len T M cost rows j
    rw [hol] at hown
    obtain ⟨x0, x1, x2, x3⟩ := HXC.out wr hI
    by_cases hjn : j < L.length
    case neg =>
      subst hcJ hnJ
      have hjL : j = L.length := by omega
      obtain ⟨A2, c2, rfl⟩ := slice_of_own hown
      have hrd := Rd.of_own hown
      have HC := HVAL.out A2 c2 (outT T M cost rows j) wr (HOKB.out w1 wr HOK2.out hI.1) hrd (by omega)
      rw [hol] at HC
      have HRES : Hid (chR (T : Int) rows cost (M : Int) = (outT T M cost rows j, vl (T : Int) rows cost (M : Int) (outT T M cost rows j))) := by
        show _ = _
        by_cases hn0 : rows.length = 0
        · have : j = 0 := by rw [hjL, ← HRL.out, hn0]
          have ho : outT T M cost rows j = [] := by rw [this]; rfl
          rw [ho, vl_nil HZ.out hn0, chR_nil HZ.out hn0]
        · have hfn := HFB.out (by rw [hjL, ← HRL.out]; omega)
          have hv := out_val HZ.out (by omega) (by rw [Int.toNat_natCast, Int.toNat_natCast]; exact hfn)
          have hc := chR_ok HZ.out hn0 (by rw [Int.toNat_natCast, Int.toNat_natCast]; exact hfn)
          rw [Int.toNat_natCast, Int.toNat_natCast, HRL.out, ← hjL] at hv
          rw [Int.toNat_natCast, Int.toNat_natCast, HRL.out, ← hjL] at hc
          rw [hc, hv]
      have HCV := Lib.hid HC
      have HLL := Lib.hid hol
      have HBL := Lib.hid (HB1.out.trans (hI.1.mono (by omega)))
      have HSZ := Lib.hid hI.1.size
      clear hjL hol hown hI HC
      go_wp2_with fail
      refine HCV.out.mono ?_
      rintro e w5 ⟨rfl, hb5⟩
      have hrd5 := hrd.below hb5
      have HB5 := Lib.hid (HBL.out.trans (hb5.mono (by have := HSZ.out; omega)))
      clear hb5
      go_wp2_with fail
      go_ret3
      refine ⟨A2, c2, ?_, by rw [HRES.out]; exact hrd5, HB5.out⟩
      rw [HRES.out, HLL.out]; rfl
    have hpr : j < rows.length := by rw [HRL.out]; exact hjn
    by_cases hj0 : j = 0
    · -- the first section
      have HJ0 := Lib.hid hj0
      have hc1 : cutJ T M cost rows j = M := by rw [hj0]; rfl
      have hn1 : needJ T M cost rows j = 0 := by rw [hj0]; rfl
      rw [hc1] at hcJ
      rw [hn1] at hnJ
      subst hcJ hnJ
      have ho0 : outT T M cost rows j = [] := by rw [hj0]; rfl
      have HOO := Lib.hid ho0
      have HOL := Lib.hid hol
      have hd1 : decide (0 < j) = false := by simp; exact hj0
      have hd2 : ((j : Int) == 0) = true := by simp; exact hj0
      have hM0 : ¬ ((M : Int) < 0) := by omega
      have HOWN := Lib.hid hown
      have HI := Lib.hid hI
      have hd29 : decide ((j : Int) < (L.length : Int)) = true := by simp; omega
      have hstp : stp T M cost rows j = ((fb (tb T M cost rows 0) M T).1, M) := by rw [hj0]; rfl
      have HSTP := Lib.hid hstp
      clear hj0 hc1 hn1 ho0 hol hown hI hstp
      go_wp2_with fail
      go_loopw [9, 11, 33] (fun nd b ti wq => ∃ u nq : Nat, u ≤ T ∧ ti = .int .i64 u ∧ nd = .int .i64 (rbN (tb T M cost rows 0) M u) ∧ b = .int .i64 (rbB (tb T M cost rows 0) M u) ∧ wq = wr.drewN nq) (fun _ _ ti _ => T - (intOf ti).toNat)
      case atStart => exact ⟨0, 0, Nat.zero_le _, rfl, rfl, rfl, rfl⟩
      case round =>
        obtain ⟨u, nq, hu, rfl, hnd, hbb, rfl⟩ := hrel
        by_cases hul : u < T
        · obtain ⟨b, off, c1, b2, off2, c2, r, e1, e2, e3, hr⟩ := HENTRY.out wr 0 u M HI.out (by have := HJ0.out; omega) hul (Nat.le_refl _)
          have e1j : wr.cell? ⟨w1.heap.size + 1, j, none⟩ = some (.slice (some ⟨b, off, none⟩) T c1) := by rw [HJ0.out]; exact e1
          have hge : NONE ≤ (fb (tb T M cost rows 0) M u).2 := fb_ge_none _ _ _ (fun v hv => by
            obtain ⟨_, _, _, _, _, _, r, _, _, _, hr⟩ := HENTRY.out wr 0 v M HI.out (by have := HJ0.out; omega) (by omega) (Nat.le_refl _)
            rcases hr with ⟨q1, _⟩ | ⟨q1, q2, q3, q4⟩
            · rw [q1]; exact Int.le_refl _
            · rw [← q1]; simp only [NONE]; omega)
          have hi2 : (u : Int) < (T : Int) := by omega
          have hi3 : (M : Int) < (M : Int) + 1 := by omega
          have hi0 : (0 : Int) < (L.length : Int) := by omega
          rcases hr with ⟨q1, q2⟩ | ⟨q1, q2, q3, q4⟩
          · have HF := Lib.hid (rb_skip hge q1)
            subst hnd hbb
            clear hge q1
            go_wp2_with fail
            go_roundw
            case rel => exact ⟨u + 1, nq, by omega, by go_num, by unfold rbN; rw [HF.out], by unfold rbB; rw [HF.out], rfl⟩
            case measure => simp [intOf]; omega
          · have hq2 : ¬ r ≤ -562949953421312 := by omega
            by_cases hf : (fb (tb T M cost rows 0) M u).2 = NONE
            · have HF := Lib.hid (rb_first (rows := tb T M cost rows 0) (M := M) (t := u) (by rw [← q1]; simp only [NONE]; omega) hf)
              rw [rbN_n hf] at hnd
              rw [rbB_n hf] at hbb
              subst hnd hbb
              rw [← q1] at HF
              have HQ2 := Lib.hid q2
              clear hge q1 hf q2
              go_wp2_with fail
              go_quiet (fail)
              go_wp2_with fail
              go_roundw
              case rel => exact ⟨u + 1, _, by omega, by go_num, by unfold rbN; rw [HF.out, if_neg HQ2.out], by unfold rbB; rw [HF.out, if_neg HQ2.out], rfl⟩
              case measure => simp [intOf]; omega
            · obtain ⟨fv, hfv⟩ : ∃ v, v = (fb (tb T M cost rows 0) M u).2 := ⟨_, rfl⟩
              obtain ⟨ff, hff⟩ : ∃ v, v = (fb (tb T M cost rows 0) M u).1 := ⟨_, rfl⟩
              rw [rbN_s hf, ← hfv] at hnd
              rw [rbB_s hf, ← hff] at hbb
              subst hnd hbb
              have hnb : ¬ ((ff : Int) < 0) := by omega
              by_cases hgt : fv < r
              · have HF := Lib.hid (rb_more (rows := tb T M cost rows 0) (M := M) (t := u) (by rw [← hfv, ← q1]; exact hgt))
                rw [← q1] at HF
                have HQ2 := Lib.hid q2
                clear hge q1 hf q2 hfv hff
                go_wp2_with fail
                go_quiet (fail)
                go_wp2_with fail
                go_roundw
                case rel => exact ⟨u + 1, _, by omega, by go_num, by unfold rbN; rw [HF.out, if_neg HQ2.out], by unfold rbB; rw [HF.out, if_neg HQ2.out], rfl⟩
                case measure => simp [intOf]; omega
              · have HF := Lib.hid (rb_less (rows := tb T M cost rows 0) (M := M) (t := u) (by rw [← hfv, ← q1]; exact hgt))
                have HN := Lib.hid (show rbN (tb T M cost rows 0) M (u + 1) = fv by rw [rbN, HF.out, if_neg hf, hfv])
                have HB := Lib.hid (show rbB (tb T M cost rows 0) M (u + 1) = ff by rw [rbB, HF.out, if_neg hf, hff])
                clear hge q1 hf q2 hfv hff
                go_wp2_with fail
                go_roundw
                case rel => exact ⟨u + 1, nq, by omega, by go_num, by rw [HN.out], by rw [HB.out], rfl⟩
                case measure => simp [intOf]; omega
        · have huT : u = T := by omega
          rw [huT] at hnd hbb
          have hI2 := HI.out.below (below_drewN (Below.refl B wr) nq)
          by_cases hf : (fb (tb T M cost rows 0) M T).2 = NONE
          · rw [rbN_n hf] at hnd
            rw [rbB_n hf] at hbb
            subst hnd hbb
            have HF := Lib.hid hf
            have HBL := Lib.hid (HB1.out.trans (hI2.1.mono (by omega)))
            clear hf huT hI2
            go_wp2_with fail
            go_ret3
            exact LRes.mk0 (chR_none HZ.out (by rw [HRL.out]; omega) (by rw [Int.toNat_natCast, Int.toNat_natCast]; exact HF.out)) HBL.out
          obtain ⟨ff, hff⟩ : ∃ v, v = (fb (tb T M cost rows 0) M T).1 := ⟨_, rfl⟩
          obtain ⟨fv, hfv⟩ : ∃ v, v = (fb (tb T M cost rows 0) M T).2 := ⟨_, rfl⟩
          rw [rbN_s hf, ← hfv] at hnd
          rw [rbB_s hf, ← hff] at hbb
          subst hnd hbb
          have hfl : ff < T := by rw [hff]; exact fb_lt _ _ _ (by omega)
          have hjl : (rows[j]).length = T := by rw [← getRow hpr]; exact HROW.out j hjn
          obtain ⟨pb, poff, pc1, pb2, poff2, pc2, hpe, hp1, hp2⟩ := hI2.2.2.2.2.1.at_ (i := j) (k := ff) hpr (by omega)
          have hpv : rows[j][ff]'(by omega) = (rows.getD j []).getD ff 0 := by
            rw [getRow hpr, getD_at' _ _ _ (by omega)]
          rw [hpv] at hp2
          rw [hjl] at hp1
          have hPA : PA = some ⟨pb, poff, none⟩ := by injection hpe
          rw [hPA] at x1
          have hpb := HENT.out j ff
          have hfb : -100000000 ≤ fv ∧ fv ≤ 100000000 := by
            rcases fb_some (tb T M cost rows 0) M T with h | ⟨q1, q2⟩
            · exact absurd h hf
            · obtain ⟨_, _, _, _, _, _, r, _, _, _, hr⟩ := HENTRY.out wr 0 _ M HI.out (by have := HJ0.out; omega) q1 (Nat.le_refl _)
              rcases hr with ⟨r1, _⟩ | ⟨r1, _, r3, r4⟩
              · rw [q2] at r1; exact absurd r1 hf
              · rw [hfv, ← q2, ← r1]; exact ⟨r3, r4⟩
          have HNEXT : Hid (stp T M cost rows j = (ff, M)) := by show _ = _; rw [HSTP.out, hff]
          have HEN : Hid (en (tb T M cost rows j) ff M = fv) := by
            show _ = _
            rcases fb_some (tb T M cost rows 0) M T with h | ⟨q1, q2⟩
            · exact absurd h hf
            · rw [HJ0.out, hff, q2, hfv]
          obtain ⟨p, hpp⟩ : ∃ p, p = (rows.getD j []).getD ff 0 := ⟨_, rfl⟩
          rw [← hpp] at hp2 hpb
          have HNJ : Hid (needJ T M cost rows (j + 1) = fv - p) := by
            show en (tb T M cost rows j) (stp T M cost rows j).1 (stp T M cost rows j).2 - (rows.getD j []).getD (stp T M cost rows j).1 0 = _
            rw [HNEXT.out]
            show en (tb T M cost rows j) ff M - (rows.getD j []).getD ff 0 = _
            rw [HEN.out, hpp]
          have HCJ : Hid (cutJ T M cost rows (j + 1) = M) := by show (stp T M cost rows j).2 = _; rw [HNEXT.out]
          have HOS : Hid (outT T M cost rows (j + 1) = outT T M cost rows j ++ [(ff : Int)]) := by show _ = _; rw [outT_succ, HNEXT.out]
          have HF := Lib.hid hf
          have HPA := Lib.hid hPA
          have HI2 := Lib.hid hI2
          have hsz : B ≤ (wr.drewN nq).heap.size := hI2.2.2.1
          have hsz2 : B ≤ wr.heap.size := hsz
          have hown2 : (wr.drewN nq).ownsRow B 3 1 u7 j (ic (outT T M cost rows j)) := HOWN.out
          have hi2 : (ff : Int) < (T : Int) := by omega
          have hnb : ¬ ((ff : Int) < 0) := by omega
          obtain ⟨hii, hzi0, hzi1, hzi2⟩ := HII.out
          have HOLn := Lib.hid (outT_len T M cost rows (j + 1))
          clear hf huT hI2 hjl hpv hpp hpe hPA hff hfv
          go_wp2_with (at_builtin; refine wpList_append_own _ rfl _ _ 22 rfl B 3 ii (.int .i64 0) 1 8 Try.underlying22 hii hzi0 hzi1 hzi2 rfl (by decide) _ _ _ rfl (hown2.alloc _) ⟨wr.heap.size, 0, none⟩ 1 1 [.int .i64 (ff : Int)] rfl rfl (World.news_of_block (cs := #[.int .i64 (ff : Int)]) (t := 3) (fr := (0, 0)) (heap_alloc_new (wr.drewN nq) _)) (by simp [Value.oneCell']) (by unfold maxLen; omega) (by omega) (by simp; omega) ?_; intro v1 wA hownA hgrowA _)
          have hbA := below_app' (Below.refl B _) hsz hown2 hgrowA
          clear hii hzi0 hzi1 hzi2
          go_wp2_with fail
          go_roundw
          case rel => exact ⟨j + 1, by omega, by go_num, by rw [HCJ.out], by rw [HNJ.out], owns_eq hownA (by rw [HOLn.out]) (by rw [HOS.out, ic_app]; rfl), HI2.out.below hbA, fun _ => HF.out⟩
          case measure => simp [intOf]; omega
    -- the sections behind it
    obtain ⟨k, hk⟩ : ∃ k, j = k + 1 := ⟨j - 1, by omega⟩
    have hfbn := HFB.out (by omega)
    have hstk := st_all (st_zero (T := T) (M := M) (cost := cost) (pts := rows) (by omega) hfbn) k (by omega)
    obtain ⟨hstn, hxu⟩ := st_step (by omega) hstk
    obtain ⟨q1, q2, q3, q4, _, _⟩ := hstk
    have hcJ2 : cutJ T M cost rows j = (stp T M cost rows k).2 := by rw [hk]; rfl
    have hnJ2 : needJ T M cost rows j = en (tb T M cost rows k) (stp T M cost rows k).1 (stp T M cost rows k).2 - (rows.getD k []).getD (stp T M cost rows k).1 0 := by rw [hk]; rfl
    have hwn : en (tb T M cost rows k) (stp T M cost rows k).1 (stp T M cost rows k).2 - (rows.getD k []).getD (stp T M cost rows k).1 0 ≠ NONE := by
      obtain ⟨_, _, qq⟩ := en_pos (by omega) q1 q2 q3
      obtain ⟨qa, qb⟩ := qq (by omega)
      rw [qb, Int.add_sub_cancel]; exact qa
    have hndb : -200000000 ≤ en (tb T M cost rows k) (stp T M cost rows k).1 (stp T M cost rows k).2 - (rows.getD k []).getD (stp T M cost rows k).1 0 ∧ en (tb T M cost rows k) (stp T M cost rows k).1 (stp T M cost rows k).2 - (rows.getD k []).getD (stp T M cost rows k).1 0 ≤ 200000000 := by
      obtain ⟨_, _, _, _, _, _, r, _, _, _, hr⟩ := HENTRY.out wr k _ _ hI (by omega) q1 q2
      have := HENT.out k (stp T M cost rows k).1
      rcases hr with ⟨r1, _⟩ | ⟨r1, _, r3, r4⟩
      · exact absurd r1 q3
      · omega
    have hstp : stp T M cost rows j = (nu (tb T M cost rows j) cost (stp T M cost rows k).1 (stp T M cost rows k).2 T (en (tb T M cost rows k) (stp T M cost rows k).1 (stp T M cost rows k).2 - (rows.getD k []).getD (stp T M cost rows k).1 0),
        if nu (tb T M cost rows j) cost (stp T M cost rows k).1 (stp T M cost rows k).2 T (en (tb T M cost rows k) (stp T M cost rows k).1 (stp T M cost rows k).2 - (rows.getD k []).getD (stp T M cost rows k).1 0) = (stp T M cost rows k).1 then (stp T M cost rows k).2 else (stp T M cost rows k).2 - 1) := by rw [hk]; rfl
    rw [hcJ2] at hcJ
    rw [hnJ2] at hnJ
    rw [← hk] at hxu hstn
    have hoat : (ic (outT T M cost rows j))[j - 1]? = some (.int .i64 ((stp T M cost rows k).1 : Int)) := by
      have h1 := outT_at T M cost rows j k (by omega)
      rw [getD_at' _ _ _ (by rw [hol]; omega)] at h1
      rw [ic_at _ (j - 1) (by rw [hol]; omega), ← h1]
      congr 3; omega
    obtain ⟨g, cap, rfl, hgB, hgl⟩ := hown.form (by omega)
    have hoc : wr.cell? ⟨g, j - 1, none⟩ = some (.int .i64 ((stp T M cost rows k).1 : Int)) := by
      rw [hown.cellAt (j - 1) (by omega)]; exact hoat
    have HSTP := Lib.hid hstp
    have HSTN := Lib.hid hstn
    have HXU := Lib.hid hxu
    have HWN := Lib.hid hwn
    have HOWN := Lib.hid hown
    have HI := Lib.hid hI
    have HOL := Lib.hid hol
    have HK := Lib.hid hk
    generalize (stp T M cost rows k).1 = ct at *
    generalize (stp T M cost rows k).2 = cc at *
    generalize hnd0 : en (tb T M cost rows k) ct cc - (rows.getD k []).getD ct 0 = nd at *
    clear hnd0
    subst hcJ hnJ
    have hd1 : decide (0 < j) = true := by simp; omega
    have hd2 : ((j : Int) == 0) = false := by simp; omega
    have hi1 : ((j : Int) - 1).toNat = j - 1 := by omega
    have hi10 : 0 ≤ (j : Int) - 1 := by omega
    have hi11 : (j : Int) - 1 < (j : Int) := by omega
    have hd29 : decide ((j : Int) < (L.length : Int)) = true := by simp; omega
    clear hstp hstn hxu hwn hown hI hol hk hoat hfbn hcJ2 hnJ2 q3 q4 hj0
    go_wp2_with fail
    go_loopw [9, 11, 33] (fun n9 b ti wq => ∃ (u nq : Nat) (bi : Int), u ≤ T ∧ n9 = .int .i64 nd ∧ ti = .int .i64 u ∧ b = .int .i64 bi ∧ Hid (Fnd (tb T M cost rows j) cost ct cc nd u bi) ∧ wq = wr.drewN nq) (fun _ _ ti _ => T - (intOf ti).toNat)
    case atStart => exact ⟨0, 0, -1, Nat.zero_le _, rfl, rfl, rfl, Fnd.start _ _ _ _ _, rfl⟩
    case round =>
      obtain ⟨u, nq, bi, hu, rfl, rfl, rfl, HFN, rfl⟩ := hrel
      by_cases hul : u < T
      · have hi2 : (u : Int) < (T : Int) := by omega
        by_cases hut : u = ct
        · have hq : ((u : Int) != (ct : Int)) = false := by simp; omega
          have HUT := Lib.hid hut
          obtain ⟨b, off, c1, b2, off2, c2, r, e1, e2, e3, hr⟩ := HENTRY.out wr j u cc HI.out hjn hul q2
          have hi3 : (cc : Int) < (M : Int) + 1 := by omega
          have hi4 : ¬ ((cc : Int) < 0) := by omega
          clear hut
          rcases hr with ⟨r1, r2⟩ | ⟨r1, r2, r3, r4⟩
          · have HT : Hid (thn (tb T M cost rows j) cost ct cc u ≠ nd) := by show _ ≠ _; rw [HUT.out, thn_same, ← HUT.out, r1]; exact fun e => HWN.out e.symm
            have HFN2 := Lib.hid (HFN.out.skip HT.out)
            clear r1
            go_wp2_with fail
            go_roundw
            case rel => exact ⟨u + 1, _, bi, by omega, rfl, by go_num, rfl, HFN2, rfl⟩
            case measure => simp [intOf]; omega
          · have hq2 : ¬ r ≤ -562949953421312 := by omega
            have HTE : Hid (thn (tb T M cost rows j) cost ct cc u = r) := by show _ = _; rw [HUT.out, thn_same, ← HUT.out, r1]
            clear r1 r2
            by_cases hb0 : bi < 0
            case neg =>
              have HFN2 := Lib.hid (HFN.out.had (by omega))
              go_wp2_with fail
              go_roundw
              case rel => exact ⟨u + 1, _, bi, by omega, rfl, by go_num, rfl, HFN2, rfl⟩
              case measure => simp [intOf]; omega
            by_cases hh : r = nd
            · have HFN2 := Lib.hid (HFN.out.hit hb0 (HTE.out.trans hh))
              have hhb : (r == nd) = true := by simp; omega
              clear hh
              go_wp2_with fail
              go_roundw
              case rel => exact ⟨u + 1, _, (u : Int), by omega, rfl, by go_num, rfl, HFN2, rfl⟩
              case measure => simp [intOf]; omega
            · have HFN2 := Lib.hid (HFN.out.skip (by rw [HTE.out]; exact hh))
              have hhb : (r == nd) = false := by simp; omega
              clear hh
              go_wp2_with fail
              go_roundw
              case rel => exact ⟨u + 1, _, bi, by omega, rfl, by go_num, rfl, HFN2, rfl⟩
              case measure => simp [intOf]; omega
        have hq : ((u : Int) != (ct : Int)) = true := by simp; omega
        have hwc : IntKind.i64.wrap ((cc : Int) - 1) = (cc : Int) - 1 := IntWalk.i64_in _ (by omega)
        have hwd : IntKind.i64.wrap (-cost) = -cost := IntWalk.i64_in _ (by omega)
        by_cases hc0 : cc = 0
        · have HT : Hid (thn (tb T M cost rows j) cost ct cc u ≠ nd) := by show _ ≠ _; rw [hc0, thn_zero hut]; exact fun e => HWN.out e.symm
          have HFN2 := Lib.hid (HFN.out.skip HT.out)
          have hi4 : (cc : Int) - 1 < 0 := by omega
          clear hc0
          go_wp2_with fail
          go_quiet (fail)
          go_wp2_with fail
          go_roundw
          case rel => exact ⟨u + 1, _, bi, by omega, rfl, by go_num, rfl, HFN2, rfl⟩
          case measure => simp [intOf]; omega
        obtain ⟨b, off, c1, b2, off2, c2, r, e1, e2, e3, hr⟩ := HENTRY.out wr j u (cc - 1) HI.out hjn hul (by omega)
        have hi3 : (cc : Int) - 1 < (M : Int) + 1 := by omega
        have hi4 : ¬ ((cc : Int) - 1 < 0) := by omega
        have hi5 : ((cc : Int) - 1).toNat = cc - 1 := by omega
        have hcp : 0 < cc := by omega
        have HUT := Lib.hid hut
        clear hut hc0
        rcases hr with ⟨r1, r2⟩ | ⟨r1, r2, r3, r4⟩
        · have HT : Hid (thn (tb T M cost rows j) cost ct cc u ≠ nd) := by show _ ≠ _; rw [thn_none HUT.out hcp r1]; exact fun e => HWN.out e.symm
          have HFN2 := Lib.hid (HFN.out.skip HT.out)
          clear r1
          go_wp2_with fail
          go_quiet (fail)
          go_wp2_with fail
          go_roundw
          case rel => exact ⟨u + 1, _, bi, by omega, rfl, by go_num, rfl, HFN2, rfl⟩
          case measure => simp [intOf]; omega
        · have hq2 : ¬ r ≤ -562949953421312 := by omega
          have HTE : Hid (thn (tb T M cost rows j) cost ct cc u = r - cost) := by show _ = _; rw [thn_some HUT.out hcp (by rw [← r1]; exact r2), r1]
          clear r1 r2
          by_cases hb0 : bi < 0
          case neg =>
            have HFN2 := Lib.hid (HFN.out.had (by omega))
            go_wp2_with fail
            go_quiet (fail)
            go_wp2_with fail
            go_roundw
            case rel => exact ⟨u + 1, _, bi, by omega, rfl, by go_num, rfl, HFN2, rfl⟩
            case measure => simp [intOf]; omega
          by_cases hh : r - cost = nd
          · have HFN2 := Lib.hid (HFN.out.hit hb0 (HTE.out.trans hh))
            have hhb : (r + -cost == nd) = true := by simp; omega
            clear hh
            go_wp2_with fail
            go_quiet (fail)
            go_wp2_with fail
            go_roundw
            case rel => exact ⟨u + 1, _, (u : Int), by omega, rfl, by go_num, rfl, HFN2, rfl⟩
            case measure => simp [intOf]; omega
          · have HFN2 := Lib.hid (HFN.out.skip (by rw [HTE.out]; exact hh))
            have hhb : (r + -cost == nd) = false := by simp; omega
            clear hh
            go_wp2_with fail
            go_quiet (fail)
            go_wp2_with fail
            go_roundw
            case rel => exact ⟨u + 1, _, bi, by omega, rfl, by go_num, rfl, HFN2, rfl⟩
            case measure => simp [intOf]; omega
      · have huT : u = T := by omega
        obtain ⟨ff, hbf, hfl, hnu⟩ := (show Fnd (tb T M cost rows j) cost ct cc nd T bi from huT ▸ HFN.out).fin HXU.out
        subst hbf
        have hI2 := HI.out.below (below_drewN (Below.refl B wr) nq)
        have hjl : (rows[j]).length = T := by rw [← getRow hpr]; exact HROW.out j hjn
        obtain ⟨pb, poff, pc1, pb2, poff2, pc2, hpe, hp1, hp2⟩ := hI2.2.2.2.2.1.at_ (i := j) (k := ff) hpr (by omega)
        have hpv : rows[j][ff]'(by omega) = (rows.getD j []).getD ff 0 := by
          rw [getRow hpr, getD_at' _ _ _ (by omega)]
        rw [hpv] at hp2
        rw [hjl] at hp1
        have hPA : PA = some ⟨pb, poff, none⟩ := by injection hpe
        rw [hPA] at x1
        have hpb := HENT.out j ff
        obtain ⟨p, hpp⟩ : ∃ p, p = (rows.getD j []).getD ff 0 := ⟨_, rfl⟩
        rw [← hpp] at hp2 hpb
        have hst1 : (stp T M cost rows j).1 = ff := by rw [HSTP.out]; exact hnu
        have hst2 : (stp T M cost rows j).2 = if ff = ct then cc else cc - 1 := by rw [HSTP.out]; simp only [hnu]
        have hthn : thn (tb T M cost rows j) cost ct cc ff = nd := by
          rcases (show Fnd (tb T M cost rows j) cost ct cc nd T (ff : Int) from huT ▸ HFN.out) with ⟨h1, _⟩ | ⟨v, h1, _, h3, _⟩
          · omega
          · have : v = ff := by omega
            rw [← this]; exact h3
        have hnj : needJ T M cost rows (j + 1) = en (tb T M cost rows j) ff (stp T M cost rows j).2 - p := by
          show en (tb T M cost rows j) (stp T M cost rows j).1 (stp T M cost rows j).2 - (rows.getD j []).getD (stp T M cost rows j).1 0 = _
          rw [hst1, hpp]
        have HOS : Hid (outT T M cost rows (j + 1) = outT T M cost rows j ++ [(ff : Int)]) := by show _ = _; rw [outT_succ, hst1]
        have HPA := Lib.hid hPA
        have HI2 := Lib.hid hI2
        have hsz : B ≤ (wr.drewN nq).heap.size := hI2.2.2.1
        have hsz2 : B ≤ wr.heap.size := hsz
        have hown2 : (wr.drewN nq).ownsRow B 3 1 (.slice (some ⟨g, 0, none⟩) j cap) j (ic (outT T M cost rows j)) := HOWN.out
        have hi2 : (ff : Int) < (T : Int) := by omega
        have hnb : ¬ ((ff : Int) < 0) := by omega
        obtain ⟨hii, hzi0, hzi1, hzi2⟩ := HII.out
        have HOLn := Lib.hid (outT_len T M cost rows (j + 1))
        by_cases hut : ff = ct
        · have hq : ((ff : Int) != (ct : Int)) = false := by simp; omega
          have HCJ : Hid (cutJ T M cost rows (j + 1) = cc) := by show (stp T M cost rows j).2 = _; rw [hst2, if_pos hut]
          have HNJ : Hid (needJ T M cost rows (j + 1) = nd - p) := by
            show _ = _
            rw [hnj, hst2, if_pos hut, ← hthn, hut, thn_same]
          clear huT hI2 hjl hpv hpp hpe hPA hst1 hst2 hthn hnj hnu hut
          go_wp2_with (at_builtin; refine wpList_append_own _ rfl _ _ 22 rfl B 3 ii (.int .i64 0) 1 8 Try.underlying22 hii hzi0 hzi1 hzi2 rfl (by decide) _ _ _ rfl (hown2.alloc _) ⟨wr.heap.size, 0, none⟩ 1 1 [.int .i64 (ff : Int)] rfl rfl (World.news_of_block (cs := #[.int .i64 (ff : Int)]) (t := 3) (fr := (0, 0)) (heap_alloc_new (wr.drewN nq) _)) (by simp [Value.oneCell']) (by unfold maxLen; omega) (by omega) (by simp; omega) ?_; intro v1 wA hownA hgrowA _)
          have hbA := below_app' (Below.refl B _) hsz hown2 hgrowA
          clear hii hzi0 hzi1 hzi2
          go_wp2_with fail
          go_roundw
          case rel => exact ⟨j + 1, by omega, by go_num, by rw [HCJ.out], by rw [HNJ.out], owns_eq hownA (by rw [HOLn.out]) (by rw [HOS.out, ic_app]; rfl), HI2.out.below hbA, fun _ => HFB.out (by omega)⟩
          case measure => simp [intOf]; omega
        · have hq : ((ff : Int) != (ct : Int)) = true := by simp; omega
          have hcc0 : 0 < cc := by
            rcases Nat.eq_zero_or_pos cc with h | h
            · exfalso
              apply HWN.out
              rw [← hthn, h, thn_zero hut]
            · exact h
          have hne0 : en (tb T M cost rows j) ff (cc - 1) ≠ NONE := fun h => HWN.out (by rw [← hthn, thn_none hut hcc0 h])
          have HCJ : Hid (((cutJ T M cost rows (j + 1) : Nat) : Int) = (cc : Int) - 1) := by show (((stp T M cost rows j).2 : Nat) : Int) = _; rw [hst2, if_neg hut]; omega
          have HNJ : Hid (needJ T M cost rows (j + 1) = nd + cost - p) := by
            show _ = _
            rw [hnj, hst2, if_neg hut, ← hthn, thn_some hut hcc0 hne0]; omega
          clear huT hI2 hjl hpv hpp hpe hPA hst1 hst2 hthn hnj hnu hut hne0
          go_wp2_with (at_builtin; refine wpList_append_own _ rfl _ _ 22 rfl B 3 ii (.int .i64 0) 1 8 Try.underlying22 hii hzi0 hzi1 hzi2 rfl (by decide) _ _ _ rfl (hown2.alloc _) ⟨wr.heap.size, 0, none⟩ 1 1 [.int .i64 (ff : Int)] rfl rfl (World.news_of_block (cs := #[.int .i64 (ff : Int)]) (t := 3) (fr := (0, 0)) (heap_alloc_new (wr.drewN nq) _)) (by simp [Value.oneCell']) (by unfold maxLen; omega) (by omega) (by simp; omega) ?_; intro v1 wA hownA hgrowA _)
          have hbA := below_app' (Below.refl B _) hsz hown2 hgrowA
          clear hii hzi0 hzi1 hzi2
          go_wp2_with fail
          go_roundw
          case rel => exact ⟨j + 1, by omega, by go_num, by rw [HCJ.out], by rw [HNJ.out], owns_eq hownA (by rw [HOLn.out]) (by rw [HOS.out, ic_app]; rfl), HI2.out.below hbA, fun _ => HFB.out (by omega)⟩
          case measure => simp [intOf]; omega
end Go.Proofs.Ytdgkchdobmhpnaa
