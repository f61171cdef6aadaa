/- The contract of match.Value. -/
import Derived.Test.YtdgkchdobmhpnaaScoresB
namespace Go.Proofs.Ytdgkchdobmhpnaa
open Go.RowKit Go.Dw

def pt (rows : List (List Int)) (k : Nat) (t : Int) : Int := (rows.getD k []).getD t.toNat 0
/-- the fault of the take k -/
def valF (t : Int) (rows : List (List Int)) (takes : List Int) (k : Nat) : Int :=
  if 0 ≤ takes.getD k 0 ∧ takes.getD k 0 < t then (if pt rows k (takes.getD k 0) < 0 then 9 else 0) else 1
def sumTo (rows : List (List Int)) (takes : List Int) : Nat → Int
  | 0 => 0
  | k + 1 => sumTo rows takes k + pt rows k (takes.getD k 0)
def cutsTo (takes : List Int) : Nat → Int
  | 0 => 0
  | k + 1 => cutsTo takes k + (if 0 < k ∧ takes.getD k 0 ≠ takes.getD (k - 1) 0 then 1 else 0)
theorem cutsTo_b (takes : List Int) : ∀ k, 0 ≤ cutsTo takes k ∧ cutsTo takes k ≤ k
  | 0 => by simp [cutsTo]
  | k + 1 => by have := cutsTo_b takes k; unfold cutsTo; split <;> omega
/-- Value: what takes are worth, and the fault -/
def vl (t : Int) (rows : List (List Int)) (cost most : Int) (takes : List Int) : Int × Int :=
  if csc t rows cost most ≠ 0 then (0, csc t rows cost most) else
  if takes.length ≠ rows.length then (0, 3) else
  if firstNZ (valF t rows takes) takes.length ≠ 0 then (0, firstNZ (valF t rows takes) takes.length) else
  if most < cutsTo takes takes.length then (0, 11) else (sumTo rows takes takes.length - cutsTo takes takes.length * cost, 0)
theorem csc_zero {t : Int} {rows : List (List Int)} {cost most : Int} (h : csc t rows cost most = 0) :
    (1 ≤ t ∧ t ≤ 20) ∧ rows.length ≤ 60 ∧ (∀ j, j < rows.length → rowF t (rows.getD j []) = 0) ∧ 0 ≤ cost ∧ cost ≤ 1000000 ∧ 0 ≤ most ∧ most ≤ 60 := by
  by_cases h1 : 1 ≤ t ∧ t ≤ 20
  case neg => rw [csc_1 h1] at h; simp at h
  by_cases h2 : 60 < rows.length
  · rw [csc_2 h1 h2] at h; simp at h
  have h3 : ∀ j, j < rows.length → rowF t (rows.getD j []) = 0 := by
    intro j
    induction j using Nat.strongRecOn with
    | _ j ih =>
      intro hj
      by_cases hb : rowF t (rows.getD j []) = 0
      · exact hb
      · rw [csc_row h1 h2 hj (fun i hi => ih i hi (by omega)) hb] at h; exact absurd h hb
  rw [csc_end h1 h2 h3] at h
  by_cases h4 : 0 ≤ cost ∧ cost ≤ 1000000 ∧ 0 ≤ most ∧ most ≤ 60
  · exact ⟨h1, by omega, h3, h4.1, h4.2.1, h4.2.2.1, h4.2.2.2⟩
  · rw [if_pos h4] at h; simp at h
theorem rowF_zero {t : Int} {l : List Int} (h : rowF t l = 0) : (l.length : Int) = t ∧ l.all okP = true := by
  unfold rowF at h
  split at h
  · rename_i h1
    refine ⟨h1, ?_⟩
    cases h2 : l.all okP
    · rw [h2] at h; simp at h
    · rfl
  · simp at h
theorem pt_range {t : Int} {rows : List (List Int)} {k : Nat} {u : Int} (h : rowF t (rows.getD k []) = 0) (hu : 0 ≤ u) (hut : u < t) : -1 ≤ pt rows k u ∧ pt rows k u ≤ 1000000 := by
  obtain ⟨h1, h2⟩ := rowF_zero h
  have hl : u.toNat < (rows.getD k []).length := by omega
  have := okP_t (List.all_eq_true.1 h2 _ (List.getElem_mem hl))
  unfold pt
  rw [List.getD_eq_getElem?_getD (l := rows.getD k []), List.getElem?_eq_getElem hl]
  exact this
section
variable {t : Int} {rows : List (List Int)} {cost most : Int} {takes : List Int}
theorem vl_csc (h : csc t rows cost most ≠ 0) : vl t rows cost most takes = (0, csc t rows cost most) := by unfold vl; rw [if_pos h]
theorem vl_len (h : csc t rows cost most = 0) (h2 : takes.length ≠ rows.length) : vl t rows cost most takes = (0, 3) := by unfold vl; rw [if_neg (fun hh => hh h), if_pos h2]
theorem vl_bad (h : csc t rows cost most = 0) (h2 : takes.length = rows.length) {k : Nat} (hk : k < takes.length) (hall : ∀ j, j < k → valF t rows takes j = 0) (hb : valF t rows takes k ≠ 0) : vl t rows cost most takes = (0, valF t rows takes k) := by
  unfold vl; rw [if_neg (fun hh => hh h), if_neg (fun hh => hh h2), firstNZ_bad hall hb hk, if_pos hb]
theorem vl_end (h : csc t rows cost most = 0) (h2 : takes.length = rows.length) (hall : ∀ j, j < takes.length → valF t rows takes j = 0) : vl t rows cost most takes = if most < cutsTo takes takes.length then (0, 11) else (sumTo rows takes takes.length - cutsTo takes takes.length * cost, 0) := by
  unfold vl; rw [if_neg (fun hh => hh h), if_neg (fun hh => hh h2), firstNZ_ok hall, if_neg (by simp)]
end
theorem valF_1 {t : Int} {rows : List (List Int)} {takes : List Int} {k : Nat} {u : Int} (e : takes.getD k 0 = u) (h : ¬ (0 ≤ u ∧ u < t)) : valF t rows takes k = 1 := by
  unfold valF; rw [e, if_neg h]
theorem valF_9 {t : Int} {rows : List (List Int)} {takes : List Int} {k : Nat} {u : Int} (e : takes.getD k 0 = u) (h : 0 ≤ u ∧ u < t) (hp : pt rows k u < 0) : valF t rows takes k = 9 := by
  unfold valF; rw [e, if_pos h, if_pos hp]
theorem valF_0 {t : Int} {rows : List (List Int)} {takes : List Int} {k : Nat} {u : Int} (e : takes.getD k 0 = u) (h : 0 ≤ u ∧ u < t) (hp : ¬ pt rows k u < 0) : valF t rows takes k = 0 := by
  unfold valF; rw [e, if_pos h, if_neg hp]
theorem getD_at' {α : Type} (l : List α) (d : α) (k : Nat) (h : k < l.length) : l.getD k d = l[k] := by
  rw [List.getD_eq_getElem?_getD, List.getElem?_eq_getElem h]; rfl
/-- the cells of the scores behind a new block -/
theorem sco_cells {w w1 : World} {T : TypeId} {t cost most : Int} {pv : Value} (hb : Below (w.heap.size + 1) (w.alloc (.cells #[.int .i64 t, pv, .int .i64 cost, .int .i64 most] T)) w1) :
    w1.cell? ⟨w.heap.size, 0, none⟩ = some (.int .i64 t) ∧ w1.cell? ⟨w.heap.size, 1, none⟩ = some pv ∧ w1.cell? ⟨w.heap.size, 2, none⟩ = some (.int .i64 cost) ∧ w1.cell? ⟨w.heap.size, 3, none⟩ = some (.int .i64 most) := by
  refine ⟨?_, ?_, ?_, ?_⟩ <;> (rw [hb.cell (by simp)]; simp)

theorem vl_ret {p : Int × Int} {a b : Int} (h : p = (a, b)) : Ending.returned (.tuple #[.int .i64 a, .int .i64 b]) = .returned (.tuple #[.int .i64 p.1, .int .i64 p.2]) := by rw [h]
set_option maxHeartbeats 1600000 in
theorem value_any (x : Sco) (A : Option Addr) (c : Nat) (takes : List Int) (w : World) (h : x.Ok w) (ha : Rd w A (ic takes)) (hn : takes.length ≤ 9223372036854775807) :
    Calls Try.prog 19 #[.agg x.cells.toArray, .slice A takes.length c] w fun e w' => e = .returned (.tuple #[.int .i64 (vl x.t x.rows x.cost x.most takes).1, .int .i64 (vl x.t x.rows x.cost x.most takes).2]) ∧ Below w.heap.size w w' := by
  have hb0 : Below w.heap.size w (w.alloc (.cells x.cells.toArray 41)) := (Below.refl _ _).alloc (Nat.le_refl _) _
  have h1 := h.below hb0
  have ha1 := ha.below hb0
  have HB0 := Lib.hid hb0
  have HCK := Lib.hid (checkScores_any x _ h1)
  have HRA := Lib.hid (rows_at x)
  have HRL := Lib.hid (rows_len x)
  clear hb0
  generalize x.rows = rows at *
  obtain ⟨t, ⟨PA, pc, L⟩, cost, most⟩ := x
  simp only [Sco.cells, Slc.v] at *
  clear h ha
  go_enter Try.func19, Try.ntmps19
  go_wp2_with fail
  refine HCK.out.mono ?_
  rintro e w1 ⟨rfl, hb1⟩
  have HB1 := Lib.hid (HB0.out.trans (hb1.mono (by simp)))
  have h2 := h1.below hb1
  have ha2 := ha1.below hb1
  obtain ⟨c0, c1, c2, c3⟩ := sco_cells (by simpa using hb1)
  clear hb1 h1 ha1 HCK
  obtain ⟨hpn, hprd, hprs⟩ := h2
  simp only at hpn hprd hprs
  have HRS := Lib.hid hprs
  clear hprs
  by_cases hz : csc t rows cost most = 0
  case neg =>
    have hne : (csc t rows cost most != 0) = true := by simpa using hz
    have HZ := Lib.hid hz
    clear hz
    go_wp2_with fail
    go_ret2
    exact ⟨vl_ret (vl_csc HZ.out), HB1.out⟩
  obtain ⟨⟨ht1, ht2⟩, hl60, hrowF, hco1, hco2, hmo1, hmo2⟩ := csc_zero hz
  have HRF := Lib.hid hrowF
  have hne : (csc t rows cost most != 0) = false := by simpa using hz
  have HZ := Lib.hid hz
  rw [HRL.out] at hl60
  clear hz hrowF
  by_cases hlen : takes.length = L.length
  case neg =>
    have h3 : ((takes.length : Int) != (L.length : Int)) = true := by simp; omega
    have HN := Lib.hid hlen
    clear hlen
    go_wp2_with fail
    go_ret2
    exact ⟨vl_ret (vl_len HZ.out (by rw [HRL.out]; exact HN.out)), HB1.out⟩
  have h3 : ((takes.length : Int) != (L.length : Int)) = false := by simp; omega
  have HN := Lib.hid (show takes.length = rows.length by rw [HRL.out]; exact hlen)
  have hn60 : takes.length ≤ 60 := by omega
  have hlL : takes.length ≤ L.length := by omega
  clear hlen
  go_wp2_with fail
  go_loop [7, 8, 24] (fun su cu i => ∃ k : Nat, k ≤ takes.length ∧ i = .int .i64 k ∧ su = .int .i64 (sumTo rows takes k) ∧ cu = .int .i64 (cutsTo takes k) ∧ 0 ≤ sumTo rows takes k ∧ sumTo rows takes k ≤ 1000000 * k ∧ Hid (∀ j, j < k → valF t rows takes j = 0)) (fun _ _ i => takes.length - (intOf i).toNat)
  case atStart => exact ⟨0, Nat.zero_le _, rfl, rfl, rfl, by simp [sumTo], by simp [sumTo], by intro j hj; omega⟩
  case round =>
    obtain ⟨k, hk, rfl, rfl, rfl, hs0, hs1, hall⟩ := hrel
    have hcu := cutsTo_b takes k
    by_cases hlt : k < takes.length
    · obtain ⟨b, off, rfl, hb, hc⟩ := ha2.at_ (by simp [ic_length]; omega)
      have hck := hc k _ (ic_at takes k hlt)
      have HG := Lib.hid (getD_at' takes 0 k hlt)
      have HBAD := Lib.hid (@vl_bad t rows cost most takes HZ.out HN.out k hlt hall.out)
      have HST := Lib.hid (@step_all (valF t rows takes) k hall.out)
      have HRFk := Lib.hid (HRF.out k (by rw [← HN.out]; exact hlt))
      have hkL : k < L.length := by omega
      have HRk := Lib.hid (HRA.out k hkL)
      have HSum : Hid (sumTo rows takes (k + 1) = sumTo rows takes k + pt rows k takes[k]) := by show _ = _; rw [sumTo, HG.out]
      have HCut0 : Hid (cutsTo takes (k + 1) = cutsTo takes k + (if 0 < k ∧ takes[k] ≠ takes.getD (k - 1) 0 then 1 else 0)) := by show _ = _; rw [cutsTo, HG.out]
      have hprev : 0 < k → w1.cell? ⟨b, off + (k - 1), none⟩ = some (.int .i64 (takes.getD (k - 1) 0)) := by
        intro h0
        rw [getD_at' takes 0 (k - 1) (by omega)]
        exact hc (k - 1) _ (ic_at takes (k - 1) (by omega))
      clear hc
      generalize takes[k] = u at *
      by_cases hu : 0 ≤ u ∧ u < t
      case neg =>
        have e1 := Lib.hid (valF_1 (rows := rows) HG.out hu)
        rcases (show u < 0 ∨ (¬ u < 0 ∧ t ≤ u) by omega) with h5 | h5
        all_goals
          clear hu hprev
          go_wp2_with fail
          go_ret2
          exact ⟨vl_ret (by rw [HBAD.out (by rw [e1.out]; decide), e1.out]), HB1.out⟩
      obtain ⟨hu0, hu1⟩ := hu
      obtain ⟨pb, poff, rfl, hpb, hpc⟩ := hprd.at_ (by simp; omega)
      have hpk := hpc k (L[k].v) (by simp [hkL])
      obtain ⟨hlk, hrk⟩ := HRS.out L[k] (List.getElem_mem hkL)
      clear hpc
      have hpr := pt_range HRFk.out hu0 hu1
      have hlenk := (rowF_zero HRFk.out).1
      have HPT : Hid (pt rows k u = L[k].xs.getD u.toNat 0) := by show _ = _; unfold pt; rw [HRk.out]
      rw [HRk.out] at hlenk
      generalize L[k] = s at *
      obtain ⟨sa, sc, sx⟩ := s
      simp only [Slc.v] at hpk hlk hrk hlenk HPT
      have hux : u.toNat < sx.length := by omega
      obtain ⟨sb, soff, rfl, hsb, hsc⟩ := hrk.at_ (by simp [ic_length]; omega)
      have hsu := hsc u.toNat _ (ic_at sx u.toNat hux)
      clear hsc hrk
      rw [show sx[u.toNat] = pt rows k u by rw [HPT.out, getD_at' sx 0 u.toNat hux]] at hsu
      have HZ9 := Lib.hid (@valF_9 t rows _ k u HG.out ⟨hu0, hu1⟩)
      have HZ0 := Lib.hid (@valF_0 t rows _ k u HG.out ⟨hu0, hu1⟩)
      generalize pt rows k u = pv at *
      by_cases hneg : pv < 0
      · have e1 := Lib.hid (HZ9.out hneg)
        clear hprev
        go_wp2_with fail
        go_ret2
        exact ⟨vl_ret (by rw [HBAD.out (by rw [e1.out]; decide), e1.out]), HB1.out⟩
      · have e1 := Lib.hid (HZ0.out hneg)
        by_cases hk0 : k = 0
        · have hd : decide (0 < k) = false := by simp; omega
          have HC : Hid (cutsTo takes (k + 1) = cutsTo takes k) := by show _ = _; rw [HCut0.out, if_neg (by omega)]; omega
          clear hprev hk0
          go_wp2_with fail
          go_round
          case rel => exact ⟨k + 1, by omega, by go_num, by rw [HSum.out], by rw [HC.out], by rw [HSum.out]; omega, by rw [HSum.out]; omega, HST.out e1.out⟩
          case measure => simp [intOf]; omega
        · have hd : decide (0 < k) = true := by simp; omega
          have hp := hprev (by omega)
          have hi0' : (1 : Int) ≤ (k : Int) := by omega
          have hi2 : ((k : Int) - 1).toNat = k - 1 := by omega
          generalize takes.getD (k - 1) 0 = q at *
          by_cases hq : u = q
          · have hq1 : (u != q) = false := by simp [hq]
            have HC : Hid (cutsTo takes (k + 1) = cutsTo takes k) := by show _ = _; rw [HCut0.out, if_neg (by simp [hq])]; omega
            clear hprev hk0 hq
            go_wp2_with fail
            go_round
            case rel => exact ⟨k + 1, by omega, by go_num, by rw [HSum.out], by rw [HC.out], by rw [HSum.out]; omega, by rw [HSum.out]; omega, HST.out e1.out⟩
            case measure => simp [intOf]; omega
          · have hq1 : (u != q) = true := by simp [hq]
            have HC : Hid (cutsTo takes (k + 1) = cutsTo takes k + 1) := by show _ = _; rw [HCut0.out, if_pos ⟨by omega, hq⟩]
            clear hprev hk0 hq
            go_wp2_with fail
            go_round
            case rel => exact ⟨k + 1, by omega, by go_num, by rw [HSum.out], by rw [HC.out], by rw [HSum.out]; omega, by rw [HSum.out]; omega, HST.out e1.out⟩
            case measure => simp [intOf]; omega
    · obtain rfl : k = takes.length := by omega
      have HE := Lib.hid (vl_end HZ.out HN.out hall.out)
      generalize sumTo rows takes takes.length = su at *
      generalize cutsTo takes takes.length = cu at *
      have hm1 : 0 ≤ cu * cost := Int.mul_nonneg (by omega) (by omega)
      have hm2 : cu * cost ≤ 60 * 1000000 := Int.mul_le_mul (by omega) hco2 (by omega) (by omega)
      by_cases hcm : most < cu
      · have HCM := Lib.hid hcm
        go_wp2_with fail
        go_ret2
        exact ⟨vl_ret (by rw [HE.out, if_pos HCM.out]), HB1.out⟩
      · have HCM := Lib.hid hcm
        go_wp2_with fail
        go_ret2
        exact ⟨vl_ret (by rw [HE.out, if_neg (by have := HCM.out; omega)]), HB1.out⟩
end Go.Proofs.Ytdgkchdobmhpnaa
