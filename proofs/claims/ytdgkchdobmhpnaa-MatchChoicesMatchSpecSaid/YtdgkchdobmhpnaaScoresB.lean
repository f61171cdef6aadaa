/- The contract of the reference's CheckScores. -/
import Derived.Test.YtdgkchdobmhpnaaScoresA
namespace Go.Proofs.Ytdgkchdobmhpnaa
open Go.RowKit Go.Dw

set_option maxHeartbeats 1000000 in
theorem rcheckScores_any (x : Sco) (w : World) (h : x.Ok w) :
    Calls Try.prog 24 #[.agg x.cells.toArray] w fun e w' => e = .returned (.int .i64 (csc x.t x.rows x.cost x.most)) ∧ Below w.heap.size w w' := by
  have HRA := Lib.hid (rows_at x)
  have HRL := Lib.hid (rows_len x)
  have hb0 : Below w.heap.size w (w.alloc (.cells x.cells.toArray 41)) := (Below.refl _ _).alloc (Nat.le_refl _) _
  have h1 := h.below hb0
  have HB0 := Lib.hid hb0
  clear hb0
  generalize x.rows = rows at *
  obtain ⟨t, ⟨A, c, L⟩, cost, most⟩ := x
  obtain ⟨hn, hrd, hrs⟩ := h1
  clear h
  simp only [Sco.cells, Slc.v] at *
  have HRS := Lib.hid hrs
  clear hrs
  by_cases ht : 1 ≤ t ∧ t ≤ 20
  case neg =>
    have HE := Lib.hid (csc_1 (rows := rows) (cost := cost) (most := most) ht)
    have HT := Lib.hid ht
    clear ht
    go_enter Try.func24, Try.ntmps24
    go_wp2_with (go_at_call 34; refine (within_f _ _ _ _ HT.out).mono ?_; rintro e w' ⟨rfl, rfl⟩)
    go_ret
    exact ⟨ret_int HE.out.symm, HB0.out⟩
  have HT := Lib.hid ht
  obtain ⟨ht1, ht2⟩ := ht
  by_cases hl : 60 < L.length
  · have HE := Lib.hid (csc_2 (cost := cost) (most := most) HT.out (by rw [HRL.out]; exact hl))
    go_enter Try.func24, Try.ntmps24
    go_wp2_with (go_at_call 34; refine (within_t _ _ _ _ HT.out).mono ?_; rintro e w' ⟨rfl, rfl⟩)
    go_ret
    exact ⟨ret_int HE.out.symm, HB0.out⟩
  go_enter Try.func24, Try.ntmps24
  go_wp2_with (go_at_call 34; refine (within_t _ _ _ _ HT.out).mono ?_; rintro e w' ⟨rfl, rfl⟩)
  go_loop [18] (fun i => ∃ k : Nat, k ≤ L.length ∧ i = .int .i64 k ∧ Hid (∀ j, j < k → rowF t (rows.getD j []) = 0)) (fun i => L.length - (intOf i).toNat)
  case atStart => exact ⟨0, Nat.zero_le _, rfl, by intro j hj; omega⟩
  case round =>
    obtain ⟨k, hk, rfl, hall⟩ := hrel
    by_cases hlt : k < L.length
    · obtain ⟨b, off, rfl, hb, hc⟩ := hrd.at_ (by simp; omega)
      have hck := hc k (L[k].v) (by simp [hlt])
      clear hc
      obtain ⟨hlen, hrdk⟩ := HRS.out L[k] (List.getElem_mem hlt)
      have HRK := Lib.hid (HRA.out k hlt)
      have HBAD := Lib.hid (@csc_row t rows cost most HT.out (by rw [HRL.out]; exact hl) k (by rw [HRL.out]; exact hlt) hall.out)
      have HSTEP := Lib.hid (@step_all (fun j => rowF t (rows.getD j [])) k hall.out)
      clear HRA
      generalize L[k] = s at *
      obtain ⟨a, cc, xs⟩ := s
      simp only [Slc.v] at hck hrdk hlen
      by_cases hlx : (xs.length : Int) = t
      case neg =>
        have h3 : ((xs.length : Int) != t) = true := by simpa using hlx
        have HX := Lib.hid hlx
        clear hlx
        go_wp2
        go_ret
        have e3 := rowF_3 HX.out
        have e4 : rows.getD k [] = xs := HRK.out
        exact ⟨ret_int (by rw [HBAD.out (by rw [e4, e3]; decide), e4, e3]), HB0.out⟩
      · have h3 : ((xs.length : Int) != t) = false := by simpa using hlx
        have HX := Lib.hid hlx
        have hx20 : xs.length ≤ 20 := by omega
        clear hlx
        go_wp2
        go_loop [29] (fun i => ∃ k : Nat, k ≤ xs.length ∧ i = .int .i64 k ∧ Hid ((xs.take k).all okP = true)) (fun i => xs.length - (intOf i).toNat)
        case atStart => exact ⟨0, Nat.zero_le _, rfl, by simp [Hid]⟩
        case round =>
          obtain ⟨j, hj, rfl, hall2⟩ := hrel
          by_cases hlj : j < xs.length
          · obtain ⟨b2, off2, rfl, hb2, hc2⟩ := hrdk.at_ (by simp [ic_length]; omega)
            have hcj := hc2 j _ (ic_at xs j hlj)
            clear hc2 hrdk
            have hsn : Hid ((xs.take (j + 1)).all okP = ((xs.take j).all okP && okP xs[j])) := all_take_succ _ _ _ hlj
            cases hv : okP xs[j] with
            | true =>
              have hb1 := Lib.hid (okP_t hv)
              have Hv := Lib.hid hv
              clear hv
              go_wp2_with (go_at_call 34; refine (within_t _ _ _ _ hb1.out).mono ?_; rintro e w' ⟨rfl, rfl⟩)
              go_round
              case rel => exact ⟨j + 1, by omega, by go_num, by show _ = _; rw [hsn.out, hall2.out, Hv.out]; rfl⟩
              case measure => simp [intOf]; omega
            | false =>
              have hb := okP_f hv
              have Hv := Lib.hid hv
              clear hv
              have e3 := Lib.hid (rowF_1 HX.out hlj Hv.out)
              have HBB := Lib.hid hb
              clear hb
              go_wp2_with (go_at_call 34; refine (within_f _ _ _ _ HBB.out).mono ?_; rintro e w' ⟨rfl, rfl⟩)
              go_ret
              have e4 : rows.getD k [] = xs := HRK.out
              exact ⟨ret_int (by rw [HBAD.out (by rw [e4, e3.out]; decide), e4, e3.out]), HB0.out⟩
          · go_wp2
            have hfull : xs.take j = xs := List.take_of_length_le (by omega)
            have h5 := hall2.out
            rw [hfull] at h5
            go_round
            case rel => exact ⟨k + 1, by omega, by go_num, HSTEP.out (by show rowF t (rows.getD k []) = 0; rw [HRK.out]; exact rowF_0 HX.out h5)⟩
            case measure => simp [intOf]; omega
    · have HE := Lib.hid (csc_end (cost := cost) (most := most) HT.out (by rw [HRL.out]; exact hl) (fun j hj => hall.out j (by rw [HRL.out] at hj; omega)))
      by_cases hcm : 0 ≤ cost ∧ cost ≤ 1000000 ∧ 0 ≤ most ∧ most ≤ 60
      · have HC := Lib.hid hcm
        obtain ⟨hc1, hc2, hc3, hc4⟩ := hcm
        go_wp2_with fail
        refine (within_t _ _ _ _ ⟨hc1, hc2⟩).mono ?_
        rintro e w' ⟨rfl, rfl⟩
        go_wp2_with fail
        refine (within_t _ _ _ _ ⟨hc3, hc4⟩).mono ?_
        rintro e w' ⟨rfl, rfl⟩
        go_wp2_with fail
        go_ret
        exact ⟨ret_int (by rw [HE.out, if_neg (fun hh => hh HC.out)]), HB0.out⟩
      · have HC := Lib.hid hcm
        by_cases hc1 : 0 ≤ cost ∧ cost ≤ 1000000
        · have hc2 : ¬ (0 ≤ most ∧ most ≤ 60) := by omega
          have H1 := Lib.hid hc1
          have H2 := Lib.hid hc2
          clear hcm hc1 hc2
          go_wp2_with fail
          refine (within_t _ _ _ _ H1.out).mono ?_
          rintro e w' ⟨rfl, rfl⟩
          go_wp2_with fail
          refine (within_f _ _ _ _ H2.out).mono ?_
          rintro e w' ⟨rfl, rfl⟩
          go_wp2_with fail
          go_ret
          exact ⟨ret_int (by rw [HE.out, if_pos HC.out]), HB0.out⟩
        · have H1 := Lib.hid hc1
          clear hcm hc1
          go_wp2_with fail
          refine (within_f _ _ _ _ H1.out).mono ?_
          rintro e w' ⟨rfl, rfl⟩
          go_wp2_with fail
          go_ret
          exact ⟨ret_int (by rw [HE.out, if_pos HC.out]), HB0.out⟩
end Go.Proofs.Ytdgkchdobmhpnaa
