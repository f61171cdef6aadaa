/- The contract of the reference's Votes. -/
import Derived.Test.YtoiobhjbikfpmaaVotB
import Derived.Test.YtoiobhjbikfpmaaInsVt
namespace Go.Proofs.Ytoiobhjbikfpmaa
open Go.RowKit Go.Dw
attribute [local go_sem ↓] Go.wp_at_zero Go.wp_at_succ

theorem hitN_out {xs ys : List Int} {d : Int} {k : Nat} (h : ¬ (0 ≤ (k : Int) + d ∧ (k : Int) + d < xs.length)) : hitN xs ys xs.length d k = false := by
  unfold hitN
  by_cases h1 : 0 ≤ (k : Int) + d
  · have h2 : ¬ (k : Int) + d < xs.length := fun h3 => h ⟨h1, h3⟩
    rw [decide_eq_false h2]; simp
  · rw [decide_eq_false h1]; simp
theorem hitN_in {xs ys : List Int} {d : Int} {k i : Nat} (hi : (k : Int) + d = (i : Int)) (h1 : i < xs.length) (h2 : k < ys.length) : hitN xs ys xs.length d k = (xs[i] == ys[k]) := by
  unfold hitN
  rw [hi, decide_eq_true (show (0 : Int) ≤ (i : Int) by omega), decide_eq_true (show (i : Int) < (xs.length : Int) by omega), Int.toNat_natCast, List.getD_eq_getElem?_getD, List.getD_eq_getElem?_getD, List.getElem?_eq_getElem h1, List.getElem?_eq_getElem h2, Option.getD_some, Option.getD_some]
  by_cases e : xs[i] = ys[k] <;> simp [e]
set_option maxRecDepth 100000 in
set_option maxHeartbeats 4000000 in
theorem rvotes_any (Aa Ab : Option Addr) (ca cb : Nat) (xs ys : List Int) (most : Int) (w : World) (ha : Rd w Aa (ic xs)) (hb : Rd w Ab (ic ys)) (hna : xs.length ≤ 9223372036854775807) (hnb : ys.length ≤ 9223372036854775807) :
    Calls Try.prog 12 #[.slice Aa xs.length ca, .slice Ab ys.length cb, .int .i64 most] w (VotPost w (votF xs ys (bothF xs ys) most)) := by
  have HCK := Lib.hid (rboth_any Aa Ab ca cb xs ys w ha hb hna hnb)
  have HRA := Lib.hid ha
  have HRB := Lib.hid hb
  clear ha hb
  by_cases hz : bothF xs ys = 0
  case neg =>
    have hzb : (bothF xs ys != 0) = true := by simpa using hz
    have HR : Hid (votF xs ys (bothF xs ys) most = ([], bothF xs ys)) := by show _ = _; unfold votF; rw [if_pos hz]
    clear hz
    go_enter Try.func12, Try.ntmps12
    go_wp2_with fail
    refine HCK.out.mono ?_
    rintro e w1 ⟨rfl, rfl⟩
    go_wp2_with fail
    go_ret2
    exact votPost_none HR.out (Below.refl _ _)
  have hzb : (bothF xs ys != 0) = false := by simpa using hz
  obtain ⟨hza, hzb2⟩ := bothF_zero hz
  obtain ⟨hxl, hxs⟩ := chk_zero hza
  obtain ⟨hyl, hys⟩ := chk_zero hzb2
  clear hxs hys hza hzb2
  by_cases hle : 1 ≤ most ∧ most ≤ 1000
  case neg =>
    have HR : Hid (votF xs ys (bothF xs ys) most = ([], 1)) := by show _ = _; unfold votF; rw [if_neg (by simpa using hz), if_neg hle]
    have HW := Lib.hid (within_f most 1 1000 w hle)
    clear hz hle
    go_enter Try.func12, Try.ntmps12
    go_wp2_with fail
    refine HCK.out.mono ?_
    rintro e w1 ⟨rfl, rfl⟩
    go_wp2_with fail
    refine HW.out.mono ?_
    rintro e w1 ⟨rfl, rfl⟩
    go_wp2_with fail
    go_ret2
    exact votPost_none HR.out (Below.refl _ _)
  have HW := Lib.hid (within_t most 1 1000 w hle)
  have HR : Hid (votF xs ys (bothF xs ys) most = ((refV xs ys).take most.toNat, 0)) := by show _ = _; unfold votF; rw [if_neg (by simpa using hz), if_pos hle]
  obtain ⟨hle1, hle2⟩ := hle
  obtain ⟨m, rfl⟩ := Int.eq_ofNat_of_zero_le (show 0 ≤ most by omega)
  simp only [Int.toNat_natCast] at HR
  clear hz
  have hneg : IntKind.i64.wrap (-(ys.length : Int)) = -(ys.length : Int) := IntWalk.i64_in _ (by omega)
  have hneg' : wrap64 (-(ys.length : Int)) = -(ys.length : Int) := IntWalk.wrap64_in _ (by omega)
  go_enter Try.func12, Try.ntmps12
  go_wp2_with fail
  refine HCK.out.mono ?_
  rintro e w1 ⟨rfl, rfl⟩
  go_wp2_with fail
  refine HW.out.mono ?_
  rintro e w1 ⟨rfl, rfl⟩
  go_wp2_with fail
  go_loopw [9, 10] (fun ov dv wr => ∃ (j : Nat) (O : List Vot), j ≤ xs.length + ys.length + 1 ∧ dv = .int .i64 (-(ys.length : Int) + j) ∧ Hid (O = insAll geV [] (eR xs ys j)) ∧ O.length ≤ j ∧ Hid (wr.ownsRow w.heap.size 39 2 ov O.length (O.flatMap encVt)) ∧ Hid (Below w.heap.size w wr)) (fun _ dv _ => xs.length + ys.length + 1 - (intOf dv + ys.length).toNat)
  case atStart => exact ⟨0, [], by omega, by go_num, rfl, by simp, ⟨rfl, .inl ⟨rfl, rfl⟩⟩, Below.refl _ _⟩
  case round =>
    clear hneg hneg'
    obtain ⟨j, O, hj, rfl, HO, hol, HOWN, HB⟩ := hrel
    obtain ⟨A2, c2, rfl⟩ := slice_of_own HOWN.out
    obtain ⟨d, hd⟩ : ∃ d : Int, -(ys.length : Int) + j = d := ⟨_, rfl⟩
    have HD := Lib.hid hd
    by_cases hlt : j < xs.length + ys.length + 1
    case neg =>
      have hje : j = xs.length + ys.length + 1 := by omega
      have hd3 : decide (d ≤ (xs.length : Int)) = false := by simp; omega
      have HOE : Hid (O = refV xs ys) := by show _ = _; rw [HO.out, hje]; rfl
      have HRD2 := Lib.hid (Rd.of_own HOWN.out)
      have hcp := own_cap HOWN.out
      rw [hd]
      obtain ⟨q, hq, hqm, hqv⟩ : ∃ q : Nat, q = min m O.length ∧ q ≤ m ∧ q ≤ O.length := ⟨_, rfl, by omega, by omega⟩
      have HQ : Hid (O.take q = (refV xs ys).take m) := by
        show _ = _
        rw [← HOE.out, hq, List.take_eq_take_iff]; omega
      have HRT := Lib.hid (rd_take HRD2.out hqv)
      clear hje hd
      by_cases hmv : m ≤ O.length
      · have hqe : q = m := by omega
        subst hqe
        have hmn : min (q : Int) (O.length : Int) = (q : Int) := by omega
        have hd5 : decide ((q : Int) ≤ (O.length : Int)) = true := by simpa using hmv
        have hd6 : decide ((O.length : Int) < (q : Int)) = false := by simp; omega
        have hd7 : decide ((q : Int) < (O.length : Int)) = decide (q < O.length) := by simp
        clear hq
        go_wp2_with fail
        go_ret2
        refine ⟨A2, c2, ?_, ?_, HB.out⟩
        · rw [HR.out, ← HQ.out, List.length_take, Nat.min_eq_left hmv]; rfl
        · rw [HR.out, ← HQ.out]; exact HRT.out
      · have hqe : q = O.length := by omega
        subst hqe
        have hmn : min (m : Int) (O.length : Int) = (O.length : Int) := by omega
        have hd5 : decide ((m : Int) ≤ (O.length : Int)) = false := by simpa using hmv
        have hd6 : decide ((O.length : Int) < (m : Int)) = true := by simp; omega
        have hd7 : decide ((m : Int) < (O.length : Int)) = false := by simp; omega
        clear hq
        go_wp2_with fail
        go_ret2
        refine ⟨A2, c2, ?_, ?_, HB.out⟩
        · rw [HR.out, ← HQ.out, List.length_take, Nat.min_self]; rfl
        · rw [HR.out, ← HQ.out]; exact HRT.out
    have hd3 : decide (d ≤ (xs.length : Int)) = true := by simp; omega
    have hdl : -500 ≤ d := by omega
    have hdu : d ≤ 500 := by omega
    rw [hd]
    clear hd
    go_upto_block 2 with (fail)
    go_cut [11] (fun nv wx => nv = .int .i64 (cntV xs ys d : Int) ∧ ∃ n, wx = wr.drewN n)
    case first =>
      obtain ⟨wo, hwo⟩ : ∃ wo, wo = wr := ⟨_, rfl⟩
      subst hwo
      go_wp2_with fail
      go_loopw [11, 35] (fun nv kv wx => ∃ (k c : Nat), k ≤ ys.length ∧ kv = .int .i64 (k : Int) ∧ c ≤ k ∧ Hid (c = cntN xs ys xs.length d k) ∧ nv = .int .i64 (c : Int) ∧ ∃ n, wx = wo.drewN n) (fun _ kv _ => ys.length - (intOf kv).toNat)
      case atStart => exact ⟨0, 0, by omega, rfl, by omega, rfl, rfl, 0, rfl⟩
      case round =>
        obtain ⟨k, c, hk, rfl, hck, HC, rfl, n, rfl⟩ := hrel
        by_cases hkl : k < ys.length
        case neg =>
          have HE : Hid (c = cntV xs ys d) := by show _ = _; rw [HC.out, show k = ys.length by omega]; rfl
          have hd4 : decide (k < ys.length) = false := by simpa using hkl
          go_wp2_with fail
          go_meet
          case rel => exact ⟨by rw [HE.out], n, rfl⟩
        have hd4 : decide (k < ys.length) = true := by simpa using hkl
        have hw0 : IntKind.i64.wrap ((k : Int) + d) = (k : Int) + d := IntWalk.i64_in _ (by omega)
        have hw0' : wrap64 ((k : Int) + d) = (k : Int) + d := IntWalk.wrap64_in _ (by omega)
        by_cases h0 : 0 ≤ (k : Int) + d
        case neg =>
          have HE : Hid (cntN xs ys xs.length d (k + 1) = c) := by show _ = _; rw [cntN, hitN_out (fun h => h0 h.1), ← HC.out]; rfl
          have hg0 : decide ((0 : Int) ≤ (k : Int) + d) = false := by simpa using h0
          go_wp2_with fail
          go_quiet (fail)
          clear hw0 hw0'
          go_wp2_with fail
          go_roundw
          case rel => exact ⟨k + 1, c, by omega, by go_num, by omega, HE.out.symm, rfl, _, rfl⟩
          case measure => simp [intOf]; omega
        obtain ⟨i, hi⟩ := Int.eq_ofNat_of_zero_le h0
        have HI := Lib.hid hi
        have hzi : ((k : Int) + d).toNat = i := by omega
        by_cases hil : i < xs.length
        case neg =>
          have HE : Hid (cntN xs ys xs.length d (k + 1) = c) := by show _ = _; rw [cntN, hitN_out (fun h => by omega), ← HC.out]; rfl
          have hg0 : decide ((0 : Int) ≤ (k : Int) + d) = true := by simpa using h0
          have hg1 : decide ((k : Int) + d < (xs.length : Int)) = false := by simp; omega
          clear hi hzi
          go_wp2_with fail
          go_quiet (fail)
          clear hw0 hw0'
          go_wp2_with fail
          go_roundw
          case rel => exact ⟨k + 1, c, by omega, by go_num, by omega, HE.out.symm, rfl, _, rfl⟩
          case measure => simp [intOf]; omega
        obtain ⟨q, hq⟩ : ∃ q, hitN xs ys xs.length d k = q := ⟨_, rfl⟩
        have hv : (xs[i] == ys[k]) = q := by rw [← hitN_in hi hil hkl]; exact hq
        have HEQ := Lib.hid hq
        obtain ⟨ba, oa, rfl, hba, hca⟩ := HRA.out.at_ (by rw [ic_length]; omega)
        obtain ⟨bb, ob, rfl, hbb, hcb⟩ := HRB.out.at_ (by rw [ic_length]; omega)
        have c1 : wo.cell? ⟨ba, oa + i, none⟩ = some (.int .i64 xs[i]) := by rw [HB.out.cell (by exact hba)]; exact hca i _ (ic_at xs i hil)
        have c2' : wo.cell? ⟨bb, ob + k, none⟩ = some (.int .i64 ys[k]) := by rw [HB.out.cell (by exact hbb)]; exact hcb k _ (ic_at ys k hkl)
        have hg0 : decide ((0 : Int) ≤ (k : Int) + d) = true := by simpa using h0
        have hg1 : decide ((k : Int) + d < (xs.length : Int)) = true := by simp; omega
        have j1 : (k : Int) + d < (xs.length : Int) := by omega
        have j2 : (k : Int) < (ys.length : Int) := by omega
        have j4 : (0 : Int) ≤ (k : Int) := by omega
        generalize xs[i] = x1 at *
        generalize ys[k] = x2 at *
        clear hca hcb hi hq
        cases q with
        | true =>
          have HE : Hid (cntN xs ys xs.length d (k + 1) = c + 1) := by show _ = _; rw [cntN, HEQ.out, ← HC.out]; rfl
          go_wp2_with fail
          go_quiet (fail)
          clear hw0 hw0'
          go_wp2_with fail
          go_roundw
          case rel => exact ⟨k + 1, c + 1, by omega, by go_num, by omega, HE.out.symm, by go_num, _, rfl⟩
          case measure => simp [intOf]; omega
        | false =>
          have HE : Hid (cntN xs ys xs.length d (k + 1) = c) := by show _ = _; rw [cntN, HEQ.out, ← HC.out]; rfl
          go_wp2_with fail
          go_quiet (fail)
          clear hw0 hw0'
          go_wp2_with fail
          go_roundw
          case rel => exact ⟨k + 1, c, by omega, by go_num, by omega, HE.out.symm, rfl, _, rfl⟩
          case measure => simp [intOf]; omega
    case rest =>
      obtain ⟨rfl, nn, hwc⟩ := hcut
      have HOW : Hid (wc.ownsRow w.heap.size 39 2 (.slice A2 O.length c2) O.length (O.flatMap encVt)) := by show World.ownsRow _ _ _ _ _ _ _; rw [hwc]; exact HOWN.out
      have HBW : Hid (Below w.heap.size w wc) := by show Below _ _ _; rw [hwc]; exact below_drewN HB.out nn
      have HCE : Hid (eR xs ys (j + 1) = eR xs ys j ++ if 0 < cntV xs ys d then [⟨d, cntV xs ys d⟩] else []) := by show _ = _; rw [eR, HD.out]
      have hcl := cntV_le xs ys d
      clear hwc HOWN HB
      obtain ⟨N, hN⟩ : ∃ N, cntV xs ys d = N := ⟨_, rfl⟩
      rw [hN] at hcl HCE
      rw [hN]
      clear hN
      go_upto_block 4 with (fail)
      go_cut [14] (fun tv wx => ∃ t : Nat, t ≤ O.length ∧ tv = .int .i64 (t : Int) ∧ Hid ((∀ j (hj : j < O.length), j < t → geV O[j] ⟨d, N⟩ = true) ∧ ∀ h : t < O.length, geV O[t] ⟨d, N⟩ = false) ∧ wx = wc)
      case first =>
        go_wp2_with fail
        go_loop [14] (fun tv => ∃ t : Nat, t ≤ O.length ∧ tv = .int .i64 (t : Int) ∧ Hid (∀ j (hj : j < O.length), j < t → geV O[j] ⟨d, N⟩ = true)) (fun tv => O.length - (intOf tv).toNat)
        case atStart => exact ⟨0, by omega, rfl, fun j _ hj => by omega⟩
        case round =>
          obtain ⟨t, ht, rfl, HG⟩ := hrel
          by_cases htq : t < O.length
          · have hd7 : decide (t < O.length) = true := by simpa using htq
            obtain ⟨g, hA2, c7⟩ : ∃ g, A2 = some ⟨g, 0, none⟩ ∧ wc.cell? ⟨g, t * 2 + 1, none⟩ = some (.int .i64 (O[t].n : Int)) := by
              rcases HOW.out.2 with ⟨h1, h2⟩ | ⟨g, cap, cur, h1, _⟩
              · omega
              · injection h1 with h1
                refine ⟨g, h1, ?_⟩
                have h3 := Rd.of_own HOW.out
                rw [h1] at h3
                obtain ⟨g2, o2, h4, _, h5⟩ := h3.at_ (by rw [flat_len encVt 2 (fun _ => rfl)]; omega)
                injection h4 with h4
                injection h4 with h6 h7
                subst h6 h7
                have h8 := h5 (t * 2 + 1) (.int .i64 (O[t].n : Int)) (by rw [flat_get encVt 2 (fun _ => rfl) O t 1 htq (by omega)]; rfl)
                rwa [Nat.zero_add] at h8
            subst hA2
            have j5 : (t : Int) < (O.length : Int) := by omega
            obtain ⟨M, hM⟩ : ∃ M, O[t].n = M := ⟨_, rfl⟩
            have HGE : Hid (geV O[t] ⟨d, N⟩ = decide (N ≤ M)) := by show _ = _; unfold geV; rw [hM]
            rw [hM] at c7
            clear hM
            by_cases hge : N ≤ M
            · have hge' : (N : Int) ≤ (M : Int) := by omega
              go_wp2_with fail
              go_round
              case rel => exact ⟨t + 1, by omega, by go_num, fun j hj hjt => by
                  by_cases hjt2 : j = t
                  · subst hjt2; rw [HGE.out]; simpa using hge
                  · exact HG.out j hj (by omega)⟩
              case measure => simp [intOf]; omega
            · have hge' : ¬ (N : Int) ≤ (M : Int) := by omega
              go_wp2_with fail
              go_meet
              case rel => exact ⟨t, ht, rfl, ⟨HG.out, fun _ => by rw [HGE.out]; simpa using hge⟩, rfl⟩
          · have hd7 : decide (t < O.length) = false := by simpa using htq
            go_wp2_with fail
            go_meet
            case rel => exact ⟨t, ht, rfl, ⟨HG.out, fun h => absurd h htq⟩, rfl⟩
      case rest =>
        obtain ⟨t, ht, rfl, HG, hwc⟩ := hcut
        have HOW2 : Hid (wc.ownsRow w.heap.size 39 2 (.slice A2 O.length c2) O.length (O.flatMap encVt)) := by show World.ownsRow _ _ _ _ _ _ _; rw [hwc]; exact HOW.out
        have HBW2 : Hid (Below w.heap.size w wc) := by show Below _ _ _; rw [hwc]; exact HBW.out
        clear hwc HOW HBW
        have hgsz := HBW2.out.size
        have HNX : Hid (-(ys.length : Int) + ((j + 1 : Nat) : Int) = d + 1) := by show _ = _; rw [← HD.out]; omega
        have HNM : Hid (∀ z : Int, z = d + 1 → xs.length + ys.length + 1 - (intOf (.int .i64 z) + ys.length).toNat < xs.length + ys.length + 1 - (intOf (.int .i64 d) + ys.length).toNat) := fun z hz => by
          have := HD.out
          subst hz
          simp only [intOf]; omega
        by_cases hpos : 0 < N
        case neg =>
          have HE : Hid (eR xs ys (j + 1) = eR xs ys j) := by show _ = _; rw [HCE.out, if_neg hpos, List.append_nil]
          have hd8 : decide (0 < N) = false := by simpa using hpos
          go_wp2_with fail
          go_roundw
          case rel => exact ⟨j + 1, O, by omega, by rw [HNX.out], by rw [HE.out]; exact HO, by omega, HOW2, HBW2⟩
          case measure => exact HNM.out _ (by go_num)
        have HE : Hid (eR xs ys (j + 1) = eR xs ys j ++ [⟨d, N⟩]) := by show _ = _; rw [HCE.out, if_pos hpos]
        have hd8 : decide (0 < N) = true := by simpa using hpos
        have HINS := Lib.hid (insert_Vt w (wc.alloc (.cells #[.int .i64 d, .int .i64 (N : Int)] 39)) w.heap.size w.heap.size O.length wc.heap.size (O.flatMap encVt) [.int .i64 d, .int .i64 (N : Int)] t (.slice A2 O.length c2) (HBW2.out.alloc hgsz _) (Nat.le_refl _) (by simp; omega) (HOW2.out.alloc _) (heap_alloc_new wc _) (fun e => by have := (HOW2.out.lt _ e).2; omega) rfl (by simp [Value.oneCell']) (fun u hu => by obtain ⟨x, _, hx⟩ := List.mem_flatMap.1 hu; simp [encVt] at hx; rcases hx with rfl | rfl <;> rfl) ht (by omega))
        go_wp2_with fail
        refine HINS.out.mono ?_
        rintro e w5 ⟨v5, rfl, hown5, hb5⟩
        have hQ2 : (O.flatMap encVt).take (t * 2) ++ [.int .i64 d, .int .i64 (N : Int)] ++ (O.flatMap encVt).drop (t * 2) = (insB geV (⟨d, N⟩ : Vot) O).flatMap encVt := by
          obtain ⟨e1, e2⟩ := flat_take encVt 2 (fun _ => rfl) O t
          obtain ⟨e3, e4⟩ := while_at (fun y => geV y ⟨d, N⟩) O t HG.out.1 ht HG.out.2
          unfold insB
          rw [e1, e2, e3, e4, List.flatMap_append, List.flatMap_cons, List.append_assoc]; rfl
        rw [hQ2] at hown5
        have hlen5 := insB_length geV (⟨d, N⟩ : Vot) O
        rw [← hlen5] at hown5
        have HQ5 : Hid (insB geV (⟨d, N⟩ : Vot) O = insAll geV [] (eR xs ys (j + 1))) := by
          show _ = _
          rw [HE.out, insAll_snoc, ← HO.out]
        generalize insB geV (⟨d, N⟩ : Vot) O = Q5 at hown5 hlen5 HQ5
        have HOWN5 := Lib.hid hown5
        have HB5 := Lib.hid hb5
        clear hown5 hb5 hQ2 HINS
        have hl6 : Q5.length ≤ j + 1 := by omega
        clear hlen5
        go_wp2_with fail
        go_roundw
        case rel => exact ⟨j + 1, Q5, by omega, by rw [HNX.out], HQ5, hl6, HOWN5, HB5⟩
        case measure => exact HNM.out _ (by go_num)
end Go.Proofs.Ytoiobhjbikfpmaa
