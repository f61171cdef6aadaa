/- The contract of the reference's Check of sounds. -/
import Derived.Test.YtlmgdofhmgpljaaSndA
namespace Go.Proofs.Ytlmgdofhmgpljaa
open Go.RowKit Go.Dw
attribute [local go_sem ↓] Go.wp_at_zero Go.wp_at_succ

theorem drewN_two (w : World) (m n : Nat) : (w.drewN m).drewN n = w.drewN (m + n) := by simp [World.drewN, Nat.add_assoc]
theorem rIsRate_any (n : Int) (w : World) : Calls Try.prog 23 #[.int .i64 n] w fun e w' => e = .returned (.bool (decide (1 ≤ n) && decide (n ≤ 1000000))) ∧ w = w' := by
  by_cases h1 : 1 ≤ n
  · go_enter Try.func23, Try.ntmps23
    go_wp2
    go_ret
    exact ⟨ret_bool (by simp [h1]), rfl⟩
  · go_enter Try.func23, Try.ntmps23
    go_wp2
    go_ret
    exact ⟨ret_bool (by simp; omega), rfl⟩
set_option maxHeartbeats 2000000 in
theorem rsndCheck_any (x : Snd) (w : World) (h : x.Ok w) :
    Calls Try.prog 15 #[x.v] w fun e w' => e = .returned (.int .i64 (chkS x.rate x.rows)) ∧ Below w.heap.size w w' := by
  have HRA := Lib.hid x.rows_at
  have HRL := Lib.hid x.rows_len
  have hb0 : Below w.heap.size w (w.alloc (.cells #[.int .i64 x.rate, x.p.v] 24)) := (Below.refl _ _).alloc (Nat.le_refl _) _
  have h1 := h.below hb0
  have HB0 := Lib.hid hb0
  have HNE : Hid (x.n = (x.rows.getD 0 []).length) := rfl
  have HN0 : Hid (∀ hp : 0 < x.p.xs.length, x.n = x.p.xs[0].xs.length) := fun hp => by unfold Snd.n; rw [x.rows_at 0 hp]
  clear hb0
  generalize x.n = n0 at *
  generalize x.rows = rows at *
  obtain ⟨rate, ⟨A, c, L⟩⟩ := x
  obtain ⟨hn, hrd, hrs⟩ := h1
  clear h
  simp only [Snd.v, Slc.v] at *
  have HRS := Lib.hid hrs
  clear hrs
  by_cases ht : 1 ≤ rate ∧ rate ≤ 1000000
  case neg =>
    have HE := Lib.hid (chkS_1 (T := rows) ht)
    have hrt : (decide (1 ≤ rate) && decide (rate ≤ 1000000)) = false := by simp; omega
    have HRT := Lib.hid (fun W => (by have := rIsRate_any rate W; rw [hrt] at this; exact this : Calls Try.prog 23 #[.int .i64 rate] W fun e w' => e = .returned (.bool false) ∧ W = w'))
    clear ht hrt
    go_enter Try.func15, Try.ntmps15
    go_wp2_with fail
    refine (HRT.out _).mono ?_
    rintro e w1 ⟨rfl, rfl⟩
    go_wp2_with fail
    go_ret
    exact ⟨ret_int HE.out.symm, HB0.out⟩
  have hrt : (decide (1 ≤ rate) && decide (rate ≤ 1000000)) = true := by simpa using ht
  have HRT := Lib.hid (fun W => (by have := rIsRate_any rate W; rw [hrt] at this; exact this : Calls Try.prog 23 #[.int .i64 rate] W fun e w' => e = .returned (.bool true) ∧ W = w'))
  have HT := Lib.hid ht
  clear ht hrt
  by_cases hl0 : L.length = 0
  · have HE := Lib.hid (chkS_9 (T := rows) HT.out (by rw [HRL.out]; exact hl0))
    have hl0' : ((L.length : Int) == 0) = true := by simpa using hl0
    clear hl0
    go_enter Try.func15, Try.ntmps15
    go_wp2_with fail
    refine (HRT.out _).mono ?_
    rintro e w1 ⟨rfl, rfl⟩
    go_wp2_with fail
    go_ret
    exact ⟨ret_int HE.out.symm, HB0.out⟩
  have hl0' : ((L.length : Int) == 0) = false := by simpa using hl0
  have HL0 := Lib.hid hl0
  by_cases hl : 16 < L.length
  · have HE := Lib.hid (chkS_2 (T := rows) HT.out (by rw [HRL.out]; exact hl0) (.inl (by rw [HRL.out]; exact hl)))
    have hl' : decide ((16 : Int) < (L.length : Int)) = true := by simp; omega
    clear hl0
    go_enter Try.func15, Try.ntmps15
    go_wp2_with fail
    refine (HRT.out _).mono ?_
    rintro e w1 ⟨rfl, rfl⟩
    go_wp2_with fail
    go_ret
    exact ⟨ret_int HE.out.symm, HB0.out⟩
  have hl' : decide ((16 : Int) < (L.length : Int)) = false := by simp; omega
  have hp : 0 < L.length := by omega
  have hpi : (0 : Int) < (L.length : Int) := by omega
  obtain ⟨b, off, rfl, hb, hc⟩ := hrd.at_ (by simp; omega)
  have HCE : Hid (∀ k (hk : k < L.length), (w.alloc (.cells #[.int .i64 rate, .slice (some ⟨b, off, none⟩) L.length c] 24)).cell? ⟨b, off + k, none⟩ = some L[k].v) := fun k hk => hc k (L[k].v) (by simp [hk])
  have c0 := HCE.out 0 hp
  have hx0 := HN0.out hp
  have hx0' : L[0].xs.length = n0 := hx0.symm
  have v0 : L[0].v = .slice L[0].a n0 L[0].c := by show Value.slice _ _ _ = _; rw [hx0']
  rw [v0, Nat.add_zero] at c0
  have hn0 : n0 ≤ 9223372036854775807 := by rw [hx0]; exact (HRS.out L[0] (List.getElem_mem hp)).1
  generalize L[0].a = a0 at c0
  generalize L[0].c = cc0 at c0
  clear hc hx0 hx0' v0 HN0
  by_cases hl2 : 100000 < n0
  · have HE := Lib.hid (chkS_2 (T := rows) HT.out (by rw [HRL.out]; exact hl0) (.inr (by rw [← HNE.out]; exact hl2)))
    have hl2' : decide ((100000 : Int) < (n0 : Int)) = true := by simp; omega
    go_enter Try.func15, Try.ntmps15
    go_wp2_with fail
    refine (HRT.out _).mono ?_
    rintro e w1 ⟨rfl, rfl⟩
    go_wp2_with fail
    go_ret
    exact ⟨ret_int HE.out.symm, HB0.out⟩
  have hl2' : decide ((100000 : Int) < (n0 : Int)) = false := by simp; omega
  have HL3 : Hid (¬ (16 < rows.length ∨ 100000 < (rows.getD 0 []).length)) := by show ¬ _; rw [HRL.out, ← HNE.out]; show ¬ (16 < L.length ∨ _); omega
  go_enter Try.func15, Try.ntmps15
  go_wp2_with fail
  refine (HRT.out _).mono ?_
  rintro e w1 ⟨rfl, rfl⟩
  have k1 : (w.alloc (.cells #[.int .i64 rate, .slice (some ⟨b, off, none⟩) L.length c] 24)).cell? ⟨w.heap.size, 1, none⟩ = some (.slice (some ⟨b, off, none⟩) L.length c) := new_cell (cs := [_, _]) rfl rfl
  generalize w.alloc (.cells #[.int .i64 rate, .slice (some ⟨b, off, none⟩) L.length c] 24) = w1 at *
  go_wp2_with fail
  go_loopw [3] (fun i wr => ∃ k : Nat, k ≤ L.length ∧ i = .int .i64 k ∧ Hid (∀ j, j < k → trkF n0 (rows.getD j []) = 0) ∧ ∃ m, wr = w1.drewN m) (fun i _ => L.length - (intOf i).toNat)
  case atStart => exact ⟨0, Nat.zero_le _, rfl, by intro j hj; omega, 0, rfl⟩
  case round =>
    obtain ⟨k, hk, rfl, hall, m, rfl⟩ := hrel
    by_cases hlt : k < L.length
    case neg =>
      have HE := Lib.hid (chkS_end (T := rows) HT.out (by rw [HRL.out]; exact HL0.out) HL3.out (fun j hj => by rw [← HNE.out]; exact hall.out j (by rw [HRL.out] at hj; have hj' : j < L.length := hj; omega)))
      have hd0 : decide (k < L.length) = false := by simpa using hlt
      go_wp2_with fail
      go_ret
      exact ⟨ret_int HE.out.symm, below_drewN HB0.out m⟩
    have hck := HCE.out k hlt
    obtain ⟨hlen, hrdk, _⟩ := HRS.out L[k] (List.getElem_mem hlt)
    have HRK := Lib.hid (HRA.out k hlt)
    have HBAD : Hid (trkF n0 (rows.getD k []) ≠ 0 → chkS rate rows = trkF n0 (rows.getD k [])) := fun hh => by
      have := @chkS_row rate rows HT.out (by rw [HRL.out]; exact HL0.out) HL3.out k (by rw [HRL.out]; exact hlt)
      rw [← HNE.out] at this
      exact this hall.out hh
    have HSTEP := Lib.hid (@step_all (fun j => trkF n0 (rows.getD j [])) k hall.out)
    generalize L[k] = s at *
    obtain ⟨a, cc, xs⟩ := s
    simp only [Slc.v] at hck hrdk hlen
    have e4 : Hid (rows.getD k [] = xs) := HRK.out
    clear HRK
    have hd0 : decide (k < L.length) = true := by simpa using hlt
    have j0 : (0 : Int) ≤ (k : Int) := by omega
    have j1 : (k : Int) < (L.length : Int) := by omega
    by_cases hlx : xs.length = n0
    case neg =>
      have h3 : ((xs.length : Int) != (n0 : Int)) = true := by simp; omega
      have e3 := Lib.hid (trkF_3 hlx)
      clear hlx
      go_wp2_with fail
      go_quiet (fail)
      go_wp2_with fail
      go_ret
      exact ⟨ret_int (by rw [HBAD.out (by rw [e4.out, e3.out]; decide), e4.out, e3.out]), below_drewN (below_drewN HB0.out _) _⟩
    have h3 : ((xs.length : Int) != (n0 : Int)) = false := by simp; omega
    have HX := Lib.hid hlx
    have hx20 : xs.length ≤ 100000 := by omega
    clear hlx
    have HRX : Hid (Rd w1 a (ic xs)) := hrdk
    clear hrdk
    go_wp2_with fail
    go_quiet (fail)
    go_wp2_with fail
    go_loopw [4] (fun i wr => ∃ j : Nat, j ≤ xs.length ∧ i = .int .i64 j ∧ Hid ((xs.take j).all okS = true) ∧ ∃ m, wr = w1.drewN m) (fun i _ => xs.length - (intOf i).toNat)
    case atStart => exact ⟨0, Nat.zero_le _, rfl, by simp [Hid], _, drewN_two _ _ _⟩
    case round =>
      obtain ⟨j, hj, rfl, hall2, m2, rfl⟩ := hrel
      by_cases hlj : j < xs.length
      · obtain ⟨b2, off2, rfl, hb2, hc2⟩ := HRX.out.at_ (by simp [ic_length]; omega)
        have hcj := hc2 j _ (ic_at xs j hlj)
        clear hc2
        have hsn : Hid ((xs.take (j + 1)).all okS = ((xs.take j).all okS && okS xs[j])) := all_take_succ' _ _ _ hlj
        have e3 := Lib.hid (fun hv => trkF_1 HX.out hlj hv)
        have hd1 : decide (j < xs.length) = true := by simpa using hlj
        have j2 : (0 : Int) ≤ (j : Int) := by omega
        have j3 : (j : Int) < (xs.length : Int) := by omega
        generalize xs[j] = y at *
        cases hq : okS y with
        | true =>
          have HQ := Lib.hid hq
          obtain ⟨g1, g2⟩ := okS_t hq
          have g3 : decide (y < -8388608) = false := by simpa using g1
          have g4 : decide (8388607 < y) = false := by simpa using g2
          clear hq g1 g2
          go_wp2_with fail
          go_roundw
          case rel => exact ⟨j + 1, by omega, by go_num, by show _ = _; rw [hsn.out, hall2.out, HQ.out]; rfl, _, rfl⟩
          case measure => simp [intOf]; omega
        | false =>
          have HQ := Lib.hid hq
          have g := okS_f hq
          rcases (show y < -8388608 ∨ (¬ y < -8388608 ∧ 8388607 < y) by omega) with g1 | ⟨g1, g2⟩
          · have g3 : decide (y < -8388608) = true := by simpa using g1
            clear hq g g1
            go_wp2_with fail
            go_ret
            exact ⟨ret_int (by rw [HBAD.out (by rw [e4.out, e3.out HQ.out]; decide), e4.out, e3.out HQ.out]), below_drewN HB0.out _⟩
          · have g3 : decide (y < -8388608) = false := by simpa using g1
            have g4 : decide (8388607 < y) = true := by simpa using g2
            clear hq g g1 g2
            go_wp2_with fail
            go_ret
            exact ⟨ret_int (by rw [HBAD.out (by rw [e4.out, e3.out HQ.out]; decide), e4.out, e3.out HQ.out]), below_drewN HB0.out _⟩
      · have hfull : xs.take j = xs := List.take_of_length_le (by omega)
        have h4 := hall2.out
        rw [hfull] at h4
        have H4 := Lib.hid h4
        have hd1 : decide (j < xs.length) = false := by simpa using hlj
        clear h4 hfull
        go_wp2_with fail
        go_roundw
        case rel => exact ⟨k + 1, by omega, by go_num, HSTEP.out (by rw [e4.out]; exact trkF_0 HX.out H4.out), _, rfl⟩
        case measure => simp [intOf]; omega
end Go.Proofs.Ytlmgdofhmgpljaa
