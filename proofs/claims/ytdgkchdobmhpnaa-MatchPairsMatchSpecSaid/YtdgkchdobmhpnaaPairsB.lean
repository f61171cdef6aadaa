/- The contract of the reference's CheckPairs. -/
import Derived.Test.YtdgkchdobmhpnaaPairsA
namespace Go.Proofs.Ytdgkchdobmhpnaa
open Go.RowKit Go.Dw

set_option maxHeartbeats 1000000 in
theorem rcheckPairs_any (A : Option Addr) (c : Nat) (ps : List (Int × Int)) (w : World) (h : Rd w A (pc ps)) (hn : ps.length ≤ 9223372036854775807) :
    Calls Try.prog 35 #[.slice A ps.length c] w fun e w' => e = .returned (.int .i64 (cp ps)) ∧ Below w.heap.size w w' := by
  by_cases hl : ps.length < 2
  · go_enter Try.func35, Try.ntmps35
    go_wp2
    go_ret
    exact ⟨ret_int (by simp [cp, hl]), Below.refl _ _⟩
  by_cases hl2 : 500 < ps.length
  · go_enter Try.func35, Try.ntmps35
    go_wp2
    go_ret
    exact ⟨ret_int (by simp [cp, hl, hl2]), Below.refl _ _⟩
  have hcp : cp ps = firstNZ (cpAt ps) ps.length := by simp [cp, hl, hl2]
  have HCP := Lib.hid hcp
  clear hcp
  go_enter Try.func35, Try.ntmps35
  go_wp2
  go_loopw [3] (fun i wr => ∃ k : Nat, k ≤ ps.length ∧ i = .int .i64 k ∧ Hid (∀ j, j < k → cpAt ps j = 0) ∧ Below w.heap.size w wr) (fun i _ => ps.length - (intOf i).toNat)
  case atStart => exact ⟨0, Nat.zero_le _, rfl, by intro j hj; omega, Below.refl _ _⟩
  case round =>
    obtain ⟨k, hk, rfl, hall, hbel⟩ := hrel
    by_cases hlt : k < ps.length
    · obtain ⟨b, off, rfl, hbb, hc⟩ := h.at_ (by rw [pc_length]; omega)
      have hc1 := hc _ _ (pc_at ps k hlt).1
      have hc2 := hc _ _ (pc_at ps k hlt).2
      rw [← hbel.cell (by exact hbb)] at hc1 hc2
      rw [← Nat.add_assoc] at hc2
      have He := Lib.hid (getD_at ps (0, 0) k hlt)
      have hsz := hbel.size
      have hb1 := hbel
      have HB1 := Lib.hid hb1
      clear hb1
      generalize hp : ps[k] = p at *
      obtain ⟨pa, pb⟩ := p
      have HP := Lib.hid hp
      clear hp
      simp only at hc1 hc2 HB1
      cases hp1 : posB pa with
      | false =>
        have H1 := Lib.hid hp1
        clear hp1
        go_wp2_with (go_at_call 49; refine (position_any _ _ _ H1.out).mono ?_; rintro e w' ⟨rfl, rfl⟩)
        go_ret
        have e1 := cpAt_1 He.out (by rw [H1.out]; rfl)
        exact ⟨ret_int (by rw [HCP.out, firstNZ_bad hall.out (by rw [e1]; decide) hlt, e1]), HB1.out⟩
      | true =>
      cases hp2 : posB pb with
      | false =>
        have H1 := Lib.hid hp1
        have H2 := Lib.hid hp2
        clear hp1 hp2
        go_wp2_with (go_at_call 49; refine (position_any _ _ _ (by first | exact H1.out | exact H2.out)).mono ?_; rintro e w' ⟨rfl, rfl⟩)
        go_ret
        have e1 := cpAt_1 He.out (by rw [H1.out, H2.out]; rfl)
        exact ⟨ret_int (by rw [HCP.out, firstNZ_bad hall.out (by rw [e1]; decide) hlt, e1]), HB1.out⟩
      | true =>
      have H1 := Lib.hid hp1
      have H2 := Lib.hid hp2
      have H12 : Hid ((posB pa && posB pb) = true) := by show _ = _; rw [hp1, hp2]; rfl
      clear hp1 hp2
      by_cases hk0 : k = 0
      · have hd : decide (0 < k) = false := by simp; omega
        have e1 := Lib.hid (cpAt_0 He.out H12.out hk0)
        clear hk0
        go_wp2_with (go_at_call 49; refine (position_any _ _ _ (by first | exact H1.out | exact H2.out)).mono ?_; rintro e w' ⟨rfl, rfl⟩)
        go_quiet (fail)
        go_wp2
        go_roundw
        case rel => exact ⟨k + 1, by omega, by go_num, step_all hall.out e1.out, below_drewN HB1.out _⟩
        case measure => simp [intOf]; omega
      · have hd : decide (0 < k) = true := by simp; omega
        have hk1 : k - 1 < ps.length := by omega
        have hc3 := hc _ _ (pc_at ps (k - 1) hk1).1
        have hc4 := hc _ _ (pc_at ps (k - 1) hk1).2
        rw [← hbel.cell (by exact hbb)] at hc3 hc4
        rw [← Nat.add_assoc] at hc4
        have He2 := Lib.hid (getD_at ps (0, 0) (k - 1) hk1)
        generalize hq : ps[k - 1] = q at *
        obtain ⟨qa, qb⟩ := q
        have HQ := Lib.hid hq
        clear hq
        simp only at hc3 hc4
        have hi0 : (0 : Int) ≤ (k : Int) - 1 := by omega
        have hi0' : (1 : Int) ≤ (k : Int) := by omega
        have hi1 : (k : Int) - 1 < (ps.length : Int) := by omega
        have hi2 : ((k : Int) - 1).toNat = k - 1 := by omega
        have hk0' : 0 < k := by omega
        have HK := Lib.hid hk0'
        clear hc h hk0
        have hbn : b < wr.heap.size := by omega
        by_cases h8 : pa ≤ qa ∨ pb ≤ qb
        · have e1 := Lib.hid (cpAt_8 He.out He2.out H12.out hk0' h8)
          by_cases h81 : pa ≤ qa
          · clear h8
            go_wp2_with (go_at_call 49; refine (position_any _ _ _ (by first | exact H1.out | exact H2.out)).mono ?_; rintro e w' ⟨rfl, rfl⟩)
            have hwr : IntKind.i64.wrap ((k : Int) - 1) = (k : Int) - 1 := IntWalk.i64_in _ (by omega)
            go_quiet (fail)
            go_wp2
            go_ret
            exact ⟨ret_int (by rw [HCP.out, firstNZ_bad hall.out (by rw [e1.out]; decide) hlt, e1.out]), below_drewN HB1.out _⟩
          · have h82 : pb ≤ qb := by omega
            have h81' : decide (pa ≤ qa) = false := by simpa using h81
            clear h8 h81
            go_wp2_with (go_at_call 49; refine (position_any _ _ _ (by first | exact H1.out | exact H2.out)).mono ?_; rintro e w' ⟨rfl, rfl⟩)
            have hwr : IntKind.i64.wrap ((k : Int) - 1) = (k : Int) - 1 := IntWalk.i64_in _ (by omega)
            go_quiet (fail)
            go_wp2
            go_ret
            exact ⟨ret_int (by rw [HCP.out, firstNZ_bad hall.out (by rw [e1.out]; decide) hlt, e1.out]), below_drewN HB1.out _⟩
        · have e1 := Lib.hid (cpAt_0' He.out He2.out H12.out h8)
          have h81' : decide (pa ≤ qa) = false := by simp; omega
          have h82' : decide (pb ≤ qb) = false := by simp; omega
          clear h8
          go_wp2_with (go_at_call 49; refine (position_any _ _ _ (by first | exact H1.out | exact H2.out)).mono ?_; rintro e w' ⟨rfl, rfl⟩)
          have hwr : IntKind.i64.wrap ((k : Int) - 1) = (k : Int) - 1 := IntWalk.i64_in _ (by omega)
          go_quiet (fail)
          clear hwr
          go_wp2
          go_roundw
          case rel => exact ⟨k + 1, by omega, by go_num, step_all hall.out e1.out, below_drewN HB1.out _⟩
          case measure => simp [intOf]; omega
    · go_wp2
      go_ret
      obtain rfl : k = ps.length := by omega
      exact ⟨ret_int (by rw [HCP.out, firstNZ_ok hall.out]), hbel⟩
end Go.Proofs.Ytdgkchdobmhpnaa
