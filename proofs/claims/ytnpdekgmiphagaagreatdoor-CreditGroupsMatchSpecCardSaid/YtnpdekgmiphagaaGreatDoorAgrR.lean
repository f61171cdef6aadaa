/- The contract of the reference's Agree. -/
import Derived.Test.YtnpdekgmiphagaaGreatDoorAgrG
import Derived.Test.YtnpdekgmiphagaaGreatDoorWordsR
import Derived.Deep.DeepCutAuto
namespace Go.Proofs.YtnpdekgmiphagaaGreatDoor
open Go.RowKit Go.Dw
set_option maxRecDepth 100000 in
set_option maxHeartbeats 1000000 in
theorem rAgree_any (s0 t0 : ByteArray) (w : World) (hs : s0.size ≤ 1048576) (ht : t0.size ≤ 1048576) :
    Calls Tryz.prog 69 #[.string s0, .string t0] w fun e w' => e = .returned (.bool (agr s0.data.toList t0.data.toList)) ∧ Below w.heap.size w w' := by
  have H1 := Lib.hid (rwords_any s0 w hs)
  have H2 := Lib.hid (fun W => rwords_any t0 W ht)
  have HR : Hid (agr s0.data.toList t0.data.toList = agreeW (wordsP s0.data.toList) (wordsP t0.data.toList)) := rfl
  obtain ⟨hl1, hw1⟩ := words_small hs
  obtain ⟨hl2, hw2⟩ := words_small ht
  have HSA := Lib.hid hw1
  have HSB := Lib.hid hw2
  clear hw1 hw2
  generalize agr s0.data.toList t0.data.toList = r at *
  generalize wordsP s0.data.toList = a at *
  generalize wordsP t0.data.toList = b at *
  go_enter Tryz.func69, Tryz.ntmps69
  go_wp2_with fail
  refine H1.out.mono ?_
  rintro e w1 ⟨A, c, rfl, hr1, hb1⟩
  go_wp2_with fail
  refine (H2.out _).mono ?_
  rintro e w2 ⟨B, d, rfl, hr2, hb2⟩
  have hr1' := hr1.below hb2
  have HB := Lib.hid (hb1.trans (hb2.mono hb1.size))
  clear hb1 hb2 hr1
  by_cases h1 : a.length = b.length
  case neg =>
    have HE : Hid (r = false) := by show _ = _; rw [HR.out, agree_len (.inr h1)]
    have hz1 : ((a.length : Int) != (b.length : Int)) = true := by simp; omega
    clear h1
    go_wp2_with fail
    go_ret
    exact ⟨ret_bool HE.out.symm, HB.out⟩
  have hz1 : ((a.length : Int) != (b.length : Int)) = false := by simp; omega
  by_cases h0 : a.length = 0
  · have HE : Hid (r = false) := by show _ = _; rw [HR.out, agree_len (.inl h0)]
    have hz : ((a.length : Int) == 0) = true := by simp [h0]
    clear h0 h1
    go_wp2_with fail
    go_ret
    exact ⟨ret_bool HE.out.symm, HB.out⟩
  have hz : ((a.length : Int) == 0) = false := by simpa using h0
  have HL0 := Lib.hid h0
  have HL1 := Lib.hid h1
  have hlb : b.length ≤ a.length := by omega
  have hlb2 : a.length ≤ b.length := by omega
  obtain ⟨ba, oa, rfl, hbaz, hac⟩ := hr1'.at_ (by rw [sc_len]; omega)
  obtain ⟨bb, ob, rfl, hbbz, hbc⟩ := hr2.at_ (by rw [sc_len]; omega)
  have HAC := Lib.hid hac
  have HBC := Lib.hid hbc
  clear h0 h1 hac hbc hr1' hr2
  go_wp2_with fail
  go_loopw [25] (fun iv wr => ∃ k n : Nat, k ≤ a.length ∧ iv = .int .i64 (k : Int) ∧ wr = w2.drewN n ∧ Hid (∀ j, j < k → wordOk (a.getD j []) (b.getD j []) = true)) (fun iv _ => a.length - (intOf iv).toNat)
  case atStart => exact ⟨0, 0, Nat.zero_le _, rfl, rfl, fun j hj => absurd hj (Nat.not_lt_zero _)⟩
  case round =>
    obtain ⟨k, n, hk, rfl, hwr, HALL⟩ := hrel
    have HWR := Lib.hid hwr
    by_cases hkl : k < a.length
    · have hkb : k < b.length := by omega
      have ha1 : wr.cell? ⟨ba, oa + k, none⟩ = some (sv a[k]) := by rw [hwr]; exact HAC.out k _ (sc_at a k hkl)
      have hb1 : wr.cell? ⟨bb, ob + k, none⟩ = some (sv b[k]) := by rw [hwr]; exact HBC.out k _ (sc_at b k hkb)
      have hx := HSA.out _ (List.getElem_mem hkl)
      have hy := HSB.out _ (List.getElem_mem hkb)
      have HBAD : Hid (wordOk a[k] b[k] = false → r = false) := fun h => by rw [HR.out]; exact agree_bad HL1.out hkl HALL.out (by rw [getD_atW _ _ _ hkl, getD_atW _ _ _ hkb]; exact h)
      have HOK : Hid (wordOk a[k] b[k] = true → ∀ j, j < k + 1 → wordOk (a.getD j []) (b.getD j []) = true) := fun h j hj => by
        by_cases he : j = k
        · subst he; rw [getD_atW _ _ _ hkl, getD_atW _ _ _ hkb]; exact h
        · exact HALL.out j (by omega)
      unfold sv at ha1 hb1
      generalize a[k] = x at *
      generalize b[k] = y at *
      obtain ⟨t, ht, ht1, ht2, ht3⟩ := str_letter x
      obtain ⟨u, hu, hu1, hu2, hu3⟩ := str_letter y
      rw [← ht] at ha1
      rw [← hu] at hb1
      have h21 : decide (k < a.length) = true := by simpa using hkl
      have hts : t.size ≤ 1048576 := by omega
      have hus : u.size ≤ 1048576 := by omega
      have hi0 : (0 : Int) ≤ (k : Int) := by omega
      have hi1 : (k : Int) < (a.length : Int) := by omega
      have hi2 : (k : Int) < (b.length : Int) := by omega
      obtain ⟨sb, hsb⟩ : ∃ v, ((decide (x.length = 1) && preB x y) || (decide (y.length = 1) && preB y x)) = v := ⟨_, rfl⟩
      have HSB2 := Lib.hid hsb
      have HT1 := Lib.hid ht1
      have HU1 := Lib.hid hu1
      have HT2 := Lib.hid ht2
      have HU2 := Lib.hid hu2
      have HT3 := Lib.hid ht3
      have HU3 := Lib.hid hu3
      clear hsb ht hu ht1 hu1 ht2 hu2 ht3 hu3 hwr
      go_upto_region 7 with (fail)
      go_cut [8] (fun v wx => v = .bool sb ∧ ∃ n, wx = wr.drewN n)
      case first =>
        by_cases hl1 : x.length = 1
        · have hs1 : ((t.size : Int) == 1) = true := by rw [HT3.out]; simp; omega
          cases hp1 : preB x y with
          | true =>
            have HE : Hid (sb = true) := by show _ = _; rw [← HSB2.out, hp1]; simp [hl1]
            have hq1 : preB t.data.toList u.data.toList = true := by rw [HT2.out, HU2.out]; exact hp1
            clear hp1 hl1
            go_quiet ((go_at_call 46; exact Calls.quiet_of_same (hasP _ _ _ (by omega) (by omega))))
            go_wp2_with fail
            go_meet
            case rel => exact ⟨by rw [HE.out], _, rfl⟩
          | false =>
            have hq1 : preB t.data.toList u.data.toList = false := by rw [HT2.out, HU2.out]; exact hp1
            by_cases hl2 : y.length = 1
            · have hs2 : ((u.size : Int) == 1) = true := by rw [HU3.out]; simp; omega
              obtain ⟨v2, hp2⟩ : ∃ v, preB y x = v := ⟨_, rfl⟩
              have hq2 : preB u.data.toList t.data.toList = v2 := by rw [HT2.out, HU2.out]; exact hp2
              have HE : Hid (sb = v2) := by show _ = _; rw [← HSB2.out, hp1, hp2]; simp [hl2]
              clear hp1 hp2 hl1 hl2
              go_quiet ((go_at_call 46; exact Calls.quiet_of_same (hasP _ _ _ (by omega) (by omega))))
              go_wp2_with fail
              go_meet
              case rel => exact ⟨by rw [HE.out], _, rfl⟩
            · have hs2 : ((u.size : Int) == 1) = false := by rw [HU3.out]; simp; omega
              have HE : Hid (sb = false) := by show _ = _; rw [← HSB2.out, hp1]; simp [hl2]
              clear hp1 hl1 hl2
              go_quiet ((go_at_call 46; exact Calls.quiet_of_same (hasP _ _ _ (by omega) (by omega))))
              go_wp2_with fail
              go_meet
              case rel => exact ⟨by rw [HE.out], _, rfl⟩
        · have hs1 : ((t.size : Int) == 1) = false := by rw [HT3.out]; simp; omega
          by_cases hl2 : y.length = 1
          · have hs2 : ((u.size : Int) == 1) = true := by rw [HU3.out]; simp; omega
            obtain ⟨v2, hp2⟩ : ∃ v, preB y x = v := ⟨_, rfl⟩
            have hq2 : preB u.data.toList t.data.toList = v2 := by rw [HT2.out, HU2.out]; exact hp2
            have HE : Hid (sb = v2) := by show _ = _; rw [← HSB2.out, hp2]; simp [hl1, hl2]
            clear hp2 hl1 hl2
            go_quiet ((go_at_call 46; exact Calls.quiet_of_same (hasP _ _ _ (by omega) (by omega))))
            go_wp2_with fail
            go_meet
            case rel => exact ⟨by rw [HE.out], _, rfl⟩
          · have hs2 : ((u.size : Int) == 1) = false := by rw [HU3.out]; simp; omega
            have HE : Hid (sb = false) := by show _ = _; rw [← HSB2.out]; simp [hl1, hl2]
            clear hl1 hl2
            go_quiet ((go_at_call 46; exact Calls.quiet_of_same (hasP _ _ _ (by omega) (by omega))))
            go_wp2_with fail
            go_meet
            case rel => exact ⟨by rw [HE.out], _, rfl⟩
      case rest =>
      obtain ⟨rfl, n2, hwx⟩ := hcut
      have z0 : wc.cell? ⟨ba, oa + k, none⟩ = some (.string t) := by rw [hwx]; exact ha1
      have z1 : wc.cell? ⟨bb, ob + k, none⟩ = some (.string u) := by rw [hwx]; exact hb1
      have HWC : Hid (∃ n, wc = w2.drewN n) := ⟨n + n2, by rw [hwx, HWR.out, World.drewN_drewN]⟩
      clear hwx ha1 hb1
      by_cases hxy : x = y
      · have hne : (t.toList == u.toList) = true := by rw [HT1.out, HU1.out, hxy]; simp
        have hw : wordOk x y = true := by unfold wordOk; simp [hxy]
        have HN := Lib.hid (HOK.out hw)
        clear hxy hw HOK HBAD
        go_wp2_with fail
        go_quiet (fail)
        go_wp2_with fail
        go_roundw
        case rel =>
          obtain ⟨n3, h3⟩ := HWC.out
          exact ⟨k + 1, _, by omega, by go_num, by rw [h3]; exact World.drewN_drewN _ _ _, HN⟩
        case measure => simp [intOf]; omega
      have hne : (t.toList == u.toList) = false := by rw [HT1.out, HU1.out]; simpa using hxy
      have HW : Hid (wordOk x y = sb) := by
        show _ = _
        rw [← HSB2.out]
        unfold wordOk preB
        simp [hxy]
      cases sb with
      | true =>
        have HN := Lib.hid (HOK.out HW.out)
        clear hxy HOK HBAD
        go_wp2_with fail
        go_quiet (fail)
        go_wp2_with fail
        go_roundw
        case rel =>
          obtain ⟨n3, h3⟩ := HWC.out
          exact ⟨k + 1, _, by omega, by go_num, by rw [h3]; exact World.drewN_drewN _ _ _, HN⟩
        case measure => simp [intOf]; omega
      | false =>
        have HE := Lib.hid (HBAD.out HW.out)
        have HBF : Hid (Below w.heap.size w wc) := by
          obtain ⟨n3, h3⟩ := HWC.out
          show Below _ _ _; rw [h3]; exact below_drewN HB.out n3
        clear hxy HOK HBAD
        go_wp2_with fail
        go_quiet (fail)
        go_wp2_with fail
        go_ret
        exact ⟨ret_bool HE.out.symm, below_drewN HBF.out _⟩
    · have HE : Hid (r = true) := by show _ = _; rw [HR.out]; exact agree_ok HL1.out HL0.out (fun j hj => HALL.out j (by omega))
      have HBF : Hid (Below w.heap.size w wr) := by show Below _ _ _; rw [hwr]; exact below_drewN HB.out n
      have hd : ¬ k < a.length := hkl
      clear hwr
      go_wp2_with fail
      go_ret
      exact ⟨ret_bool HE.out.symm, HBF.out⟩
end Go.Proofs.YtnpdekgmiphagaaGreatDoor
