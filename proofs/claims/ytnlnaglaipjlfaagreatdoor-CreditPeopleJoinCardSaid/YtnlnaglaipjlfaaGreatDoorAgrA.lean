/- The contracts of credit.agree and Agree. -/
import Derived.Test.YtnlnaglaipjlfaaGreatDoorWords
namespace Go.Proofs.YtnlnaglaipjlfaaGreatDoor
open Go.RowKit Go.Dw

theorem getD_atW {α : Type} (l : List α) (k : Nat) (d : α) (h : k < l.length) : l.getD k d = l[k] := by rw [List.getD_eq_getElem?_getD, List.getElem?_eq_getElem h]; rfl
theorem str_letter (l : List UInt8) : ∃ t : ByteArray, t = ⟨l.toArray⟩ ∧ t.toList = l ∧ t.data.toList = l ∧ t.size = l.length := ⟨_, rfl, toList_mk l, rfl, size_mk l⟩
set_option maxRecDepth 100000 in
set_option maxHeartbeats 1000000 in
theorem agree_any (A B : Option Addr) (c d : Nat) (a b : List (List UInt8)) (w : World) (ha : Rd w A (sc a)) (hb : Rd w B (sc b)) (hla : a.length ≤ 9223372036854775807) (hsa : ∀ x ∈ a, x.length ≤ 1048576) (hsb : ∀ x ∈ b, x.length ≤ 1048576) :
    Calls Tryz.prog 52 #[.slice A a.length c, .slice B b.length d] w fun e w' => e = .returned (.bool (agreeW a b)) ∧ w = w' := by
  have HSA := Lib.hid hsa
  have HSB := Lib.hid hsb
  clear hsa hsb
  by_cases h0 : a.length = 0
  · have HR := Lib.hid (agree_len (b := b) (.inl h0))
    have hz : ((a.length : Int) == 0) = true := by simp [h0]
    clear h0
    go_enter Tryz.func52, Tryz.ntmps52
    go_wp2_with fail
    go_ret
    exact ⟨ret_bool HR.out.symm, rfl⟩
  have hz : ((a.length : Int) == 0) = false := by simpa using h0
  by_cases h1 : a.length = b.length
  case neg =>
    have HR := Lib.hid (agree_len (a := a) (b := b) (.inr h1))
    have hz1 : ((a.length : Int) != (b.length : Int)) = true := by simp; omega
    clear h0 h1
    go_enter Tryz.func52, Tryz.ntmps52
    go_wp2_with fail
    go_ret
    exact ⟨ret_bool HR.out.symm, rfl⟩
  have hz1 : ((a.length : Int) != (b.length : Int)) = false := by simp; omega
  have H0 := Lib.hid h0
  have H1 := Lib.hid h1
  have hlb : b.length ≤ a.length := by omega
  have hlb2 : a.length ≤ b.length := by omega
  obtain ⟨ba, oa, rfl, hbaz, hac⟩ := ha.at_ (by rw [sc_len]; omega)
  obtain ⟨bb, ob, rfl, hbbz, hbc⟩ := hb.at_ (by rw [sc_len]; omega)
  have HAC := Lib.hid hac
  have HBC := Lib.hid hbc
  clear h0 h1 hac hbc ha hb
  go_enter Tryz.func52, Tryz.ntmps52
  go_wp2_with fail
  go_loop [20] (fun iv => ∃ k : Nat, k ≤ a.length ∧ iv = .int .i64 (k : Int) ∧ Hid (∀ j, j < k → wordOk (a.getD j []) (b.getD j []) = true)) (fun iv => a.length - (intOf iv).toNat)
  case atStart => exact ⟨0, Nat.zero_le _, rfl, fun j hj => absurd hj (Nat.not_lt_zero _)⟩
  case round =>
    obtain ⟨k, hk, rfl, HALL⟩ := hrel
    by_cases hkl : k < a.length
    · have hkb : k < b.length := by omega
      have ha1 := HAC.out k _ (sc_at a k hkl)
      have hb1 := HBC.out k _ (sc_at b k hkb)
      have hx := HSA.out _ (List.getElem_mem hkl)
      have hy := HSB.out _ (List.getElem_mem hkb)
      have HBAD : Hid (wordOk a[k] b[k] = false → agreeW a b = false) := fun h => agree_bad H1.out hkl HALL.out (by rw [getD_atW _ _ _ hkl, getD_atW _ _ _ hkb]; exact h)
      have HOK : Hid (wordOk a[k] b[k] = true → ∀ j, j < k + 1 → wordOk (a.getD j []) (b.getD j []) = true) := fun h j hj => by
        by_cases he : j = k
        · subst he; rw [getD_atW _ _ _ hkl, getD_atW _ _ _ hkb]; exact h
        · exact HALL.out j (by omega)
      unfold sv at ha1 hb1
      generalize a[k] = x at *
      generalize b[k] = y at *
      obtain ⟨t, ht, ht1, ht2, ht3⟩ := str_letter x
      obtain ⟨u, hu, hu1, hu2, hu3⟩ := str_letter y
      rw [← ht] at ha1
      rw [← hu] at hb1
      have HP1 := Lib.hid (fun W => str_HasPrefix u t W (by omega) (by omega))
      have HP2 := Lib.hid (fun W => str_HasPrefix t u W (by omega) (by omega))
      rw [ht2, hu2] at HP1 HP2
      have h21 : decide (k < a.length) = true := by simpa using hkl
      have hts : t.size ≤ 1048576 := by omega
      have hus : u.size ≤ 1048576 := by omega
      by_cases hxy : x = y
      · have hw : wordOk x y = true := by unfold wordOk; simp [hxy]
        have HN := Lib.hid (HOK.out hw)
        have hne : (t.toList == u.toList) = true := by rw [ht1, hu1, hxy]; simp
        clear ht hu ht1 hu1 ht2 hu2 ht3 hu3 hxy hw HOK HBAD
        go_wp2_with fail
        go_round
        case rel => exact ⟨k + 1, by omega, by go_num, HN⟩
        case measure => simp [intOf]; omega
      have hne : (t.toList == u.toList) = false := by rw [ht1, hu1]; simpa using hxy
      have HW : Hid (wordOk x y = ((decide (x.length = 1) && preB x y) || (decide (y.length = 1) && preB y x))) := by
        show _ = _
        unfold wordOk preB
        simp [hxy]
      by_cases hl1 : x.length = 1
      · have hs1 : ((t.size : Int) == 1) = true := by simp; omega
        cases hp1 : preB x y with
        | true =>
          have HN := Lib.hid (HOK.out (by rw [HW.out, hp1]; simp [hl1]))
          rw [hp1] at HP1
          clear ht hu ht1 hu1 ht2 hu2 ht3 hu3 hxy HOK HBAD hp1 hl1 HW
          go_wp2_with fail
          refine (HP1.out _).mono ?_
          rintro e w' ⟨rfl, rfl⟩
          go_wp2_with fail
          go_round
          case rel => exact ⟨k + 1, by omega, by go_num, HN⟩
          case measure => simp [intOf]; omega
        | false =>
          rw [hp1] at HP1
          by_cases hl2 : y.length = 1
          · have hs2 : ((u.size : Int) == 1) = true := by simp; omega
            cases hp2 : preB y x with
            | true =>
              have HN := Lib.hid (HOK.out (by rw [HW.out, hp2]; simp [hl2]))
              rw [hp2] at HP2
              clear ht hu ht1 hu1 ht2 hu2 ht3 hu3 hxy HOK HBAD hp1 hp2 hl1 hl2 HW
              go_wp2_with fail
              refine (HP1.out _).mono ?_
              rintro e w' ⟨rfl, rfl⟩
              go_wp2_with fail
              refine (HP2.out _).mono ?_
              rintro e w' ⟨rfl, rfl⟩
              go_wp2_with fail
              go_round
              case rel => exact ⟨k + 1, by omega, by go_num, HN⟩
              case measure => simp [intOf]; omega
            | false =>
              have HN := Lib.hid (HBAD.out (by rw [HW.out, hp1, hp2]; simp))
              rw [hp2] at HP2
              clear ht hu ht1 hu1 ht2 hu2 ht3 hu3 hxy HOK HBAD hp1 hp2 hl1 hl2 HW
              go_wp2_with fail
              refine (HP1.out _).mono ?_
              rintro e w' ⟨rfl, rfl⟩
              go_wp2_with fail
              refine (HP2.out _).mono ?_
              rintro e w' ⟨rfl, rfl⟩
              go_wp2_with fail
              go_ret
              exact ⟨ret_bool HN.out.symm, rfl⟩
          · have hs2 : ((u.size : Int) == 1) = false := by simp; omega
            have HN := Lib.hid (HBAD.out (by rw [HW.out, hp1]; simp [hl2]))
            clear ht hu ht1 hu1 ht2 hu2 ht3 hu3 hxy HOK HBAD hp1 hl1 hl2 HW
            go_wp2_with fail
            refine (HP1.out _).mono ?_
            rintro e w' ⟨rfl, rfl⟩
            go_wp2_with fail
            go_ret
            exact ⟨ret_bool HN.out.symm, rfl⟩
      · have hs1 : ((t.size : Int) == 1) = false := by simp; omega
        by_cases hl2 : y.length = 1
        · have hs2 : ((u.size : Int) == 1) = true := by simp; omega
          cases hp2 : preB y x with
          | true =>
            have HN := Lib.hid (HOK.out (by rw [HW.out, hp2]; simp [hl2]))
            rw [hp2] at HP2
            clear ht hu ht1 hu1 ht2 hu2 ht3 hu3 hxy HOK HBAD hp2 hl1 hl2 HW
            go_wp2_with fail
            refine (HP2.out _).mono ?_
            rintro e w' ⟨rfl, rfl⟩
            go_wp2_with fail
            go_round
            case rel => exact ⟨k + 1, by omega, by go_num, HN⟩
            case measure => simp [intOf]; omega
          | false =>
            have HN := Lib.hid (HBAD.out (by rw [HW.out, hp2]; simp [hl1]))
            rw [hp2] at HP2
            clear ht hu ht1 hu1 ht2 hu2 ht3 hu3 hxy HOK HBAD hp2 hl1 hl2 HW
            go_wp2_with fail
            refine (HP2.out _).mono ?_
            rintro e w' ⟨rfl, rfl⟩
            go_wp2_with fail
            go_ret
            exact ⟨ret_bool HN.out.symm, rfl⟩
        · have hs2 : ((u.size : Int) == 1) = false := by simp; omega
          have HN := Lib.hid (HBAD.out (by rw [HW.out]; simp [hl1, hl2]))
          clear ht hu ht1 hu1 ht2 hu2 ht3 hu3 hxy HOK HBAD hl1 hl2 HW
          go_wp2_with fail
          go_ret
          exact ⟨ret_bool HN.out.symm, rfl⟩
    · have HR : Hid (agreeW a b = true) := agree_ok H1.out H0.out (fun j hj => HALL.out j (by omega))
      have hd : ¬ k < a.length := hkl
      go_wp2_with fail
      go_ret
      exact ⟨ret_bool HR.out.symm, rfl⟩
end Go.Proofs.YtnlnaglaipjlfaaGreatDoor
