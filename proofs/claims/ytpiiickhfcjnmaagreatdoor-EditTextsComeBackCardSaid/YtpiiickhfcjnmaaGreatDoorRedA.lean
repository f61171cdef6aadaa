/- The contracts of edit.isDigits and edit.readNumber. -/
import Derived.Test.YtpiiickhfcjnmaaGreatDoorPlnF
import Derived.Test.YtpiiickhfcjnmaaGreatDoorShAtoi
import Derived.Test.YtpiiickhfcjnmaaGreatDoorNumB
import Derived.Test.YtpiiickhfcjnmaaGreatDoorStrZ
namespace Go.Proofs.YtpiiickhfcjnmaaGreatDoor
open Go.RowKit Go.Dw

def digE : ByteArray := ⟨#[48, 49, 50, 51, 52, 53, 54, 55, 56, 57]⟩
theorem isDE_all : ∀ i : Fin 256, digE.data.toList.contains (UInt8.ofNat i.val) = isD (UInt8.ofNat i.val) := by decide +kernel
theorem isDE_eq (b : UInt8) : digE.data.toList.contains b = isD b := by
  have := isDE_all ⟨b.toNat, b.toNat_lt⟩
  simpa using this
theorem trimE (l : List UInt8) : (Lib.trimS l digE.data.toList = []) ↔ l.all isD = true := by
  have hp : (fun b : UInt8 => digE.data.toList.contains b) = isD := funext isDE_eq
  unfold Lib.trimS Lib.trimLeftS Lib.trimRightS
  rw [hp, dropWhile_nil]
  rw [List.all_reverse]
  constructor
  · intro h
    have h2 : (l.reverse.dropWhile isD) = [] := by
      cases hd : l.reverse.dropWhile isD with
      | nil => rfl
      | cons a t =>
        rw [hd] at h
        have := List.head_dropWhile_not isD (l := l.reverse) (by rw [hd]; simp)
        simp [hd] at this
        simp [this] at h
    rw [dropWhile_nil, List.all_reverse] at h2
    exact h2
  · intro h
    have : l.reverse.dropWhile isD = [] := by rw [dropWhile_nil, List.all_reverse]; exact h
    rw [this]; rfl
theorem trimDE_any (s : ByteArray) (w : World) (hs : s.size ≤ 9223372036854775807) :
    Calls Tryz.prog 73 #[.string s, .string digE] w fun e w' => e = .returned (.string ⟨(Lib.trimS s.data.toList digE.data.toList).toArray⟩) ∧ Below w.heap.size w w' :=
  Any.strings_Trim_laid Tryz.lays160 (by kernel_rfl) s digE w hs (by decide) (ascii_of_all (by decide))
theorem bytesW_below (w : World) (e : TypeId) (s : ByteArray) : Below w.heap.size w (Lib.bytesWorld w e s) :=
  ⟨rfl, rfl, rfl, by rw [Lib.bytesWorld_size]; omega, fun k hk => Lib.bytesWorld_at_old w e s k hk⟩
theorem atoiE_any (s : ByteArray) (w : World) (hn : s.data.toList ≠ []) (h : s.data.toList.all isD = true) (hs : s.size ≤ 18) :
    Calls Tryz.prog 129 #[.string s] w fun e w' => e = .returned (.tuple #[.int .i64 (valD s.data.toList : Int), .nilIface]) ∧ Below w.heap.size w w' :=
  (Any.strconv_Atoi Tryz.lays172 s _ hs (atoi_val hn h) w).mono fun _ _ ⟨h1, t, h2⟩ => ⟨h1, by rw [h2]; exact bytesW_below w _ t⟩
theorem isDg_iff (l : List UInt8) : isDg l = true ↔ l ≠ [] ∧ l.all isD = true := by
  unfold isDg
  cases l <;> simp
set_option maxHeartbeats 1000000 in
theorem isDigits_any (s : ByteArray) (w : World) (hs : s.size ≤ 9223372036854775807) :
    Calls Tryz.prog 128 #[.string s] w fun e w' => e = .returned (.bool (isDg s.data.toList)) ∧ Below w.heap.size w w' := by
  by_cases h0 : 0 < s.size
  case neg =>
    obtain ⟨e1, e2⟩ := emp_t h0
    have HQ : Hid (isDg s.data.toList = false) := by show _ = _; rw [← ByteArray.toList_eq, e2]; rfl
    clear e2
    go_enter Tryz.func128, Tryz.ntmps128
    go_wp2_with fail
    go_ret
    exact ⟨ret_bool HQ.out.symm, Below.refl _ _⟩
  have e1 := emp_f h0
  have hne : s.data.toList ≠ [] := fun e => by have := congrArg List.length e; rw [Array.length_toList] at this; exact absurd this (by show ¬ s.size = 0; omega)
  have HTM := Lib.hid (trimDE_any s w hs)
  have HTR := Lib.hid (trimE s.data.toList)
  cases ha : s.data.toList.all isD with
  | false =>
    have HQ : Hid (isDg s.data.toList = false) := by
      show _ = _
      rw [Bool.eq_false_iff]; intro h; have := ((isDg_iff _).1 h).2; rw [ha] at this; cases this
    obtain ⟨u, hu⟩ : ∃ u, (⟨(Lib.trimS s.data.toList digE.data.toList).toArray⟩ : ByteArray) = u := ⟨_, rfl⟩
    have hun : 0 < u.size := by
      rw [← size_list, ← hu]
      rw [List.toList_toArray]
      apply List.length_pos_iff.2
      intro hh
      have := HTR.out.1 hh
      rw [ha] at this; cases this
    rw [hu] at HTM
    have e2 := emp_f hun
    clear hu ha hne
    go_enter Tryz.func128, Tryz.ntmps128
    go_wp2_with fail
    refine HTM.out.mono ?_
    rintro e w2 ⟨rfl, hb2⟩
    have HB2 := Lib.hid hb2
    clear hb2
    go_wp2_with fail
    go_ret
    exact ⟨ret_bool (by rw [HQ.out]), HB2.out⟩
  | true =>
    have HQ : Hid (isDg s.data.toList = true) := (isDg_iff _).2 ⟨hne, ha⟩
    have hn := HTR.out.2 ha
    rw [hn] at HTM
    clear hn ha hne
    go_enter Tryz.func128, Tryz.ntmps128
    go_wp2_with fail
    refine HTM.out.mono ?_
    rintro e w2 ⟨rfl, hb2⟩
    have HB2 := Lib.hid hb2
    clear hb2
    go_wp2_with fail
    go_ret
    exact ⟨ret_bool (by rw [HQ.out]), HB2.out⟩
def nmE (r : Option Nat) : Value := .tuple #[.int .i64 ((r.getD 0 : Nat) : Int), .bool r.isSome]
theorem numE_no {l : List UInt8} (h : ¬ (noZ l = true ∧ l.length ≤ 14)) : numE l = none := by unfold numE; rw [if_neg h]
theorem numE_yes {l : List UInt8} (h : noZ l = true) (h2 : l.length ≤ 14) : numE l = some (valD l) := by unfold numE; rw [if_pos ⟨h, h2⟩]
set_option maxHeartbeats 2000000 in
theorem readNumber_any (s : ByteArray) (w : World) (hs : s.size ≤ 9223372036854775807) :
    Calls Tryz.prog 72 #[.string s] w fun e w' => e = .returned (nmE (numE s.data.toList)) ∧ Below w.heap.size w w' := by
  have HDG := Lib.hid (isDigits_any s w hs)
  have HSL := Lib.hid (size_list s)
  cases hd : isDg s.data.toList with
  | false =>
    have HQ : Hid (numE s.data.toList = none) := numE_no fun h => by
      have := noZ_dg h.1
      rw [hd] at this; cases this
    rw [hd] at HDG
    clear hd
    go_enter Tryz.func72, Tryz.ntmps72
    go_wp2_with fail
    refine HDG.out.mono ?_
    rintro e w2 ⟨rfl, hb2⟩
    have HB2 := Lib.hid hb2
    clear hb2
    go_wp2_with fail
    go_ret2
    exact ⟨by rw [HQ.out]; rfl, HB2.out⟩
  | true =>
    obtain ⟨hne, ha⟩ := (isDg_iff _).1 hd
    rw [hd] at HDG
    have h0 : 0 < s.size := by
      rw [← size_list]; exact List.length_pos_iff.2 hne
    have HNE : Hid (s.data.toList ≠ []) := hne
    have HA : Hid (s.data.toList.all isD = true) := ha
    clear hd hne ha
    by_cases h14 : 14 < s.size
    · have HQ : Hid (numE s.data.toList = none) := numE_no fun h => by have := h.2; rw [size_list] at this; omega
      go_enter Tryz.func72, Tryz.ntmps72
      go_wp2_with fail
      refine HDG.out.mono ?_
      rintro e w2 ⟨rfl, hb2⟩
      have HB2 := Lib.hid hb2
      clear hb2
      go_wp2_with fail
      go_ret2
      exact ⟨by rw [HQ.out]; rfl, HB2.out⟩
    have HAT := Lib.hid (fun (W : World) => atoiE_any s W HNE.out HA.out (by omega))
    obtain ⟨v, hv⟩ : ∃ v, valD s.data.toList = v := ⟨_, rfl⟩
    have HYES : Hid (noZ s.data.toList = true → numE s.data.toList = some v) := fun h => by rw [numE_yes h (by rw [size_list]; omega), hv]
    rw [hv] at HAT
    clear hv
    by_cases h48 : (s[0]'h0).toNat = 48
    · have g1 : (((s[0]'h0).toNat : Int) == 48) = true := by rw [h48]; rfl
      by_cases hl : s.data.toList = [48]
      · have e2 : (s.toList == [48]) = true := by rw [ByteArray.toList_eq, hl]; rfl
        have HQ : Hid (numE s.data.toList = some v) := HYES.out (by rw [hl]; rfl)
        clear hl h48
        go_enter Tryz.func72, Tryz.ntmps72
        go_wp2_with fail
        refine HDG.out.mono ?_
        rintro e w2 ⟨rfl, hb2⟩
        have HB2 := Lib.hid hb2
        have HA2 := Lib.hid (HAT.out w2)
        clear hb2
        go_wp2_with fail
        refine HA2.out.mono ?_
        rintro e w3 ⟨rfl, hb3⟩
        have HB3 := Lib.hid (HB2.out.trans (hb3.mono HB2.out.size))
        clear hb3
        go_wp2_with fail
        go_quiet (fail)
        go_wp2
        go_ret2
        exact ⟨by rw [HQ.out]; rfl, below_drewN HB3.out _⟩
      · have e2 : (s.toList == [48]) = false := by rw [ByteArray.toList_eq, beq_eq_false_iff_ne]; exact hl
        have HQ : Hid (numE s.data.toList = none) := numE_no fun h => by
          have := noZ_head (l := s.data.toList) (by rw [head_of h0, (u8_48 _).2 h48]) hl
          rw [this] at h; cases h.1
        clear hl h48
        go_enter Tryz.func72, Tryz.ntmps72
        go_wp2_with fail
        refine HDG.out.mono ?_
        rintro e w2 ⟨rfl, hb2⟩
        have HB2 := Lib.hid hb2
        clear hb2
        go_wp2_with fail
        go_ret2
        exact ⟨by rw [HQ.out]; rfl, HB2.out⟩
    · have g1 : (((s[0]'h0).toNat : Int) == 48) = false := by simp; omega
      have HQ : Hid (numE s.data.toList = some v) := HYES.out (noZ_ok HA.out HNE.out (by rw [head_of h0]; intro e; injection e with e; exact h48 ((u8_48 _).1 e)))
      clear h48
      go_enter Tryz.func72, Tryz.ntmps72
      go_wp2_with fail
      refine HDG.out.mono ?_
      rintro e w2 ⟨rfl, hb2⟩
      have HB2 := Lib.hid hb2
      have HA2 := Lib.hid (HAT.out w2)
      clear hb2
      go_wp2_with fail
      refine HA2.out.mono ?_
      rintro e w3 ⟨rfl, hb3⟩
      have HB3 := Lib.hid (HB2.out.trans (hb3.mono HB2.out.size))
      clear hb3
      go_wp2_with fail
      go_quiet (fail)
      go_wp2
      go_ret2
      exact ⟨by rw [HQ.out]; rfl, below_drewN HB3.out _⟩
end Go.Proofs.YtpiiickhfcjnmaaGreatDoor
