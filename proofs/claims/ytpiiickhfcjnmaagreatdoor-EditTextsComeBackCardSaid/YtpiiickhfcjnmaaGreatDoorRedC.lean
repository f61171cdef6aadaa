/- The contract of edit.readPoint. -/
import Derived.Test.YtpiiickhfcjnmaaGreatDoorRedB
import Derived.Test.YtpiiickhfcjnmaaGreatDoorStrZ
import Derived.Test.YtpiiickhfcjnmaaGreatDoorShCut
import Derived.Deep.DeepCutAuto
import Derived.Deep.CutBlock
namespace Go.Proofs.YtpiiickhfcjnmaaGreatDoor
open Go.RowKit Go.Dw

theorem ext_mkE (s : ByteArray) (a b : Nat) : s.extract a b = mkE ((s.data.toList.take b).drop a) := by
  apply ByteArray.ext
  apply Array.ext'
  rw [← ByteArray.toList_eq, ext_list]; simp [mkE]
theorem mkE_size (l : List UInt8) : (mkE l).size = l.length := by show l.toArray.size = _; simp
/-- what Cut says, as a value -/
def cutW (z : UInt8) (s : ByteArray) : Value := .tuple #[.string (mkE (cutE z s.data.toList).1), .string (mkE (cutE z s.data.toList).2.1), .bool (cutE z s.data.toList).2.2]
theorem cutE_le (z : UInt8) (l : List UInt8) : (cutE z l).1.length ≤ l.length ∧ (cutE z l).2.1.length ≤ l.length := by
  unfold cutE
  split
  · simp
  · simp
    omega
theorem cutV58_eq (s : ByteArray) : cutV58 s = cutW 58 s := by
  unfold cutV58 cutW cutE
  split
  · simp only; rw [mkE_of]; rfl
  · simp only
    rw [ext_mkE, ext_mkE, List.drop_zero, List.take_of_length_le (i := s.size) (by rw [size_list]; exact Nat.le_refl _)]
theorem cutV47_eq (s : ByteArray) : cutV47 s = cutW 47 s := by
  unfold cutV47 cutW cutE
  split
  · simp only; rw [mkE_of]; rfl
  · simp only
    rw [ext_mkE, ext_mkE, List.drop_zero, List.take_of_length_le (i := s.size) (by rw [size_list]; exact Nat.le_refl _)]
def ptE (r : Option Pnt) : Value := match r with
  | none => .tuple #[.agg #[.int .i64 0, .string ⟨#[]⟩, .string ⟨#[]⟩], .bool false]
  | some p => .tuple #[.agg #[.int .i64 p.at_, .string p.n, .string p.d], .bool true]
theorem pntE_num {l : List UInt8} (h : numE (cutE 58 l).1 = none) : pntE l = none := by unfold pntE; rw [h]
theorem pntE_no {l : List UInt8} (h : ¬ ((cutE 58 l).2.2 = true ∧ (cutE 47 (cutE 58 l).2.1).2.2 = true ∧ isDg (bareE (cutE 47 (cutE 58 l).2.1).1) = true ∧ isDg (cutE 47 (cutE 58 l).2.1).2.1 = true)) : pntE l = none := by
  unfold pntE
  split
  · rfl
  · rw [if_neg h]
theorem pntE_yes {l : List UInt8} {n : Nat} (h0 : numE (cutE 58 l).1 = some n) (h : ((cutE 58 l).2.2 = true ∧ (cutE 47 (cutE 58 l).2.1).2.2 = true ∧ isDg (bareE (cutE 47 (cutE 58 l).2.1).1) = true ∧ isDg (cutE 47 (cutE 58 l).2.1).2.1 = true)) :
    pntE l = some ⟨(n : Int), mkE (cutE 47 (cutE 58 l).2.1).1, mkE (cutE 47 (cutE 58 l).2.1).2.1⟩ := by
  unfold pntE; rw [h0]; simp only; rw [if_pos h]
set_option maxRecDepth 100000 in
set_option maxHeartbeats 4000000 in
theorem readPoint_any (s : ByteArray) (w : World) (hs : s.size ≤ 1048576) :
    Calls Tryz.prog 74 #[.string s] w fun e w' => e = .returned (ptE (pntE s.data.toList)) ∧ Below w.heap.size w w' := by
  obtain ⟨w0, hw0⟩ : ∃ w0, w0 = w.alloc (.cells #[.int .i64 0, .string ⟨#[]⟩, .string ⟨#[]⟩] 70) := ⟨_, rfl⟩
  have HB0 : Hid (Below w.heap.size w w0) := by rw [hw0]; exact (Below.refl _ _).alloc (Nat.le_refl _) _
  have HK0 : Hid (Blk w0 w.heap.size 70 [.int .i64 0, .string ⟨#[]⟩, .string ⟨#[]⟩]) := by rw [hw0]; exact Blk.new w _ _
  have HW0 := Lib.hid hw0
  have HC1 := Lib.hid (str_Cut58 s w0 hs)
  rw [cutV58_eq] at HC1
  have hle := cutE_le 58 s.data.toList
  rw [size_list] at hle
  have HP1 := Lib.hid (fun h => pntE_num (l := s.data.toList) h)
  have HP2 := Lib.hid (fun h => pntE_no (l := s.data.toList) h)
  have HP3 := Lib.hid (fun n h0 h => pntE_yes (l := s.data.toList) (n := n) h0 h)
  obtain ⟨RF, hRF⟩ : ∃ RF, pntE s.data.toList = RF := ⟨_, rfl⟩
  rw [hRF] at HP1 HP2 HP3 ⊢
  unfold cutW at HC1
  obtain ⟨a, ha⟩ : ∃ a, (cutE 58 s.data.toList).1 = a := ⟨_, rfl⟩
  obtain ⟨r, hr⟩ : ∃ r, (cutE 58 s.data.toList).2.1 = r := ⟨_, rfl⟩
  obtain ⟨ok, hok⟩ : ∃ b, (cutE 58 s.data.toList).2.2 = b := ⟨_, rfl⟩
  rw [ha, hr, hok] at HC1
  rw [ha, hr] at hle
  rw [ha] at HP1
  rw [hr, hok] at HP2
  rw [ha, hr, hok] at HP3
  clear ha hr hok hRF hw0
  have hle2 := cutE_le 47 r
  have HC2 : Hid (∀ W, Calls Tryz.prog 23 #[.string (mkE r), .string ⟨#[47]⟩] W fun e w' => e = .returned (cutW 47 (mkE r)) ∧ ∃ n, w' = W.drewN n) := fun W => by
    rw [← cutV47_eq]; exact str_Cut47 (mkE r) W (by rw [mkE_size]; omega)
  unfold cutW at HC2
  rw [mkE_list] at HC2
  have HN : Hid (∀ W : World, Calls Tryz.prog 72 #[.string (mkE a)] W fun e w' => e = .returned (nmE (numE a)) ∧ Below W.heap.size W w') := fun W => by
    have := readNumber_any (mkE a) W (by rw [mkE_size]; omega)
    rw [mkE_list] at this; exact this
  obtain ⟨nu, hnu⟩ : ∃ x, (cutE 47 r).1 = x := ⟨_, rfl⟩
  obtain ⟨de, hde⟩ : ∃ x, (cutE 47 r).2.1 = x := ⟨_, rfl⟩
  obtain ⟨al, hal⟩ : ∃ b, (cutE 47 r).2.2 = b := ⟨_, rfl⟩
  rw [hnu, hde, hal] at HC2 HP2 HP3
  rw [hnu, hde] at hle2
  clear hnu hde hal
  have hbl : (bareE nu).length ≤ nu.length := by
    unfold bareE Lib.trimPrefix
    split
    · rw [List.length_drop]; omega
    · exact Nat.le_refl _
  have HTP : Hid (∀ W, Calls Tryz.prog 137 #[.string (mkE nu), .string ⟨#[45]⟩] W fun e w' => e = .returned (.string (mkE (bareE nu))) ∧ w' = W) := fun W => by
    have := Any.strings_TrimPrefix Tryz.lays101 (mkE nu) ⟨#[45]⟩ W
    rw [mkE_list] at this
    exact this
  have HD1 : Hid (∀ W : World, Calls Tryz.prog 128 #[.string (mkE (bareE nu))] W fun e w' => e = .returned (.bool (isDg (bareE nu))) ∧ Below W.heap.size W w') := fun W => by
    have := isDigits_any (mkE (bareE nu)) W (by rw [mkE_size]; omega)
    rw [mkE_list] at this; exact this
  have HD2 : Hid (∀ W : World, Calls Tryz.prog 128 #[.string (mkE de)] W fun e w' => e = .returned (.bool (isDg de)) ∧ Below W.heap.size W w') := fun W => by
    have := isDigits_any (mkE de) W (by rw [mkE_size]; omega)
    rw [mkE_list] at this; exact this
  clear hle hle2 hbl
  obtain ⟨N, hN⟩ : ∃ N, numE a = N := ⟨_, rfl⟩
  rw [hN] at HN HP1 HP3
  clear hN
  generalize isDg (bareE nu) = d1 at *
  generalize isDg de = d2 at *
  generalize mkE (bareE nu) = sb at *
  generalize mkE nu = sn at *
  generalize mkE de = sd at *
  generalize mkE a = sa at *
  generalize mkE r = sr at *
  go_enter Tryz.func74, Tryz.ntmps74
  go_upto_region 1 with (fail)
  rw [← HW0.out]
  go_wp2_with fail
  refine HC1.out.mono ?_
  rintro e w1 ⟨rfl, n1, hw1⟩
  have HB1 : Hid (Below w.heap.size w w1) := by rw [hw1]; exact below_drewN HB0.out n1
  have HK1 : Hid (Blk w1 w.heap.size 70 [.int .i64 0, .string ⟨#[]⟩, .string ⟨#[]⟩]) := HK0.out.same (Same.of_below (S := fun _ => True) (by rw [hw1]; exact below_drewN (Below.refl _ _) n1)) trivial
  clear hw1 HB0 HK0
  go_wp2_with fail
  refine (HN.out w1).mono ?_
  rintro e w2 ⟨rfl, hb2⟩
  have HB2 := Lib.hid (HB1.out.trans (hb2.mono HB1.out.size))
  have HK2 := Lib.hid (HK1.out.same (Same.of_below (S := fun _ => True) hb2) trivial)
  clear hb2 HB1 HK1
  unfold nmE
  go_wp2_with fail
  refine (HC2.out w2).mono ?_
  rintro e w3 ⟨rfl, n3, hw3⟩
  have HB3 : Hid (Below w.heap.size w w3) := by rw [hw3]; exact below_drewN HB2.out n3
  have HK3 : Hid (Blk w3 w.heap.size 70 [.int .i64 0, .string ⟨#[]⟩, .string ⟨#[]⟩]) := HK2.out.same (Same.of_below (S := fun _ => True) (by rw [hw3]; exact below_drewN (Below.refl _ _) n3)) trivial
  clear hw3 HB2 HK2
  obtain ⟨nb, hnb⟩ : ∃ nb, (!ok || !N.isSome || !al || !d1 || !d2) = nb := ⟨_, rfl⟩
  have HNB := Lib.hid hnb
  clear hnb
  go_upto_region 4 with (fail)
  go_cut [49] (fun v wx => v = .bool nb ∧ Hid (Below w3.heap.size w3 wx))
  case first =>
    cases ok with
    | false =>
      have HE : Hid (nb = true) := by show _ = _; rw [← HNB.out]; rfl
      go_wp2_with fail
      go_meet
      case rel => exact ⟨by rw [HE.out], Below.refl _ _⟩
    | true =>
      cases N with
      | none =>
        have HE : Hid (nb = true) := by show _ = _; rw [← HNB.out]; rfl
        simp only [Option.isSome_none]
        go_wp2_with fail
        go_meet
        case rel => exact ⟨by rw [HE.out], Below.refl _ _⟩
      | some n =>
        simp only [Option.isSome_some]
        cases al with
        | false =>
          have HE : Hid (nb = true) := by show _ = _; rw [← HNB.out]; rfl
          go_wp2_with fail
          go_meet
          case rel => exact ⟨by rw [HE.out], Below.refl _ _⟩
        | true =>
          go_wp2_with fail
          refine (HTP.out w3).mono ?_
          rintro e w4 ⟨rfl, rfl⟩
          go_wp2_with fail
          refine (HD1.out _).mono ?_
          rintro e w5 ⟨rfl, hb5⟩
          have HB5 := Lib.hid hb5
          clear hb5
          cases d1 with
          | false =>
            have HE : Hid (nb = true) := by show _ = _; rw [← HNB.out]; rfl
            go_wp2_with fail
            go_meet
            case rel => exact ⟨by rw [HE.out], HB5.out⟩
          | true =>
            go_wp2_with fail
            refine (HD2.out _).mono ?_
            rintro e w6 ⟨rfl, hb6⟩
            have HB6 := Lib.hid (HB5.out.trans (hb6.mono HB5.out.size))
            clear hb6
            have HE : Hid (nb = !d2) := by show _ = _; rw [← HNB.out]; rfl
            go_wp2_with fail
            go_meet
            case rel => exact ⟨by rw [HE.out], HB6.out⟩
  case rest =>
    obtain ⟨rfl, HB4⟩ := hcut
    have HBW := Lib.hid (HB3.out.trans (HB4.out.mono HB3.out.size))
    have HKW : Hid (Blk wc w.heap.size 70 [.int .i64 0, .string ⟨#[]⟩, .string ⟨#[]⟩]) := HK3.out.same (Same.of_below (S := fun _ => True) HB4.out) trivial
    have f0 := HKW.out.frozen 0
    have f1 := HKW.out.frozen 1
    have f2 := HKW.out.frozen 2
    have d0 : wc.cell? ⟨w.heap.size, 0, none⟩ = some _ := HKW.out.cell 0
    have d1' : wc.cell? ⟨w.heap.size, 1, none⟩ = some _ := HKW.out.cell 1
    have d2' : wc.cell? ⟨w.heap.size, 2, none⟩ = some _ := HKW.out.cell 2
    cases nb with
    | true =>
      have HE : Hid (RF = none) := by
        cases N with
        | none => exact HP1.out rfl
        | some n =>
          refine HP2.out ?_
          rintro ⟨h1, h2, h3, h4⟩
          have := HNB.out
          rw [h1, h2, h3, h4] at this
          cases this
      go_wp2_with fail
      refine bodyPost_ret (v := ptE none) (by simp [results, Tryz.results74, go_sem, ptE, d0, d1', d2']) rfl ?_
      refine ⟨by rw [HE.out], ?_⟩
      refine ((HBW.out.setCell ?_ _).setCell ?_ _).setCell ?_ _ <;> exact Nat.le_refl _
    | false =>
      cases N with
      | none => have := HNB.out; cases ok <;> cases this
      | some n =>
        have HE : Hid (RF = some ⟨(n : Int), sn, sd⟩) := by
          refine HP3.out n rfl ?_
          have := HNB.out
          cases ok <;> cases al <;> cases d1 <;> cases d2 <;> simp at this ⊢
        simp only [Option.getD_some, Option.isSome_some]
        go_wp2_with fail
        refine bodyPost_ret (v := ptE (some ⟨(n : Int), sn, sd⟩)) (by simp [results, Tryz.results74, go_sem, ptE, d0, d1', d2']) rfl ?_
        refine ⟨by rw [HE.out], ?_⟩
        refine ((HBW.out.setCell ?_ _).setCell ?_ _).setCell ?_ _ <;> exact Nat.le_refl _
end Go.Proofs.YtpiiickhfcjnmaaGreatDoor
