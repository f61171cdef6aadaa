/- The contract of clock.CheckRatio. -/
import Derived.Test.YtjcdifchcmldfaaGreatDoorRatE
import Derived.Test.YtjcdifchcmldfaaGreatDoorNumB
namespace Go.Proofs.YtjcdifchcmldfaaGreatDoor
open Go.RowKit Go.Dw

theorem ratF_bad {s d : ByteArray} (h : rFrm s d = false) : ratF s d = 3 := by unfold ratF; rw [if_pos h]
theorem ratF_big {s d : ByteArray} (h : rFrm s d = true) (k : 2000 < (boT s).length ∨ 2000 < d.data.toList.length) : ratF s d = 2 := by
  unfold ratF; rw [if_neg (by rw [h]; decide), if_pos k]
theorem ratF_val {s d : ByteArray} (h : rFrm s d = true) (k : ¬ (2000 < (boT s).length ∨ 2000 < d.data.toList.length)) : ratF s d = if Nat.gcd (valD (boT s)) (valD d.data.toList) = 1 then 0 else 3 := by
  unfold ratF; rw [if_neg (by rw [h]; decide), if_neg k]
theorem lim_valD {l : List UInt8} (h : l.all isD = true) {n : Nat} (hn : l.length ≤ n) : Lim n (valD l) := by
  have h1 : Lim l.length (valD l) := Nat.lt_of_lt_of_le (valD_lt _ l rfl h) (Nat.pow_le_pow_left (by decide) _)
  exact h1.mono hn
set_option maxRecDepth 100000 in
set_option maxHeartbeats 4000000 in
theorem checkRatio_any (num den : ByteArray) (w : World) (hs : num.size ≤ 9223372036854775807) (hs2 : den.size ≤ 9223372036854775807) :
    Calls Tryz.prog 38 #[.agg #[.string num, .string den]] w fun e w' => e = .returned (.int .i64 (ratF num den)) ∧ Below w.heap.size w w' := by
  obtain ⟨w1, hw1⟩ : ∃ w1, w1 = w.alloc (.cells #[.string num, .string den] 39) := ⟨_, rfl⟩
  have HB : Hid (Below w.heap.size w w1) := by rw [hw1]; exact (Below.refl _ _).alloc (Nat.le_refl _) _
  have HK : Hid (Blk w1 w.heap.size 39 [.string num, .string den]) := by rw [hw1]; exact Blk.new w _ _
  have c0 : w1.cell? ⟨w.heap.size, 0, none⟩ = some (.string num) := HK.out.cell 0
  have c1 : w1.cell? ⟨w.heap.size, 1, none⟩ = some (.string den) := HK.out.cell 1
  have HCP : Hid (∀ W, Calls Tryz.prog 59 #[.string num, .string ⟨#[45]⟩] W fun e w' => e = .returned (.tuple #[.string ⟨(boT num).toArray⟩, .bool (sgT num)]) ∧ w' = W) := fun W => Any.strings_CutPrefix Tryz.lays103 num ⟨#[45]⟩ W
  obtain ⟨n, hn⟩ : ∃ n : ByteArray, n = ⟨(boT num).toArray⟩ := ⟨_, rfl⟩
  have hnl : n.data.toList = boT num := by rw [hn]
  have hnz : n.size = (boT num).length := by rw [← hnl, Array.length_toList]; rfl
  rw [← hn] at HCP
  have hb := boT_len num
  have HD1 := Lib.hid (digits_any n w1 (by omega))
  have HD2 := Lib.hid (digits_any den w1 hs2)
  rw [hnl] at HD1
  obtain ⟨b1, hb1⟩ : ∃ b, noZ (boT num) = b := ⟨_, rfl⟩
  obtain ⟨b3, hb3⟩ : ∃ b, noZ den.data.toList = b := ⟨_, rfl⟩
  obtain ⟨sg, hsg⟩ : ∃ b, sgT num = b := ⟨_, rfl⟩
  obtain ⟨b2, hb2⟩ : ∃ b, decide (boT num = [48]) = b := ⟨_, rfl⟩
  obtain ⟨b4, hb4⟩ : ∃ b, decide (den.data.toList = [48]) = b := ⟨_, rfl⟩
  have hfr : rFrm num den = (b1 && !(sg && b2) && b3 && !b4) := by unfold rFrm; rw [hb1, hb3, hsg, hb2, hb4]
  have e2 : (n.toList == [48]) = b2 := by
    rw [ByteArray.toList_eq, hnl, ← hb2]
    by_cases h : boT num = [48]
    · rw [h]; rfl
    · rw [decide_eq_false h, beq_eq_false_iff_ne]; exact h
  have e4 : (den.toList == [48]) = b4 := by
    rw [ByteArray.toList_eq, ← hb4]
    by_cases h : den.data.toList = [48]
    · rw [h]; rfl
    · rw [decide_eq_false h, beq_eq_false_iff_ne]; exact h
  rw [hb1] at HD1
  rw [hb3] at HD2
  rw [hsg] at HCP
  have HFR := Lib.hid hfr
  have HNZ := Lib.hid hnz
  have HW := Lib.hid hw1
  have hdz : den.data.toList.length = den.size := by rw [Array.length_toList]; rfl
  have HDZ := Lib.hid hdz
  clear hw1 hn hnl hnz hb hb1 hb3 hsg hb2 hb4 hfr hdz
  go_enter Tryz.func38, Tryz.ntmps38
  go_upto_region 1 with (fail)
  rw [← HW.out]
  go_wp2_with fail
  refine (HCP.out _).mono ?_
  rintro e w' ⟨rfl, hww⟩
  subst hww
  go_wp2_with fail
  refine HD1.out.mono ?_
  rintro e w' ⟨rfl, hww⟩
  subst hww
  cases b1
  · have HE : Hid (ratF num den = 3) := ratF_bad (by rw [HFR.out]; rfl)
    go_wp2_with fail
    go_ret
    exact ⟨ret_int HE.out.symm, HB.out⟩
  by_cases h2 : (sg && b2) = true
  · have HE : Hid (ratF num den = 3) := ratF_bad (by rw [HFR.out, h2]; rfl)
    obtain ⟨rfl, rfl⟩ : sg = true ∧ b2 = true := by simpa using h2
    clear h2
    go_wp2_with fail
    go_ret
    exact ⟨ret_int HE.out.symm, HB.out⟩
  have HSB : Hid ((sg && b2) = false) := by
    show _ = _
    cases h : (sg && b2)
    · rfl
    · exact absurd h h2
  clear h2
  have HMID : Hid (rFrm num den = (b3 && !b4)) := by show _ = _; rw [HFR.out, HSB.out]; rfl
  have hr : sg = false ∨ (sg = true ∧ b2 = false) := by
    cases sg
    · exact .inl rfl
    · cases b2
      · exact .inr ⟨rfl, rfl⟩
      · exact absurd HSB.out (by decide)
  rcases hr with rfl | ⟨rfl, rfl⟩
  all_goals
    clear HFR HSB
    go_wp2_with fail
    refine HD2.out.mono ?_
    rintro e w' ⟨rfl, hww⟩
    subst hww
    cases b3
    case false =>
      have HE : Hid (ratF num den = 3) := ratF_bad (by rw [HMID.out]; rfl)
      go_wp2_with fail
      go_ret
      exact ⟨ret_int HE.out.symm, HB.out⟩
    cases b4
    case true =>
      have HE : Hid (ratF num den = 3) := ratF_bad (by rw [HMID.out]; rfl)
      go_wp2_with fail
      go_ret
      exact ⟨ret_int HE.out.symm, HB.out⟩
    have HF : Hid (rFrm num den = true) := by show _ = _; rw [HMID.out]; rfl
    by_cases hl1 : 2000 < n.size
    · have HE : Hid (ratF num den = 2) := ratF_big HF.out (.inl (by rw [← HNZ.out]; exact hl1))
      have hd1 : decide (2000 < n.size) = true := by simpa using hl1
      go_wp2_with fail
      go_ret
      exact ⟨ret_int HE.out.symm, HB.out⟩
    have hd1 : decide (2000 < n.size) = false := by simpa using hl1
    by_cases hl2 : 2000 < den.size
    · have HE : Hid (ratF num den = 2) := ratF_big HF.out (.inr (by rw [HDZ.out]; exact hl2))
      have hd2 : decide (2000 < den.size) = true := by simpa using hl2
      go_wp2_with fail
      go_ret
      exact ⟨ret_int HE.out.symm, HB.out⟩
    have hd2 : decide (2000 < den.size) = false := by simpa using hl2
    obtain ⟨f1, f2, f3, f4⟩ := rFrm_of HF.out
    have HV := Lib.hid (ratF_val HF.out (by rw [← HNZ.out, HDZ.out]; omega))
    have hnum : num.size ≤ 1099511627776 := by
      have h1 : num.size ≤ n.size + 1 := by
        rw [HNZ.out]
        unfold boT Lib.trimPrefix
        split
        · rw [List.length_drop, Array.length_toList]; show num.size ≤ num.size - 1 + 1; omega
        · rw [Array.length_toList]; show num.size ≤ num.size + 1; omega
      omega
    have HFM := Lib.hid (from_any num den w' hnum (by omega) ((noZ_iff _).1 f1).1 ((noZ_iff _).1 f2).1 f3)
    have HLO := Lib.hid (fun (v : Value) (W : World) (h : RawV W v (numZ num) (valD den.data.toList)) => lowest_any v (numZ num) (valD den.data.toList) W h 2000 (by rw [numZ_abs]; exact lim_valD ((noZ_iff _).1 f1).1 (by rw [← HNZ.out]; omega)) (lim_valD ((noZ_iff _).1 f2).1 (by rw [HDZ.out]; omega)) (by omega))
    rw [numZ_abs] at HLO
    obtain ⟨gb, hgb⟩ : ∃ b, decide (Nat.gcd (valD (boT num)) (valD den.data.toList) = 1) = b := ⟨_, rfl⟩
    rw [hgb] at HLO
    have HVV : Hid (ratF num den = if gb = true then 0 else 3) := by
      show _ = _
      rw [HV.out, ← hgb]
      simp
    clear hgb f1 f2 f3 f4 hnum HV
    go_wp2_with fail
    refine HFM.out.mono ?_
    rintro e w2 ⟨v, rfl, hv, hq⟩
    have HB2 := Lib.hid (HB.out.trans (hq.mono HB.out.size))
    have HL2 := Lib.hid (HLO.out v w2 hv)
    clear hv hq
    go_wp2_with fail
    refine HL2.out.mono ?_
    rintro e w3 ⟨rfl, hq3⟩
    have HB3 := Lib.hid (HB2.out.trans (hq3.mono HB2.out.size))
    clear hq3
    cases gb
    · go_wp2_with fail
      go_ret
      exact ⟨ret_int HVV.out.symm, HB3.out⟩
    · go_wp2_with fail
      go_ret
      exact ⟨ret_int HVV.out.symm, HB3.out⟩
end Go.Proofs.YtjcdifchcmldfaaGreatDoor
