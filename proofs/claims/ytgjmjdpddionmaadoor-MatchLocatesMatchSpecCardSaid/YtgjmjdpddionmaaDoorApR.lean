/- The contract of the reference's apart. -/
import Derived.Test.YtgjmjdpddionmaaDoorApart
import Derived.Test.YtgjmjdpddionmaaDoorRBits
namespace Go.Dw
/-- how many of the first k places are compared -/
def apK (la lb : Nat) (d : Int) (k : Nat) : Nat := min (k - apS d) (apN la lb d)
theorem apS_int (d : Int) : (apS d : Int) = max 0 (-d) := by unfold apS; omega
theorem apN_int (la lb : Nat) (d : Int) : (apN la lb d : Int) = max 0 (min (lb : Int) ((la : Int) - d) - max 0 (-d)) := by unfold apN; omega
theorem apK_out {la lb k : Nat} {d : Int} (hk : k < lb) (h : ¬ (0 ≤ (k : Int) + d ∧ (k : Int) + d < la)) : apK la lb d (k + 1) = apK la lb d k := by
  have h1 := apS_int d
  have h2 := apN_int la lb d
  unfold apK
  omega
theorem apK_in {la lb k : Nat} {d : Int} (hk : k < lb) (h0 : 0 ≤ (k : Int) + d) (h3 : (k : Int) + d < la) : apK la lb d (k + 1) = apK la lb d k + 1 ∧ apS d + apK la lb d k = k := by
  have h1 := apS_int d
  have h2 := apN_int la lb d
  unfold apK
  omega
theorem apK_all (la lb : Nat) (d : Int) : apK la lb d lb = apN la lb d := by
  have h1 := apS_int d
  have h2 := apN_int la lb d
  unfold apK
  omega
theorem apK_le (la lb : Nat) (d : Int) (k : Nat) : apK la lb d k ≤ k := by
  unfold apK; omega
end Go.Dw
namespace Go.Proofs.YtgjmjdpddionmaaDoor
open Go.RowKit Go.Dw
attribute [local go_sem ↓] Go.wp_at_zero Go.wp_at_succ

set_option maxHeartbeats 1000000 in
theorem rapart_any (A B : Option Addr) (ca cb : Nat) (xs ys : List Int) (d : Int) (w : World) (ha : Rd w A (ic xs)) (hb : Rd w B (ic ys)) (hxs : xs.all okM = true) (hys : ys.all okM = true) (hxl : xs.length ≤ 500) (hyl : ys.length ≤ 500) (hd1 : -1000 ≤ d) (hd2 : d ≤ 1000) :
    Calls Tryd.prog 38 #[.slice A xs.length ca, .slice B ys.length cb, .int .i64 d] w fun e w' => e = .returned (.tuple #[.int .i64 (apB xs ys d (apN xs.length ys.length d)), .int .i64 (8 * (apN xs.length ys.length d : Nat) : Int)]) ∧ ∃ n, w' = w.drewN n := by
  have HXS := Lib.hid hxs
  have HYS := Lib.hid hys
  have HRA := Lib.hid ha
  have HRB := Lib.hid hb
  clear hxs hys ha hb
  go_enter Tryd.func38, Tryd.ntmps38
  go_wp2
  go_loopw [8, 9, 14] (fun nv cv kv wr => ∃ k n : Nat, k ≤ ys.length ∧ n ≤ k ∧ kv = .int .i64 (k : Int) ∧ Hid (n = apK xs.length ys.length d k) ∧ nv = .int .i64 (apB xs ys d n) ∧ cv = .int .i64 (8 * (n : Int)) ∧ ∃ m, wr = w.drewN m) (fun _ _ kv _ => ys.length - (intOf kv).toNat)
  case atStart => exact ⟨0, 0, by omega, by omega, rfl, by show _ = _; unfold apK; omega, rfl, rfl, 0, rfl⟩
  case round =>
    obtain ⟨k, n, hk, hnk, rfl, HN, rfl, rfl, m, rfl⟩ := hrel
    by_cases hkl : k < ys.length
    case neg =>
      have HE : Hid (n = apN xs.length ys.length d) := by show _ = _; rw [HN.out, show k = ys.length by omega, apK_all]
      have hd4 : decide (k < ys.length) = false := by simpa using hkl
      go_wp2_with fail
      go_ret2
      exact ⟨by rw [← HE.out]; rfl, m, rfl⟩
    have hd4 : decide (k < ys.length) = true := by simpa using hkl
    have hw0 : IntKind.i64.wrap ((k : Int) + d) = (k : Int) + d := IntWalk.i64_in _ (by omega)
    have hw0' : wrap64 ((k : Int) + d) = (k : Int) + d := IntWalk.wrap64_in _ (by omega)
    have hle := apB_le xs ys d n
    by_cases h0 : 0 ≤ (k : Int) + d ∧ (k : Int) + d < xs.length
    case neg =>
      have HE : Hid (apK xs.length ys.length d (k + 1) = n) := by show _ = _; rw [apK_out hkl h0, ← HN.out]
      rcases (show (k : Int) + d < 0 ∨ (0 ≤ (k : Int) + d ∧ ¬ (k : Int) + d < xs.length) by omega) with h3 | h3
      · have hg0 : decide ((0 : Int) ≤ (k : Int) + d) = false := by simp; omega
        clear hw0 h0
        go_wp2_with fail
        go_roundw
        case rel => exact ⟨k + 1, n, by omega, by omega, by go_num, HE.out.symm, rfl, rfl, _, rfl⟩
        case measure => simp [intOf]; omega
      · obtain ⟨h3, h4⟩ := h3
        have hg0 : decide ((0 : Int) ≤ (k : Int) + d) = true := by simp; omega
        have hg1 : decide ((k : Int) + d < (xs.length : Int)) = false := by simp; omega
        clear hw0 h0
        go_wp2_with fail
        go_roundw
        case rel => exact ⟨k + 1, n, by omega, by omega, by go_num, HE.out.symm, rfl, rfl, _, rfl⟩
        case measure => simp [intOf]; omega
    obtain ⟨h0, h3⟩ := h0
    obtain ⟨hk1, hk2⟩ := apK_in hkl h0 h3
    rw [← HN.out] at hk1 hk2
    obtain ⟨i, hi⟩ := Int.eq_ofNat_of_zero_le h0
    have hzi : ((k : Int) + d).toNat = i := by omega
    have hil : i < xs.length := by omega
    have HST : Hid (apB xs ys d (n + 1) = apB xs ys d n + bd (xs.getD i 0) (ys.getD k 0)) := by
      show _ = _
      rw [apB, hk2, hzi]
    have HK1 := Lib.hid hk1
    obtain ⟨a, hae, ha2⟩ := mark_nat HXS.out hil
    obtain ⟨b, hbe, hb2⟩ := mark_nat HYS.out hkl
    have g1 : xs.getD i 0 = (a : Int) := by rw [List.getD_eq_getElem?_getD, List.getElem?_eq_getElem hil, Option.getD_some, hae]
    have g2 : ys.getD k 0 = (b : Int) := by rw [List.getD_eq_getElem?_getD, List.getElem?_eq_getElem hkl, Option.getD_some, hbe]
    rw [g1, g2] at HST
    obtain ⟨ba, oa, rfl, hba, hca⟩ := HRA.out.at_ (by simp [ic_length]; omega)
    obtain ⟨bb, ob, rfl, hbb, hcb⟩ := HRB.out.at_ (by simp [ic_length]; omega)
    have c1 := hca i _ (ic_at xs i hil)
    have c2 := hcb k _ (ic_at ys k hkl)
    rw [hae] at c1
    rw [hbe] at c2
    have HBT := Lib.hid (fun W => rbits_any a b W ha2 hb2)
    have hbd := bd_rng (a : Int) (b : Int)
    obtain ⟨hbd1, hbd2⟩ := hbd
    generalize bd (a : Int) (b : Int) = v at *
    have hw1 : IntKind.i64.wrap (apB xs ys d n + v) = apB xs ys d n + v := IntWalk.i64_in _ (by omega)
    have hw2 : IntKind.i64.wrap (8 * (n : Int) + 8) = 8 * (n : Int) + 8 := IntWalk.i64_in _ (by omega)
    have hg0 : decide ((0 : Int) ≤ (k : Int) + d) = true := by simpa using h0
    have hg1 : decide ((k : Int) + d < (xs.length : Int)) = true := by simpa using h3
    have i2 : (k : Int) < (ys.length : Int) := by omega
    have i4 : (0 : Int) ≤ (k : Int) := by omega
    clear hca hcb hae hbe g1 g2 hi hk1 hk2
    go_wp2_with fail
    go_region_held3 (fun W => W.cell? ⟨ba, oa + i, none⟩ = some (.int .i64 (a : Int)) ∧ W.cell? ⟨bb, ob + k, none⟩ = some (.int .i64 (b : Int)))
      (first | assumption | go_keep)
      (first | (go_at_call 55; refine (HBT.out _).mono ?_; rintro e w' ⟨rfl, rfl⟩))
    all_goals
      clear hw0 hw0' hzi
      go_wp2
      go_roundw
      case rel => exact ⟨k + 1, n + 1, by omega, by omega, by go_num, HK1.out.symm, by rw [HST.out], by congr 1, _, rfl⟩
      case measure => simp [intOf]; omega
/-- what Apart answers -/
def apF (xs ys : List Int) (bo d : Int) : Int × Int × Int :=
  if bo ≠ 0 then (0, 0, bo) else if -500 ≤ d ∧ d ≤ 500 then if apN xs.length ys.length d = 0 then (0, 0, 9) else (apB xs ys d (apN xs.length ys.length d), 8 * (apN xs.length ys.length d : Nat), 0) else (0, 0, 1)
end Go.Proofs.YtgjmjdpddionmaaDoor
