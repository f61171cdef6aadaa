/- The contracts of Apart, the program's and the reference's. -/
import Derived.Test.YtoiobhjbikfpmaaApR
import Derived.Test.YtoiobhjbikfpmaaVotB
namespace Go.Proofs.Ytoiobhjbikfpmaa
open Go.RowKit Go.Dw
attribute [local go_sem ↓] Go.wp_at_zero Go.wp_at_succ

set_option maxHeartbeats 1000000 in
theorem Apart_any (Aa Ab : Option Addr) (ca cb : Nat) (xs ys : List Int) (d : Int) (w : World) (ha : Rd w Aa (ic xs)) (hb : Rd w Ab (ic ys)) (hna : xs.length ≤ 9223372036854775807) (hnb : ys.length ≤ 9223372036854775807) (r : Int × Int × Int) (hr : r = apF xs ys (bothF xs ys) d) :
    Calls Try.prog 9 #[.slice Aa xs.length ca, .slice Ab ys.length cb, .int .i64 d] w fun e w' => e = .returned (.tuple #[.int .i64 r.1, .int .i64 r.2.1, .int .i64 r.2.2]) ∧ Below w.heap.size w w' := by
  have HCK := Lib.hid (checkMarks2 Aa Ab ca cb xs ys w ha hb hna hnb)
  have hbx : Below w.heap.size w (w.alloc (.cells #[.slice Aa xs.length ca, .slice Ab ys.length cb] 22)) := (Below.refl _ _).alloc (Nat.le_refl _) _
  have HRA := Lib.hid (ha.below hbx)
  have HRB := Lib.hid (hb.below hbx)
  have HBX := Lib.hid hbx
  have HR := Lib.hid hr
  clear ha hb hbx hr
  by_cases hz : bothF xs ys = 0
  case neg =>
    have hzb : (bothF xs ys != 0) = true := by simpa using hz
    have HR : Hid (r = (0, 0, bothF xs ys)) := by show _ = _; rw [HR.out]; unfold apF; rw [if_pos hz]
    clear hz
    go_enter Try.func9, Try.ntmps9
    go_wp2_with fail
    refine HCK.out.mono ?_
    rintro e w1 ⟨rfl, rfl⟩
    go_wp2_with fail
    go_ret3
    exact ⟨by rw [HR.out]; rfl, HBX.out⟩
  have hzb : (bothF xs ys != 0) = false := by simpa using hz
  obtain ⟨hza, hzb2⟩ := bothF_zero hz
  obtain ⟨hxl, hxs⟩ := chk_zero hza
  obtain ⟨hyl, hys⟩ := chk_zero hzb2
  have HRX : Hid (r = if -500 ≤ d ∧ d ≤ 500 then if apN xs.length ys.length d = 0 then (0, 0, 9) else (apB xs ys d (apN xs.length ys.length d), 8 * ((apN xs.length ys.length d : Nat) : Int), (0 : Int)) else (0, 0, 1)) := by show _ = _; rw [HR.out]; unfold apF; rw [if_neg (by simpa using hz)]
  clear hza hzb2 hz HR
  by_cases hle : -500 ≤ d ∧ d ≤ 500
  case neg =>
    have HR : Hid (r = (0, 0, 1)) := by show _ = _; rw [HRX.out, if_neg hle]
    rcases (show d < -500 ∨ (¬ d < -500 ∧ 500 < d) by omega) with h3 | h3
    all_goals
      clear hle hxs hys
      go_enter Try.func9, Try.ntmps9
      go_wp2_with fail
      refine HCK.out.mono ?_
      rintro e w1 ⟨rfl, rfl⟩
      go_wp2_with fail
      go_ret3
      exact ⟨by rw [HR.out]; rfl, HBX.out⟩
  have HR : Hid (r = if apN xs.length ys.length d = 0 then (0, 0, 9) else (apB xs ys d (apN xs.length ys.length d), 8 * ((apN xs.length ys.length d : Nat) : Int), (0 : Int))) := by show _ = _; rw [HRX.out, if_pos hle]
  obtain ⟨hle1, hle2⟩ := hle
  have HAP := Lib.hid (apart_any Aa Ab ca cb xs ys d _ HRA.out HRB.out hxs hys (by omega) (by omega) (by omega) (by omega))
  have hnl : apN xs.length ys.length d ≤ 500 := by have := apN_int xs.length ys.length d; omega
  generalize apB xs ys d (apN xs.length ys.length d) = bb at *
  generalize apN xs.length ys.length d = nn at *
  have h1 : ¬ d < -500 := by omega
  have h2 : ¬ 500 < d := by omega
  clear hxs hys HRX
  go_enter Try.func9, Try.ntmps9
  go_wp2_with fail
  refine HCK.out.mono ?_
  rintro e w1 ⟨rfl, rfl⟩
  go_wp2_with fail
  refine HAP.out.mono ?_
  rintro e w2 ⟨rfl, n, rfl⟩
  by_cases h0 : nn = 0
  · have HE : Hid (r = (0, 0, 9)) := by show _ = _; rw [HR.out, if_pos h0]
    subst h0
    go_wp2_with fail
    go_ret3
    exact ⟨by rw [HE.out]; rfl, below_drewN HBX.out n⟩
  · have HE : Hid (r = (bb, 8 * (nn : Int), 0)) := by show _ = _; rw [HR.out, if_neg h0]
    have hne : ((nn : Int) == 0) = false := by simpa using h0
    go_wp2_with fail
    go_ret3
    exact ⟨by rw [HE.out]; rfl, below_drewN HBX.out n⟩
set_option maxHeartbeats 1000000 in
theorem rApart_any (Aa Ab : Option Addr) (ca cb : Nat) (xs ys : List Int) (d : Int) (w : World) (ha : Rd w Aa (ic xs)) (hb : Rd w Ab (ic ys)) (hna : xs.length ≤ 9223372036854775807) (hnb : ys.length ≤ 9223372036854775807) (r : Int × Int × Int) (hr : r = apF xs ys (bothF xs ys) d) :
    Calls Try.prog 10 #[.slice Aa xs.length ca, .slice Ab ys.length cb, .int .i64 d] w fun e w' => e = .returned (.tuple #[.int .i64 r.1, .int .i64 r.2.1, .int .i64 r.2.2]) ∧ Below w.heap.size w w' := by
  have HCK := Lib.hid (rboth_any Aa Ab ca cb xs ys w ha hb hna hnb)
  have HRA := Lib.hid ha
  have HRB := Lib.hid hb
  have HR := Lib.hid hr
  clear ha hb hr
  by_cases hz : bothF xs ys = 0
  case neg =>
    have hzb : (bothF xs ys != 0) = true := by simpa using hz
    have HR : Hid (r = (0, 0, bothF xs ys)) := by show _ = _; rw [HR.out]; unfold apF; rw [if_pos hz]
    clear hz
    go_enter Try.func10, Try.ntmps10
    go_wp2_with fail
    refine HCK.out.mono ?_
    rintro e w1 ⟨rfl, rfl⟩
    go_wp2_with fail
    go_ret3
    exact ⟨by rw [HR.out]; rfl, Below.refl _ _⟩
  have hzb : (bothF xs ys != 0) = false := by simpa using hz
  obtain ⟨hza, hzb2⟩ := bothF_zero hz
  obtain ⟨hxl, hxs⟩ := chk_zero hza
  obtain ⟨hyl, hys⟩ := chk_zero hzb2
  have HRX : Hid (r = if -500 ≤ d ∧ d ≤ 500 then if apN xs.length ys.length d = 0 then (0, 0, 9) else (apB xs ys d (apN xs.length ys.length d), 8 * ((apN xs.length ys.length d : Nat) : Int), (0 : Int)) else (0, 0, 1)) := by show _ = _; rw [HR.out]; unfold apF; rw [if_neg (by simpa using hz)]
  clear hza hzb2 hz HR
  by_cases hle : -500 ≤ d ∧ d ≤ 500
  case neg =>
    have HR : Hid (r = (0, 0, 1)) := by show _ = _; rw [HRX.out, if_neg hle]
    have HW := Lib.hid (within_f d (-500) 500 w hle)
    clear hle hxs hys
    go_enter Try.func10, Try.ntmps10
    go_wp2_with fail
    refine HCK.out.mono ?_
    rintro e w1 ⟨rfl, rfl⟩
    go_wp2_with fail
    refine HW.out.mono ?_
    rintro e w1 ⟨rfl, rfl⟩
    go_wp2_with fail
    go_ret3
    exact ⟨by rw [HR.out]; rfl, Below.refl _ _⟩
  have HR : Hid (r = if apN xs.length ys.length d = 0 then (0, 0, 9) else (apB xs ys d (apN xs.length ys.length d), 8 * ((apN xs.length ys.length d : Nat) : Int), (0 : Int))) := by show _ = _; rw [HRX.out, if_pos hle]
  have HW := Lib.hid (within_t d (-500) 500 w hle)
  obtain ⟨hle1, hle2⟩ := hle
  have HAP := Lib.hid (rapart_any Aa Ab ca cb xs ys d _ HRA.out HRB.out hxs hys (by omega) (by omega) (by omega) (by omega))
  have hnl : apN xs.length ys.length d ≤ 500 := by have := apN_int xs.length ys.length d; omega
  generalize apB xs ys d (apN xs.length ys.length d) = bb at *
  generalize apN xs.length ys.length d = nn at *
  clear hxs hys HRX
  go_enter Try.func10, Try.ntmps10
  go_wp2_with fail
  refine HCK.out.mono ?_
  rintro e w1 ⟨rfl, rfl⟩
  go_wp2_with fail
  refine HW.out.mono ?_
  rintro e w1 ⟨rfl, rfl⟩
  go_wp2_with fail
  refine HAP.out.mono ?_
  rintro e w2 ⟨rfl, n, rfl⟩
  by_cases h0 : nn = 0
  · have HE : Hid (r = (0, 0, 9)) := by show _ = _; rw [HR.out, if_pos h0]
    subst h0
    go_wp2_with fail
    go_ret3
    exact ⟨by rw [HE.out]; rfl, below_drewN (Below.refl _ _) n⟩
  · have HE : Hid (r = (bb, 8 * (nn : Int), 0)) := by show _ = _; rw [HR.out, if_neg h0]
    have hne : ((8 * (nn : Int)) == 0) = false := by simp; omega
    go_wp2_with fail
    go_ret3
    exact ⟨by rw [HE.out]; rfl, below_drewN (Below.refl _ _) n⟩
end Go.Proofs.Ytoiobhjbikfpmaa
