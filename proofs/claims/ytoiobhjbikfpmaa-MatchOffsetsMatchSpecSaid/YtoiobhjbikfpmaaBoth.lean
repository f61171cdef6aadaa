/- The contract of the reference's both. -/
import Derived.Test.YtoiobhjbikfpmaaMatchA
namespace Go.Proofs.Ytoiobhjbikfpmaa
open Go.RowKit Go.Dw

def bothF (a b : List Int) : Int := if chk a ≠ 0 then chk a else chk b
theorem rboth_any (Aa Ab : Option Addr) (ca cb : Nat) (a b : List Int) (w : World) (ha : Rd w Aa (ic a)) (hb : Rd w Ab (ic b)) (hna : a.length ≤ 9223372036854775807) (hnb : b.length ≤ 9223372036854775807) :
    Calls Try.prog 24 #[.slice Aa a.length ca, .slice Ab b.length cb] w fun e w' => e = .returned (.int .i64 (bothF a b)) ∧ w = w' := by
  have HA := Lib.hid (check_any Aa ca a w ha hna)
  have HB := Lib.hid (check_any Ab cb b w hb hnb)
  clear ha hb
  by_cases hz : chk a = 0
  · have HE : Hid (bothF a b = chk b) := by show _ = _; unfold bothF; rw [if_neg (fun h => h hz)]
    rw [hz] at HA
    clear hz
    go_enter Try.func24, Try.ntmps24
    go_wp2_with fail
    refine HA.out.mono ?_
    rintro e w' ⟨rfl, rfl⟩
    go_wp2_with fail
    refine HB.out.mono ?_
    rintro e w' ⟨rfl, rfl⟩
    go_wp2_with fail
    go_ret
    exact ⟨ret_int HE.out.symm, rfl⟩
  · have HE : Hid (bothF a b = chk a) := by show _ = _; unfold bothF; rw [if_pos hz]
    have hzb : (chk a != 0) = true := by simpa using hz
    clear hz
    go_enter Try.func24, Try.ntmps24
    go_wp2_with fail
    refine HA.out.mono ?_
    rintro e w' ⟨rfl, rfl⟩
    go_wp2_with fail
    go_ret
    exact ⟨ret_int HE.out.symm, rfl⟩
end Go.Proofs.Ytoiobhjbikfpmaa
