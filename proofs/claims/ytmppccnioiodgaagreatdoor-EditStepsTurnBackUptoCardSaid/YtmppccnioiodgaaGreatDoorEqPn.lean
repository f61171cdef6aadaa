/- The contract of slices.Equal at []api.Point, where both read alike. -/
import Derived.Test.YtmppccnioiodgaaGreatDoorEdtZ
import Derived.Test.YtmppccnioiodgaaGreatDoorProg
namespace Go.Proofs.YtmppccnioiodgaaGreatDoor
open Go.RowKit Go.Dw

theorem neqPn (a : Int) (s t : ByteArray) (w : World) : Sem.run Tryz.prog (binOp .neq 56 (.agg #[.int .i64 a, .string s, .string t]) (.agg #[.int .i64 a, .string s, .string t])) w = .ok (.bool false) w := by
  go_simp
set_option maxHeartbeats 400000 in
theorem equalPn_any (A B : Option Addr) (c d : Nat) (xs : List Pnt) (w : World) (ha : Rd w A (xs.flatMap Pnt.cs)) (hb : Rd w B (xs.flatMap Pnt.cs)) (hn : xs.length ≤ 9223372036854775807) :
    Calls Tryz.prog 17 #[.slice A xs.length c, .slice B xs.length d] w fun e w' => e = .returned (.bool true) ∧ ∃ n, w' = w.drewN n := by
  have hl1 : ((xs.length : Int) != (xs.length : Int)) = false := by simp
  go_enter Tryz.func17, Tryz.ntmps17
  go_wp2
  go_loopw [13] (fun i wr => ∃ k : Nat, k ≤ xs.length ∧ i = .int .i64 k ∧ ∃ n, wr = w.drewN n) (fun i _ => xs.length - (intOf i).toNat)
  case atStart => exact ⟨0, Nat.zero_le _, rfl, 0, rfl⟩
  case round =>
    obtain ⟨k, hk, rfl, n, rfl⟩ := hrel
    by_cases hlt : k < xs.length
    · obtain ⟨b, off, rfl, hbb, hc⟩ := pnt_at ha (by omega)
      obtain ⟨b2, off2, rfl, hbb2, hc2⟩ := pnt_at hb (by omega)
      obtain ⟨c0, c1, c2⟩ := hc k hlt
      obtain ⟨d0, d1, d2⟩ := hc2 k hlt
      clear hc hc2 ha hb
      generalize xs[k] = h at *
      obtain ⟨pn, po, pb⟩ := h
      simp only at c0 c1 c2 d0 d1 d2
      have hne := neqPn pn po pb
      go_wp2
      go_quiet (fail)
      go_wp2
      go_roundw
      case rel => exact ⟨k + 1, by omega, by go_num, _, rfl⟩
      case measure => simp [intOf]; omega
    · go_wp2
      go_ret
      exact ⟨rfl, _, rfl⟩
end Go.Proofs.YtmppccnioiodgaaGreatDoor
