/- The contract of check. -/
import Derived.Test.YtgjmjdpddionmaaDoorWithin
import Derived.Test.YtgjmjdpddionmaaDoorMrkD
namespace Go.Proofs.YtgjmjdpddionmaaDoor
open Go.RowKit Go.Dw

set_option maxHeartbeats 400000 in
theorem check_any (A : Option Addr) (c : Nat) (xs : List Int) (w : World) (h : Rd w A (ic xs)) (hn : xs.length ≤ 9223372036854775807) :
    Calls Tryd.prog 21 #[.slice A xs.length c] w fun e w' => e = .returned (.int .i64 (chk xs)) ∧ w = w' := by
  by_cases hl : 500 < xs.length
  · go_enter Tryd.func21, Tryd.ntmps21
    go_wp2
    go_ret
    exact ⟨ret_int (chk_big hl).symm, rfl⟩
  · go_enter Tryd.func21, Tryd.ntmps21
    go_wp2
    go_loop [4, 10] (fun _ i => ∃ k : Nat, k ≤ xs.length ∧ i = .int .i64 k ∧ Hid ((xs.take k).all okM = true)) (fun _ i => xs.length - (intOf i).toNat)
    case atStart => exact ⟨0, Nat.zero_le _, rfl, by simp [Hid]⟩
    case round =>
      obtain ⟨k, hk, rfl, hall⟩ := hrel
      by_cases hlt : k < xs.length
      · obtain ⟨b, off, rfl, hb, hc⟩ := h.at_ (by simp [ic_length]; omega)
        have hck := hc k _ (ic_at xs k hlt)
        clear hc h
        have hsn : Hid ((xs.take (k + 1)).all okM = ((xs.take k).all okM && okM xs[k])) := all_take_succ _ _ _ hlt
        cases hv : okM xs[k] with
        | true =>
          have hb := okM_t hv
          have Hv := Lib.hid hv
          clear hv
          go_wp2_with (go_at_call 37; refine (within_t _ _ _ _ hb).mono ?_; rintro e w' ⟨rfl, rfl⟩)
          go_round
          case rel => exact ⟨k + 1, by omega, by go_num, by show _ = _; rw [hsn.out, hall.out, Hv.out]; rfl⟩
          case measure => simp [intOf]; omega
        | false =>
          have hb := okM_f hv
          have Hv := Lib.hid hv
          clear hv
          go_wp2_with (go_at_call 37; refine (within_f _ _ _ _ hb).mono ?_; rintro e w' ⟨rfl, rfl⟩)
          go_ret
          exact ⟨ret_int (chk_bad hl hlt Hv.out).symm, rfl⟩
      · go_wp2
        go_ret
        have : xs.take k = xs := List.take_of_length_le (by omega)
        exact ⟨ret_int (by have h3 := hall.out; rw [this] at h3; exact (chk_ok hl h3).symm), rfl⟩
end Go.Proofs.YtgjmjdpddionmaaDoor
