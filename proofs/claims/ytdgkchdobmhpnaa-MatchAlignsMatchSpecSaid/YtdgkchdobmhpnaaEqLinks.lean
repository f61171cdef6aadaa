/- The contract of slices.Equal at []api.Link. -/
import Derived.Test.YtdgkchdobmhpnaaEqInts
namespace Go.Proofs.Ytdgkchdobmhpnaa
open Go.RowKit Go.Dw

theorem neqLink (a b c d : Int) (w : World) : Sem.run Try.prog (binOp .neq 52 (.agg #[.int .i64 a, .int .i64 b]) (.agg #[.int .i64 c, .int .i64 d])) w = .ok (.bool (!decide ((a, b) = (c, d)))) w := by
  go_simp
  by_cases h1 : a = c <;> by_cases h2 : b = d <;> simp [h1, h2]

set_option maxHeartbeats 400000 in
theorem equalLink_any (A B : Option Addr) (c d : Nat) (xs ys : List (Int × Int)) (w : World) (ha : Rd w A (pc xs)) (hb : Rd w B (pc ys)) (hn : xs.length ≤ 9223372036854775807) :
    Calls Try.prog 27 #[.slice A xs.length c, .slice B ys.length d] w fun e w' => e = .returned (.bool (decide (xs = ys))) ∧ ∃ n, w' = w.drewN n := by
  by_cases hl : xs.length = ys.length
  · have hl1 : ((xs.length : Int) != (ys.length : Int)) = false := by simp; omega
    have HL := Lib.hid hl
    have hle : xs.length ≤ ys.length := by omega
    clear hl
    go_enter Try.func27, Try.ntmps27
    go_wp2
    go_loopw [13] (fun i wr => ∃ k : Nat, k ≤ xs.length ∧ i = .int .i64 k ∧ Hid (xs.take k = ys.take k) ∧ ∃ n, wr = w.drewN n) (fun i _ => xs.length - (intOf i).toNat)
    case atStart => exact ⟨0, Nat.zero_le _, rfl, by simp [Hid], 0, rfl⟩
    case round =>
      obtain ⟨k, hk, rfl, hall, n, rfl⟩ := hrel
      by_cases hlt : k < xs.length
      · obtain ⟨b, off, rfl, hbb, hc⟩ := ha.at_ (by rw [pc_length]; omega)
        obtain ⟨b2, off2, rfl, hbb2, hc2⟩ := hb.at_ (by rw [pc_length]; omega)
        have hlt2 : k < ys.length := by omega
        have c1 := hc _ _ (pc_at xs k hlt).1
        have c2 := hc _ _ (pc_at xs k hlt).2
        have c3 := hc2 _ _ (pc_at ys k hlt2).1
        have c4 := hc2 _ _ (pc_at ys k hlt2).2
        rw [← Nat.add_assoc] at c2 c4
        have Hst := Lib.hid (@take_step _ xs ys k hlt hlt2)
        have Hne := Lib.hid (@ne_of_getElem _ xs ys k hlt hlt2)
        clear hc hc2 ha hb
        generalize xs[k] = p at *
        generalize ys[k] = q at *
        obtain ⟨p1, p2⟩ := p
        obtain ⟨q1, q2⟩ := q
        simp only at c1 c2 c3 c4
        have hne := neqLink p1 p2 q1 q2
        by_cases he : (p1, p2) = (q1, q2)
        · rw [show decide ((p1, p2) = (q1, q2)) = true by simpa using he] at hne
          have He := Lib.hid he
          clear he
          go_wp2
          go_quiet (fail)
          go_wp2
          go_roundw
          case rel => exact ⟨k + 1, by omega, by go_num, Hst.out hall.out He.out, _, rfl⟩
          case measure => simp [intOf]; omega
        · rw [show decide ((p1, p2) = (q1, q2)) = false by simpa using he] at hne
          have He := Lib.hid he
          clear he
          go_wp2
          go_quiet (fail)
          go_wp2
          go_ret
          exact ⟨ret_bool (by have := Hne.out He.out; simp [this]), _, World.drewN_drewN _ _ _⟩
      · go_wp2
        go_ret
        exact ⟨ret_bool (by have h1 := hall.out; have : k = xs.length := by omega
                            subst this; have := eq_of_take HL.out h1; simp [this]), _, rfl⟩
  · have hl1 : ((xs.length : Int) != (ys.length : Int)) = true := by simp; omega
    have HL := Lib.hid hl
    clear hl
    go_enter Try.func27, Try.ntmps27
    go_wp2
    go_ret
    exact ⟨ret_bool (by have : xs ≠ ys := fun e => HL.out (by rw [e]); simp [this]), 0, rfl⟩
end Go.Proofs.Ytdgkchdobmhpnaa
