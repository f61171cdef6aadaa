/- The contract of slices.Equal at []string. -/
import Derived.Test.YtnlnaglaipjlfaaGreatDoorCrP
import Derived.RegionTactic
namespace Go.Proofs.YtnlnaglaipjlfaaGreatDoor
open Go.RowKit Go.Dw

theorem seq_t {a b : ByteArray} (h : a = b) : (a.toList == b.toList) = true := by rw [h]; simp
theorem seq_f {a b : ByteArray} (h : ¬ a = b) : (a.toList == b.toList) = false := by
  rw [ByteArray.toList_eq, ByteArray.toList_eq, beq_eq_false_iff_ne]; exact fun e => h (ba_ext e)
theorem runNeS_t {a b : ByteArray} (h : ¬ a = b) (w : World) : Sem.run Tryz.prog (binOp .neq 9 (.string a) (.string b)) w = .ok (.bool true) w := by
  have h1 := seq_f h
  clear h
  go_simp
theorem runNeS_f {a b : ByteArray} (h : a = b) (w : World) : Sem.run Tryz.prog (binOp .neq 9 (.string a) (.string b)) w = .ok (.bool false) w := by
  subst h
  go_simp
theorem eq_takeS {xs ys : List ByteArray} (hl : xs.length = ys.length) (h : xs.take xs.length = ys.take xs.length) : xs = ys := by
  rw [List.take_length, hl, List.take_length] at h; exact h
theorem take_stepS {xs ys : List ByteArray} {k : Nat} (h1 : k < xs.length) (h2 : k < ys.length) (h : xs.take k = ys.take k) (he : xs[k] = ys[k]) : xs.take (k + 1) = ys.take (k + 1) := by
  rw [List.take_succ_eq_append_getElem h1, List.take_succ_eq_append_getElem h2, h, he]
theorem ne_getS {xs ys : List ByteArray} {k : Nat} (h1 : k < xs.length) (h2 : k < ys.length) (he : ¬ xs[k] = ys[k]) : xs ≠ ys := by
  rintro rfl; exact he rfl
set_option maxHeartbeats 400000 in
theorem equalS_any (A B : Option Addr) (c d : Nat) (xs ys : List ByteArray) (w : World) (ha : Rd w A (sb xs)) (hb : Rd w B (sb ys)) (hn : xs.length ≤ 9223372036854775807) :
    Calls Tryz.prog 31 #[.slice A xs.length c, .slice B ys.length d] w fun e w' => e = .returned (.bool (decide (xs = ys))) ∧ ∃ n, w' = w.drewN n := by
  by_cases hl : xs.length = ys.length
  · have hl1 : ((xs.length : Int) != (ys.length : Int)) = false := by simp; omega
    have HL := Lib.hid hl
    have hle : xs.length ≤ ys.length := by omega
    clear hl
    go_enter Tryz.func31, Tryz.ntmps31
    go_wp2
    go_loopw [13] (fun i wr => ∃ k : Nat, k ≤ xs.length ∧ i = .int .i64 k ∧ Hid (xs.take k = ys.take k) ∧ ∃ n, wr = w.drewN n) (fun i _ => xs.length - (intOf i).toNat)
    case atStart => exact ⟨0, Nat.zero_le _, rfl, by simp [Hid], 0, rfl⟩
    case round =>
      obtain ⟨k, hk, rfl, hall, n, rfl⟩ := hrel
      by_cases hlt : k < xs.length
      · obtain ⟨b, off, rfl, hbb, hc⟩ := ha.at_ (by rw [sb_len]; omega)
        obtain ⟨b2, off2, rfl, hbb2, hc2⟩ := hb.at_ (by rw [sb_len]; omega)
        have hck := hc k _ (sb_at xs k hlt)
        have hck2 := hc2 k _ (sb_at ys k (by omega))
        have hlt2 : k < ys.length := by omega
        have Hst := Lib.hid (@take_stepS xs ys k hlt hlt2)
        have Hne := Lib.hid (@ne_getS xs ys k hlt hlt2)
        clear hc hc2 ha hb
        generalize xs[k] = x1 at *
        generalize ys[k] = x2 at *
        by_cases he : x1 = x2
        · have He := Lib.hid he
          have he1 := seq_t he
          have he2 : (x1.toList != x2.toList) = false := by rw [bne, he1]; rfl
          clear he
          go_wp2
          go_quiet (fail)
          go_wp2
          go_roundw
          case rel => exact ⟨k + 1, by omega, by go_num, Hst.out hall.out He.out, _, rfl⟩
          case measure => simp [intOf]; omega
        · have He := Lib.hid he
          have he1 := seq_f he
          have he2 : (x1.toList != x2.toList) = true := by rw [bne, he1]; rfl
          clear he
          go_wp2
          go_quiet (fail)
          go_wp2
          go_ret
          exact ⟨ret_bool (by have := Hne.out He.out; simp [this]), _, World.drewN_drewN _ _ _⟩
      · go_wp2
        go_ret
        exact ⟨ret_bool (by have h1 := hall.out; have : k = xs.length := by omega
                            subst this; have := eq_takeS HL.out h1; simp [this]), _, rfl⟩
  · have hl1 : ((xs.length : Int) != (ys.length : Int)) = true := by simp; omega
    have HL := Lib.hid hl
    clear hl
    go_enter Tryz.func31, Tryz.ntmps31
    go_wp2
    go_ret
    exact ⟨ret_bool (by have : xs ≠ ys := fun e => HL.out (by rw [e]); simp [this]), 0, rfl⟩
end Go.Proofs.YtnlnaglaipjlfaaGreatDoor
