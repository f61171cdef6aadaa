/- The contract of slices.Equal at []api.Span, where both read alike. -/
import Derived.Test.YtlmgdofhmgpljaaDec
import Derived.Test.YtlmgdofhmgpljaaProg
namespace Go.Proofs.Ytlmgdofhmgpljaa
open Go.RowKit Go.Dw

theorem neqSp (p0 p1 : Int) (w : World) : Sem.run Try.prog (binOp .neq 35 (.agg #[.int .i64 p0, .int .i64 p1]) (.agg #[.int .i64 p0, .int .i64 p1])) w = .ok (.bool false) w := by
  go_simp
set_option maxHeartbeats 400000 in
theorem sameSp_any {α : Type} (enc : α → List Value) (f : α → Fin 2 → Int) (he : ∀ x, enc x = [.int .i64 (f x 0), .int .i64 (f x 1)]) (A B : Option Addr) (c d : Nat) (xs : List α) (w : World) (ha : Rd w A (xs.flatMap enc)) (hb : Rd w B (xs.flatMap enc)) (hn : xs.length ≤ 9223372036854775807) :
    Calls Try.prog 11 #[.slice A xs.length c, .slice B xs.length d] w fun e w' => e = .returned (.bool true) ∧ ∃ n, w' = w.drewN n := by
  have hk : ∀ x, (enc x).length = 2 := fun x => by rw [he]; rfl
  have hl1 : ((xs.length : Int) != (xs.length : Int)) = false := by simp
  have HE := Lib.hid he
  have HK := Lib.hid hk
  clear he hk
  go_enter Try.func11, Try.ntmps11
  go_wp2
  go_loopw [13] (fun i wr => ∃ k : Nat, k ≤ xs.length ∧ i = .int .i64 k ∧ ∃ n, wr = w.drewN n) (fun i _ => xs.length - (intOf i).toNat)
  case atStart => exact ⟨0, Nat.zero_le _, rfl, 0, rfl⟩
  case round =>
    obtain ⟨k, hk, rfl, n, rfl⟩ := hrel
    by_cases hlt : k < xs.length
    · obtain ⟨b, off, rfl, hbb, hc⟩ := ha.at_ (by rw [flat_len enc 2 HK.out]; omega)
      obtain ⟨b2, off2, rfl, hbb2, hc2⟩ := hb.at_ (by rw [flat_len enc 2 HK.out]; omega)
      have c0 := hc (k * 2) (.int .i64 (f xs[k] 0)) (by rw [show k * 2 = k * 2 + 0 by omega, flat_get enc 2 HK.out xs k 0 hlt (by omega), HE.out]; rfl)
      have d0 := hc2 (k * 2) (.int .i64 (f xs[k] 0)) (by rw [show k * 2 = k * 2 + 0 by omega, flat_get enc 2 HK.out xs k 0 hlt (by omega), HE.out]; rfl)
      have c1 := hc (k * 2 + 1) (.int .i64 (f xs[k] 1)) (by rw [show k * 2 + 1 = k * 2 + 1 by omega, flat_get enc 2 HK.out xs k 1 hlt (by omega), HE.out]; rfl)
      have d1 := hc2 (k * 2 + 1) (.int .i64 (f xs[k] 1)) (by rw [show k * 2 + 1 = k * 2 + 1 by omega, flat_get enc 2 HK.out xs k 1 hlt (by omega), HE.out]; rfl)
      rw [← Nat.add_assoc] at c1 d1
      clear hc hc2 ha hb
      generalize f xs[k] 0 = p0 at *
      generalize f xs[k] 1 = p1 at *
      have hne := neqSp p0 p1
      go_wp2
      go_quiet (fail)
      go_wp2
      go_roundw
      case rel => exact ⟨k + 1, by omega, by go_num, _, rfl⟩
      case measure => simp [intOf]; omega
    · go_wp2
      go_ret
      exact ⟨rfl, _, rfl⟩
end Go.Proofs.Ytlmgdofhmgpljaa
