/- The contract of slices.Equal at []api.Mistake, where both read alike. -/
import Derived.Test.YtibkohnoibjimaaDoorWroS
namespace Go.Proofs.YtibkohnoibjimaaDoor
open Go.RowKit Go.Dw

theorem neqM (a : Int) (s t : ByteArray) (w : World) : Sem.run Tryd.prog (binOp .neq 29 (.agg #[.int .i64 a, .string s, .string t]) (.agg #[.int .i64 a, .string s, .string t])) w = .ok (.bool false) w := by
  go_simp
set_option maxHeartbeats 400000 in
theorem sameM_any (A B : Option Addr) (c d : Nat) (xs : List Mis) (w : World) (ha : Rd w A (xs.flatMap Mis.cs)) (hb : Rd w B (xs.flatMap Mis.cs)) (hn : xs.length ≤ 9223372036854775807) :
    Calls Tryd.prog 6 #[.slice A xs.length c, .slice B xs.length d] w fun e w' => e = .returned (.bool true) ∧ ∃ n, w' = w.drewN n := by
  have hl1 : ((xs.length : Int) != (xs.length : Int)) = false := by simp
  go_enter Tryd.func6, Tryd.ntmps6
  go_wp2
  go_loopw [13] (fun i wr => ∃ k : Nat, k ≤ xs.length ∧ i = .int .i64 k ∧ ∃ n, wr = w.drewN n) (fun i _ => xs.length - (intOf i).toNat)
  case atStart => exact ⟨0, Nat.zero_le _, rfl, 0, rfl⟩
  case round =>
    obtain ⟨k, hk, rfl, n, rfl⟩ := hrel
    by_cases hlt : k < xs.length
    · obtain ⟨b, off, rfl, hbb, hc⟩ := ha.at_ (by rw [flat_len Mis.cs 3 (fun _ => rfl)]; omega)
      obtain ⟨b2, off2, rfl, hbb2, hc2⟩ := hb.at_ (by rw [flat_len Mis.cs 3 (fun _ => rfl)]; omega)
      have hg : ∀ i, i < 3 → (xs.flatMap Mis.cs)[k * 3 + i]? = (xs[k].cs)[i]? := fun i hi => flat_get Mis.cs 3 (fun _ => rfl) xs k i hlt hi
      have c0 := hc (k * 3) (.int .i64 xs[k].k) (by have := hg 0 (by omega); rw [Nat.add_zero] at this; rw [this]; rfl)
      have c1 := hc (k * 3 + 1) (.string xs[k].r) (by rw [hg 1 (by omega)]; rfl)
      have c2 := hc (k * 3 + 2) (.string xs[k].p) (by rw [hg 2 (by omega)]; rfl)
      have d0 := hc2 (k * 3) (.int .i64 xs[k].k) (by have := hg 0 (by omega); rw [Nat.add_zero] at this; rw [this]; rfl)
      have d1 := hc2 (k * 3 + 1) (.string xs[k].r) (by rw [hg 1 (by omega)]; rfl)
      have d2 := hc2 (k * 3 + 2) (.string xs[k].p) (by rw [hg 2 (by omega)]; rfl)
      rw [← Nat.add_assoc] at c1 c2 d1 d2
      clear hc hc2 ha hb hg
      generalize xs[k] = h at *
      obtain ⟨pk, pr, pp⟩ := h
      simp only at c0 c1 c2 d0 d1 d2
      have hne := neqM pk pr pp
      go_wp2
      go_quiet (fail)
      go_wp2
      go_roundw
      case rel => exact ⟨k + 1, by omega, by go_num, _, rfl⟩
      case measure => simp [intOf]; omega
    · go_wp2
      go_ret
      exact ⟨rfl, _, rfl⟩
end Go.Proofs.YtibkohnoibjimaaDoor
