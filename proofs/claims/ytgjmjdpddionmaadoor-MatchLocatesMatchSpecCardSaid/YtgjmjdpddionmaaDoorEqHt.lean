/- The contract of slices.Equal at []api.Hit, where both read alike. -/
import Derived.Test.YtgjmjdpddionmaaDoorLocA
import Derived.Test.YtgjmjdpddionmaaDoorDec
namespace Go.Proofs.YtgjmjdpddionmaaDoor
open Go.RowKit Go.Dw

theorem neqHt (s : ByteArray) (a b c : Int) (w : World) : Sem.run Tryd.prog (binOp .neq 31 (.agg #[.string s, .int .i64 a, .int .i64 b, .int .i64 c]) (.agg #[.string s, .int .i64 a, .int .i64 b, .int .i64 c])) w = .ok (.bool false) w := by
  go_simp
set_option maxHeartbeats 400000 in
theorem sameHt_any (A B : Option Addr) (c d : Nat) (xs : List Ht) (w : World) (ha : Rd w A (xs.flatMap Ht.cs)) (hb : Rd w B (xs.flatMap Ht.cs)) (hn : xs.length ≤ 9223372036854775807) :
    Calls Tryd.prog 8 #[.slice A xs.length c, .slice B xs.length d] w fun e w' => e = .returned (.bool true) ∧ ∃ n, w' = w.drewN n := by
  have hl1 : ((xs.length : Int) != (xs.length : Int)) = false := by simp
  go_enter Tryd.func8, Tryd.ntmps8
  go_wp2
  go_loopw [13] (fun i wr => ∃ k : Nat, k ≤ xs.length ∧ i = .int .i64 k ∧ ∃ n, wr = w.drewN n) (fun i _ => xs.length - (intOf i).toNat)
  case atStart => exact ⟨0, Nat.zero_le _, rfl, 0, rfl⟩
  case round =>
    obtain ⟨k, hk, rfl, n, rfl⟩ := hrel
    by_cases hlt : k < xs.length
    · obtain ⟨b, off, rfl, hbb, hc⟩ := ha.at_ (by rw [flat_len Ht.cs 4 (fun _ => rfl)]; omega)
      obtain ⟨b2, off2, rfl, hbb2, hc2⟩ := hb.at_ (by rw [flat_len Ht.cs 4 (fun _ => rfl)]; omega)
      have hg : ∀ i, i < 4 → (xs.flatMap Ht.cs)[k * 4 + i]? = (xs[k].cs)[i]? := fun i hi => flat_get Ht.cs 4 (fun _ => rfl) xs k i hlt hi
      have c0 := hc (k * 4) (.string xs[k].n) (by have := hg 0 (by omega); rw [Nat.add_zero] at this; rw [this]; rfl)
      have c1 := hc (k * 4 + 1) (.int .i64 xs[k].o) (by rw [hg 1 (by omega)]; rfl)
      have c2 := hc (k * 4 + 2) (.int .i64 xs[k].b) (by rw [hg 2 (by omega)]; rfl)
      have c3 := hc (k * 4 + 3) (.int .i64 xs[k].c) (by rw [hg 3 (by omega)]; rfl)
      have d0 := hc2 (k * 4) (.string xs[k].n) (by have := hg 0 (by omega); rw [Nat.add_zero] at this; rw [this]; rfl)
      have d1 := hc2 (k * 4 + 1) (.int .i64 xs[k].o) (by rw [hg 1 (by omega)]; rfl)
      have d2 := hc2 (k * 4 + 2) (.int .i64 xs[k].b) (by rw [hg 2 (by omega)]; rfl)
      have d3 := hc2 (k * 4 + 3) (.int .i64 xs[k].c) (by rw [hg 3 (by omega)]; rfl)
      rw [← Nat.add_assoc] at c1 c2 c3 d1 d2 d3
      clear hc hc2 ha hb hg
      generalize xs[k] = h at *
      obtain ⟨pn, po, pb, pc⟩ := h
      simp only at c0 c1 c2 c3 d0 d1 d2 d3
      have hne := neqHt pn po pb pc
      go_wp2
      go_quiet (fail)
      go_wp2
      go_roundw
      case rel => exact ⟨k + 1, by omega, by go_num, _, rfl⟩
      case measure => simp [intOf]; omega
    · go_wp2
      go_ret
      exact ⟨rfl, _, rfl⟩
end Go.Proofs.YtgjmjdpddionmaaDoor
