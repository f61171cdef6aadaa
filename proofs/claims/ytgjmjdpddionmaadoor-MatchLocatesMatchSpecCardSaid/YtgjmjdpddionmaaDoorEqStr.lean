/- The contracts of slices.Equal at []string, where both read alike, and of the reference's SameGroups. -/
import Derived.Test.YtgjmjdpddionmaaDoorDblB
namespace Go.Proofs.YtgjmjdpddionmaaDoor
open Go.RowKit Go.Dw
attribute [local go_sem ↓] Go.wp_at_zero Go.wp_at_succ

theorem sc_at (l : List ByteArray) (k : Nat) (h : k < l.length) : (sc l)[k]? = some (.string l[k]) := by simp [sc, h]
theorem neqStr (s : ByteArray) (w : World) : Sem.run Tryd.prog (binOp .neq 9 (.string s) (.string s)) w = .ok (.bool false) w := by
  go_simp
set_option maxHeartbeats 400000 in
theorem sameStr_any (A B : Option Addr) (c d : Nat) (xs : List ByteArray) (w : World) (ha : Rd w A (sc xs)) (hb : Rd w B (sc xs)) (hn : xs.length ≤ 9223372036854775807) :
    Calls Tryd.prog 30 #[.slice A xs.length c, .slice B xs.length d] w fun e w' => e = .returned (.bool true) ∧ ∃ n, w' = w.drewN n := by
  have hl1 : ((xs.length : Int) != (xs.length : Int)) = false := by simp
  go_enter Tryd.func30, Tryd.ntmps30
  go_wp2
  go_loopw [13] (fun i wr => ∃ k : Nat, k ≤ xs.length ∧ i = .int .i64 k ∧ ∃ n, wr = w.drewN n) (fun i _ => xs.length - (intOf i).toNat)
  case atStart => exact ⟨0, Nat.zero_le _, rfl, 0, rfl⟩
  case round =>
    obtain ⟨k, hk, rfl, n, rfl⟩ := hrel
    by_cases hlt : k < xs.length
    · obtain ⟨b, off, rfl, hbb, hc⟩ := ha.at_ (by rw [sc_len]; omega)
      obtain ⟨b2, off2, rfl, hbb2, hc2⟩ := hb.at_ (by rw [sc_len]; omega)
      have c0 := hc k _ (sc_at xs k hlt)
      have d0 := hc2 k _ (sc_at xs k hlt)
      clear hc hc2 ha hb
      generalize xs[k] = p0 at *
      have hne := neqStr p0
      go_wp2
      go_quiet (fail)
      go_wp2
      go_roundw
      case rel => exact ⟨k + 1, by omega, by go_num, _, rfl⟩
      case measure => simp [intOf]; omega
    · go_wp2
      go_ret
      exact ⟨rfl, _, rfl⟩
/-- rows of rows of strings -/
def Grs (w : World) (A : Option Addr) (G : List Rw) (R : List (List ByteArray)) : Prop := Rd w A (G.map Rw.v) ∧ (∀ s ∈ G, Rd w s.a s.cs) ∧ G.map Rw.cs = R.map sc
theorem Grs.below {w w' : World} {A : Option Addr} {G : List Rw} {R : List (List ByteArray)} (h : Grs w A G R) (hb : Below w.heap.size w w') : Grs w' A G R :=
  ⟨h.1.below hb, fun s hs => (h.2.1 s hs).below hb, h.2.2⟩
theorem Grs.len {w : World} {A : Option Addr} {G : List Rw} {R : List (List ByteArray)} (h : Grs w A G R) : G.length = R.length := by
  have := congrArg List.length h.2.2; simpa using this
theorem Grs.at_ {w : World} {A : Option Addr} {G : List Rw} {R : List (List ByteArray)} (h : Grs w A G R) {k : Nat} (hk : k < R.length) :
    ∃ b off a c, A = some ⟨b, off, none⟩ ∧ b < w.heap.size ∧ w.cell? ⟨b, off + k, none⟩ = some (.slice a R[k].length c) ∧ Rd w a (sc R[k]) := by
  have hl := h.len
  obtain ⟨b, off, e, hb, hc⟩ := h.1.at_ (by simp; omega)
  have hkg : k < G.length := by omega
  have hcs : G[k].cs = sc R[k] := by
    have := congrArg (fun l => l[k]?) h.2.2
    simpa [hkg, hk] using this
  refine ⟨b, off, G[k].a, G[k].c, e, hb, ?_, ?_⟩
  · have := hc k G[k].v (by simp [hkg])
    rw [this]; unfold Rw.v; rw [hcs, sc_len]
  · rw [← hcs]; exact h.2.1 _ (List.getElem_mem hkg)
set_option maxHeartbeats 1000000 in
theorem sameGroups_any (A B : Option Addr) (c d : Nat) (G H : List Rw) (R : List (List ByteArray)) (w : World) (ha : Grs w A G R) (hb : Grs w B H R) (hn : R.length ≤ 9223372036854775807) (hn2 : ∀ l ∈ R, l.length ≤ 9223372036854775807) :
    Calls Tryd.prog 11 #[.slice A G.length c, .slice B H.length d] w fun e w' => e = .returned (.bool true) ∧ ∃ n, w' = w.drewN n := by
  rw [ha.len, hb.len]
  have HA := Lib.hid ha
  have HB := Lib.hid hb
  have HN2 := Lib.hid hn2
  have hl1 : ((R.length : Int) != (R.length : Int)) = false := by simp
  clear ha hb hn2
  go_enter Tryd.func11, Tryd.ntmps11
  go_wp2
  go_loopw [13] (fun i wr => ∃ k : Nat, k ≤ R.length ∧ i = .int .i64 k ∧ Hid (∃ n, wr = w.drewN n)) (fun i _ => R.length - (intOf i).toNat)
  case atStart => exact ⟨0, Nat.zero_le _, rfl, ⟨0, rfl⟩⟩
  case round =>
    obtain ⟨k, hk, rfl, HW⟩ := hrel
    have HBB : Hid (Below w.heap.size w wr) := by obtain ⟨n, hn⟩ := HW.out; show Below _ _ _; rw [hn]; exact below_drewN (Below.refl _ _) n
    have HNX : Hid (∀ m, ∃ n, wr.drewN m = w.drewN n) := fun m => by obtain ⟨n, hn⟩ := HW.out; exact ⟨n + m, by rw [hn, World.drewN_drewN]⟩
    by_cases hlt : k < R.length
    · obtain ⟨b, off, a1, cc1, rfl, hbb, hc, hr1⟩ := HA.out.at_ hlt
      obtain ⟨b2, off2, a2, cc2, rfl, hbb2, hc2, hr2⟩ := HB.out.at_ hlt
      have HSM := Lib.hid (fun (m : Nat) => sameStr_any a1 a2 cc1 cc2 R[k] (wr.drewN m) ((hr1.below HBB.out).below (below_drewN (Below.refl _ _) m)) ((hr2.below HBB.out).below (below_drewN (Below.refl _ _) m)) (HN2.out _ (List.getElem_mem hlt)))
      rw [← HBB.out.cell (by exact hbb)] at hc
      rw [← HBB.out.cell (by exact hbb2)] at hc2
      clear hr1 hr2 hbb hbb2
      generalize R[k] = l at *
      have j0 : (0 : Int) ≤ (k : Int) := by omega
      have j1 : (k : Int) < (R.length : Int) := by omega
      go_wp2_with fail
      go_quiet ((go_at_call 30; exact Calls.quiet_of (HSM.out _)))
      go_wp2
      go_roundw
      case rel => exact ⟨k + 1, by omega, by go_num, HNX.out _⟩
      case measure => simp [intOf]; omega
    · go_wp2
      go_ret
      exact ⟨rfl, HW.out⟩
end Go.Proofs.YtgjmjdpddionmaaDoor
