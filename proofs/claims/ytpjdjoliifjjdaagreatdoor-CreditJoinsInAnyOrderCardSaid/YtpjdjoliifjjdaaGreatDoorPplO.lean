/- The contracts of the reference's SameGroups, where both read alike, and of slices.Equal at pairs of strings. -/
import Derived.Test.YtpjdjoliifjjdaaGreatDoorPplM
import Derived.Deep.RegionLaw
import Derived.Test.YtpjdjoliifjjdaaGreatDoorEqS
namespace Go.Proofs.YtpjdjoliifjjdaaGreatDoor
open Go.RowKit Go.Dw

theorem sameStr_any (A B : Option Addr) (c d : Nat) (xs : List ByteArray) (w : World) (ha : Rd w A (sb xs)) (hb : Rd w B (sb xs)) (hn : xs.length ≤ 9223372036854775807) :
    Calls Tryz.prog 30 #[.slice A xs.length c, .slice B xs.length d] w fun e w' => e = .returned (.bool true) ∧ ∃ n, w' = w.drewN n :=
  (equalS_any A B c d xs xs w ha hb hn).mono fun e w' h => ⟨by rw [h.1]; simp, h.2⟩
/-- rows of rows of strings -/
def Grs (w : World) (A : Option Addr) (G : List Rw) (R : List (List ByteArray)) : Prop := Rd w A (G.map Rw.v) ∧ (∀ s ∈ G, Rd w s.a s.cs) ∧ G.map Rw.cs = R.map sb
theorem Grs.below {w w' : World} {A : Option Addr} {G : List Rw} {R : List (List ByteArray)} (h : Grs w A G R) (hb : Below w.heap.size w w') : Grs w' A G R :=
  ⟨h.1.below hb, fun s hs => (h.2.1 s hs).below hb, h.2.2⟩
theorem Grs.len {w : World} {A : Option Addr} {G : List Rw} {R : List (List ByteArray)} (h : Grs w A G R) : G.length = R.length := by
  have := congrArg List.length h.2.2; simpa using this
theorem Grs.at_ {w : World} {A : Option Addr} {G : List Rw} {R : List (List ByteArray)} (h : Grs w A G R) {k : Nat} (hk : k < R.length) :
    ∃ b off a c, A = some ⟨b, off, none⟩ ∧ b < w.heap.size ∧ w.cell? ⟨b, off + k, none⟩ = some (.slice a R[k].length c) ∧ Rd w a (sb R[k]) := by
  have hl := h.len
  obtain ⟨b, off, e, hb, hc⟩ := h.1.at_ (by simp; omega)
  have hkg : k < G.length := by omega
  have hcs : G[k].cs = sb R[k] := by
    have := congrArg (fun l => l[k]?) h.2.2
    simpa [hkg, hk] using this
  refine ⟨b, off, G[k].a, G[k].c, e, hb, ?_, ?_⟩
  · have := hc k G[k].v (by simp [hkg])
    rw [this]; unfold Rw.v; rw [hcs, sb_len]
  · rw [← hcs]; exact h.2.1 _ (List.getElem_mem hkg)
set_option maxHeartbeats 1000000 in
theorem sameGroups_any (A B : Option Addr) (c d : Nat) (G H : List Rw) (R : List (List ByteArray)) (w : World) (ha : Grs w A G R) (hb : Grs w B H R) (hn : R.length ≤ 9223372036854775807) (hn2 : ∀ l ∈ R, l.length ≤ 9223372036854775807) :
    Calls Tryz.prog 8 #[.slice A G.length c, .slice B H.length d] w fun e w' => e = .returned (.bool true) ∧ ∃ n, w' = w.drewN n := by
  rw [ha.len, hb.len]
  have HA := Lib.hid ha
  have HB := Lib.hid hb
  have HN2 := Lib.hid hn2
  have hl1 : ((R.length : Int) != (R.length : Int)) = false := by simp
  clear ha hb hn2
  go_enter Tryz.func8, Tryz.ntmps8
  go_wp2
  go_loopw [13] (fun i wr => ∃ k : Nat, k ≤ R.length ∧ i = .int .i64 k ∧ Hid (∃ n, wr = w.drewN n)) (fun i _ => R.length - (intOf i).toNat)
  case atStart => exact ⟨0, Nat.zero_le _, rfl, ⟨0, rfl⟩⟩
  case round =>
    obtain ⟨k, hk, rfl, HW⟩ := hrel
    have HBB : Hid (Below w.heap.size w wr) := by obtain ⟨n, hn⟩ := HW.out; show Below _ _ _; rw [hn]; exact below_drewN (Below.refl _ _) n
    have HNX : Hid (∀ m, ∃ n, wr.drewN m = w.drewN n) := fun m => by obtain ⟨n, hn⟩ := HW.out; exact ⟨n + m, by rw [hn, World.drewN_drewN]⟩
    by_cases hlt : k < R.length
    · obtain ⟨b, off, a1, cc1, rfl, hbb, hc, hr1⟩ := HA.out.at_ hlt
      obtain ⟨b2, off2, a2, cc2, rfl, hbb2, hc2, hr2⟩ := HB.out.at_ hlt
      have HSM := Lib.hid (fun (m : Nat) => sameStr_any a1 a2 cc1 cc2 R[k] (wr.drewN m) ((hr1.below HBB.out).below (below_drewN (Below.refl _ _) m)) ((hr2.below HBB.out).below (below_drewN (Below.refl _ _) m)) (HN2.out _ (List.getElem_mem hlt)))
      rw [← HBB.out.cell (by exact hbb)] at hc
      rw [← HBB.out.cell (by exact hbb2)] at hc2
      clear hr1 hr2 hbb hbb2
      generalize R[k] = l at *
      have j0 : (0 : Int) ≤ (k : Int) := by omega
      have j1 : (k : Int) < (R.length : Int) := by omega
      go_wp2_with fail
      go_quiet ((go_at_call 30; exact Calls.quiet_of (HSM.out _)))
      go_wp2
      go_roundw
      case rel => exact ⟨k + 1, by omega, by go_num, HNX.out _⟩
      case measure => simp [intOf]; omega
    · go_wp2
      go_ret
      exact ⟨rfl, HW.out⟩
/-- a row of values of the call's own, as a row -/
def rwOf (x : Value × List ByteArray) : Rw := match x.1 with
  | .slice a _ c => ⟨a, c, sb x.2⟩
  | _ => ⟨none, 0, []⟩
theorem GI.grs {T S : TypeId} {w : World} {B : Nat} {A : Option Addr} {n c : Nat} {R : List (Value × List ByteArray)} (h : GI T S w B (.slice A n c) R) : Grs w A (R.map rwOf) (R.map Prod.snd) := by
  have h1 : ∀ i (hi : i < R.length), ∃ a c, R[i].1 = .slice a R[i].2.length c := fun i hi => slice_of_own (h.r i hi)
  refine ⟨?_, fun s hs => ?_, ?_⟩
  · have e : (R.map rwOf).map Rw.v = R.map Prod.fst := by
      apply List.ext_getElem
      · simp
      · intro i p1 p2
        simp only [List.getElem_map]
        obtain ⟨a, c, e⟩ := h1 i (by simpa using p2)
        unfold rwOf
        rw [e]
        simp only [Rw.v, sb_len]
    rw [e]
    have h2 := h.o
    have hv : (Value.slice A n c) = .slice A R.length c := by
      obtain ⟨a2, c2, e2⟩ := slice_of_own h2
      injection e2 with e3 e4 e5
      rw [e4]
    rw [hv] at h2
    exact Rd.of_own h2
  · obtain ⟨i, hi, rfl⟩ := List.getElem_of_mem hs
    simp only [List.getElem_map]
    have hi' : i < R.length := by simpa using hi
    obtain ⟨a, c, e⟩ := h1 i hi'
    have h2 := h.r i hi'
    rw [e] at h2
    unfold rwOf
    rw [e]
    exact Rd.of_own h2
  · apply List.ext_getElem
    · simp
    · intro i p1 p2
      simp only [List.getElem_map]
      obtain ⟨a, c, e⟩ := h1 i (by simpa using p2)
      unfold rwOf
      rw [e]
end Go.Proofs.YtpjdjoliifjjdaaGreatDoor
