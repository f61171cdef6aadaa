/- The contract of the reference's common. -/
import Derived.Test.YtlmgdofhmgpljaaDoorLmbG
namespace Go.Proofs.YtlmgdofhmgpljaaDoor
open Go.RowKit Go.Dw

def LimR (n : Nat) (w : World) (e : Ending) (w' : World) : Prop := ∃ v, e = .returned v ∧ LimV w' v n ∧ Below w.heap.size w w'
theorem lim_slice {w : World} {v : Value} {n : Nat} (h : LimV w v n) : ∃ A c L, v = .slice A L c ∧ (L = 0 ↔ n = 0) := by
  obtain ⟨A, c, l, rfl, _, hn, rfl⟩ := h
  refine ⟨A, c, l.length, rfl, ?_⟩
  rw [hn.zero_iff (by decide)]
  exact ⟨fun e => List.eq_nil_of_length_eq_zero e, fun e => by rw [e]; rfl⟩
set_option maxRecDepth 100000 in
set_option maxHeartbeats 8000000 in
theorem commonR_any (va vb : Value) (a b : Nat) (w : World) (h : LimV w va a) (g : LimV w vb b) (k : Nat) (hk : Lim k a) (gk : Lim k b) (hk2 : k ≤ 100000000) :
    Calls Tryd.prog 27 #[va, vb] w (LimR (Nat.gcd a b) w) := by
  have H0 : Hid (LimV w va a ∧ LimV w vb b ∧ Lim k a ∧ Lim k b) := ⟨h, g, hk, gk⟩
  obtain ⟨G, hG⟩ : ∃ G, Nat.gcd a b = G := ⟨_, rfl⟩
  rw [hG]
  have HG := Lib.hid hG
  clear h g hk gk hG
  go_enter Tryd.func27, Tryd.ntmps27
  go_wp2
  go_loopg [0, 1] b (fun y v0 v1 wr => ∃ x : Nat, Hid (LimV wr v0 x ∧ LimV wr v1 y ∧ Lim k x ∧ Lim k y ∧ Nat.gcd x y = G ∧ Below w.heap.size w wr))
  case atStart => exact ⟨a, H0.out.1, H0.out.2.1, H0.out.2.2.1, H0.out.2.2.2, HG.out, Below.refl _ _⟩
  case round =>
    clear H0 HG
    obtain ⟨x, HI⟩ := hrel
    obtain ⟨y, hy⟩ : ∃ y, y = gk := ⟨_, rfl⟩
    subst hy
    obtain ⟨A, c, L, e1, _⟩ := lim_slice HI.out.1
    obtain ⟨B, d, M, e2, hM⟩ := lim_slice HI.out.2.1
    subst e1 e2
    by_cases hy : y = 0
    · have hM0 : M = 0 := hM.2 hy
      subst hM0
      have HX : Hid (x = G) := by
        show _ = _
        have := HI.out.2.2.2.2.1
        rw [hy, Nat.gcd_zero_right] at this; exact this
      clear hM hy
      go_wp2
      go_ret
      exact ⟨_, rfl, by rw [← HX.out]; exact HI.out.1, HI.out.2.2.2.2.2⟩
    have hMp : 0 < M := by
      rcases Nat.eq_zero_or_pos M with e | e
      · exact absurd (hM.1 e) hy
      · exact e
    clear hM
    have HB0 := Lib.hid HI.out.2.2.2.2.2
    have HDV := Lib.hid (divideR_any _ _ x y wr HI.out.1 HI.out.2.1 (by omega) k k HI.out.2.2.1 HI.out.2.2.2.1 hk2 hk2)
    have HTL : Hid (∀ W vr, LimV W vr (x % y) → Below wr.heap.size wr W → LimV W (.slice B M d) y ∧ LimV W vr (x % y) ∧ Lim k y ∧ Lim k (x % y) ∧ Nat.gcd y (x % y) = G ∧ Below w.heap.size w W) := fun W vr hv hW =>
      ⟨HI.out.2.1.below hW, hv, HI.out.2.2.2.1, HI.out.2.2.1.le (Nat.mod_le _ _), by rw [Nat.gcd_comm, ← Nat.gcd_rec, Nat.gcd_comm]; exact HI.out.2.2.2.2.1, HB0.out.trans (hW.mono HB0.out.size)⟩
    have HML : Hid (x % y < y) := Nat.mod_lt _ (by omega)
    go_wp2_with fail
    refine HDV.out.mono ?_
    rintro e w2 ⟨v1, v2, rfl, _, hv2, hb2⟩
    have HN := Lib.hid (HTL.out w2 v2 hv2 hb2)
    clear hv2 hb2 HTL HDV HB0
    go_wp2_with fail
    go_roundg (x % y)
    case measure => exact HML.out
    case rel => exact ⟨y, HN.out⟩
end Go.Proofs.YtlmgdofhmgpljaaDoor
