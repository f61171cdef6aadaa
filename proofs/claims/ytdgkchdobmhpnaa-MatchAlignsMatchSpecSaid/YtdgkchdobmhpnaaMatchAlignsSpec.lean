/- The law MatchAlignsMatchSpec returns true, whatever the lists, the links and the gap. -/
import Derived.Test.YtdgkchdobmhpnaaRAlnD
import Derived.Test.YtdgkchdobmhpnaaRAlnE
import Derived.Test.YtdgkchdobmhpnaaEqLinks
import Derived.Test.YtdgkchdobmhpnaaMatchH
import Derived.Test.YtdgkchdobmhpnaaDecMatch
namespace Go.Proofs.Ytdgkchdobmhpnaa
open Go.RowKit Go.Dw

theorem ALN.len {a b : List Int} {g n f : Int} {l : List (Int × Int)} (h : ALN a b g l n f) : l.length ≤ 9223372036854775807 := by
  rcases h with ⟨_, rfl, _⟩ | ⟨hz, hp, _⟩
  · simp
  · have := hp.len
    have := (bst_fit (a := a) (b := b) (chA_zero hz).2.2.2.2.1 0 0).2.2.2.1
    have := (chA_zero hz).2.2.1
    omega
set_option maxRecDepth 100000 in
set_option maxHeartbeats 1600000 in
theorem alignsSpec_walk (xa xb : Slc Int) (xl : Slc (Int × Int)) (g : Int) (w : World) (h0 : xa.xs.length ≤ maxLen ∧ Rd w xa.a (xa.xs.flatMap fun n => [Value.int .i64 n]) ∧ ∀ n ∈ xa.xs, inI64 n) (h1 : xb.xs.length ≤ maxLen ∧ Rd w xb.a (xb.xs.flatMap fun n => [Value.int .i64 n]) ∧ ∀ n ∈ xb.xs, inI64 n)
    (h2 : xl.xs.length ≤ maxLen ∧ Rd w xl.a (pc xl.xs) ∧ ∀ p ∈ xl.xs, inI64 p.1 ∧ inI64 p.2) (_ : inI64 g) :
    Calls Try.prog 8 #[xa.v, xb.v, xl.v, .int .i64 g] w fun e w' => e = .returned (.bool true) ∧ Below w.heap.size w w' := by
  obtain ⟨Aa, ca, a⟩ := xa
  obtain ⟨Ab, cb, b⟩ := xb
  obtain ⟨Al, cl, l⟩ := xl
  obtain ⟨hna, ha, _⟩ := h0
  obtain ⟨hnb, hb, _⟩ := h1
  obtain ⟨hnl, hl, _⟩ := h2
  simp only [maxLen, ic_flat, Slc.v] at *
  have HAL := Lib.hid (fun (W : World) (hW : Below w.heap.size w W) => align_any Aa Ab ca cb a b g W (ha.below hW) (hb.below hW) hna hnb)
  have HRL := Lib.hid (fun (W : World) (hW : Below w.heap.size w W) => ralign_any Aa Ab ca cb a b g W (ha.below hW) (hb.below hW) hna hnb)
  have HCO := Lib.hid (fun (W : World) (hW : Below w.heap.size w W) => cost_any Aa Ab Al ca cb cl a b l g W (ha.below hW) (hb.below hW) (hl.below hW) hna hnb hnl)
  have HRC := Lib.hid (fun (W : World) (hW : Below w.heap.size w W) => rcost_any Aa Ab Al ca cb cl a b l g W (ha.below hW) (hb.below hW) (hl.below hW) hna hnb hnl)
  clear ha hb hl
  go_enter Try.func8, Try.ntmps8
  go_wp2_with fail
  refine (HAL.out _ (Below.refl _ _)).mono ?_
  rintro e w1 ⟨A1, c1, out, n, f, hal, rfl, hr1, hb1⟩
  have HB1 := Lib.hid hb1
  have HU := Lib.hid hal
  have hlen := hal.len
  clear hal hb1
  go_wp2_with fail
  refine (HRL.out w1 HB1.out).mono ?_
  rintro e w2 ⟨A2, c2, out2, n2, f2, hal2, rfl, hr2, hb2⟩
  obtain ⟨u1, u2, u3⟩ := HU.out.uniq hal2
  subst u1
  subst u2
  subst u3
  have hr1' := hr1.below hb2
  have HB2 := Lib.hid (HB1.out.trans (hb2.mono HB1.out.size))
  have hn1 : (f != f) = false := by simp
  have hn2 : (n != n) = false := by simp
  clear hal2 hb2 hr1 HU
  go_wp2_with fail
  refine (equalLink_any _ _ _ _ out out _ hr1' hr2 hlen).mono ?_
  rintro e w3 ⟨rfl, nq, rfl⟩
  rw [show decide (out = out) = true from by simp]
  have HB3 := Lib.hid (below_drewN HB2.out nq)
  generalize w2.drewN nq = w3 at *
  clear hr1' hr2
  go_wp2_with fail
  refine (HCO.out w3 HB3.out).mono ?_
  rintro e w4 ⟨rfl, hb4⟩
  have HB4 := Lib.hid (HB3.out.trans (hb4.mono HB3.out.size))
  clear hb4
  go_wp2_with fail
  refine (HRC.out w4 HB4.out).mono ?_
  rintro e w5 ⟨rfl, hb5⟩
  have HB5 := Lib.hid (HB4.out.trans (hb5.mono HB4.out.size))
  have hq1 : ((coR a b l g).2 == (coR a b l g).2) = true := by simp
  have hq2 : ((coR a b l g).1 == (coR a b l g).1) = true := by simp
  clear hb5
  go_wp2_with fail
  refine (awake4 _).mono ?_
  rintro e w8 ⟨rfl, hb8⟩
  have HB8 := Lib.hid (HB5.out.trans (hb8.mono HB5.out.size))
  clear hb8
  go_wp2_with fail
  go_ret
  exact ⟨rfl, HB8.out⟩
end Go.Proofs.Ytdgkchdobmhpnaa
