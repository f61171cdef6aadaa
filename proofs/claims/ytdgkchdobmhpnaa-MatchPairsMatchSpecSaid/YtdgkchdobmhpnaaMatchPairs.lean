/- The law MatchPairsMatchSpec returns true, whatever the links and the part. -/
import Derived.Test.YtdgkchdobmhpnaaPairsD
import Derived.Test.YtdgkchdobmhpnaaMatchH
import Derived.Test.YtdgkchdobmhpnaaEqPairs
import Derived.Test.YtdgkchdobmhpnaaDecMatch
namespace Go.Proofs.Ytdgkchdobmhpnaa
open Go.RowKit Go.Dw

theorem prR_len (l : List (Int × Int)) (part : Int) (h : l.length ≤ 9223372036854775807) : (prR l part).1.length ≤ 9223372036854775807 := by
  unfold prR
  split
  · simp
  · split
    · simp
    · split
      · split
        · simpa using h
        · simp
      · simp
set_option maxHeartbeats 1000000 in
theorem pairs_walk (x : Slc (Int × Int)) (part : Int) (w : World) (h0 : x.xs.length ≤ maxLen ∧ Rd w x.a (pc x.xs) ∧ ∀ p ∈ x.xs, inI64 p.1 ∧ inI64 p.2) (_ : inI64 part) :
    Calls Try.prog 4 #[x.v, .int .i64 part] w fun e w' => e = .returned (.bool true) ∧ Below w.heap.size w w' := by
  obtain ⟨A, c, l⟩ := x
  obtain ⟨hn, h, _⟩ := h0
  simp only [maxLen] at hn h
  show Calls Try.prog 4 #[.slice A l.length c, .int .i64 part] w _
  have hlr := prR_len l part hn
  go_enter Try.func4, Try.ntmps4
  go_wp2_with fail
  refine (pairs_any A c l part _ h hn).mono ?_
  rintro e w1 ⟨A1, c1, rfl, hr1, hb1⟩
  have h1 := h.below hb1
  have HB1 := Lib.hid hb1
  clear hb1
  go_wp2_with fail
  refine (rpairs_any A c l part _ h1 hn).mono ?_
  rintro e w2 ⟨A2, c2, rfl, hr2, hb2⟩
  have hr1' := hr1.below hb2
  have HB2 := Lib.hid (HB1.out.trans (hb2.mono HB1.out.size))
  clear hb2
  go_wp2_with fail
  refine (equalPair_any _ _ _ _ (prR l part).1 (prR l part).1 _ hr1' hr2 hlr).mono ?_
  rintro e w3 ⟨rfl, nq, rfl⟩
  rw [show decide ((prR l part).1 = (prR l part).1) = true from by simp]
  have HB3 := Lib.hid (below_drewN HB2.out nq)
  generalize w2.drewN nq = w3 at *
  go_wp2_with fail
  refine (awake4 _).mono ?_
  rintro e w8 ⟨rfl, hb8⟩
  have HB8 := Lib.hid (HB3.out.trans (hb8.mono HB3.out.size))
  clear hb8
  go_wp2_with fail
  go_ret
  exact ⟨rfl, HB8.out⟩
end Go.Proofs.Ytdgkchdobmhpnaa
