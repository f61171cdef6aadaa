/- The walk of MatchRepeatsMatchSpec. -/
import Derived.Test.YtoiobhjbikfpmaaRepC
import Derived.Test.YtoiobhjbikfpmaaEqRp
import Derived.Test.YtoiobhjbikfpmaaMatchH
import Derived.Test.YtoiobhjbikfpmaaDecMatch
namespace Go.Proofs.Ytoiobhjbikfpmaa
open Go.RowKit Go.Dw

set_option maxRecDepth 100000 in
set_option maxHeartbeats 1000000 in
theorem repeats_law (x0 : Slc Int) (x1 : Int) (w : World) (ok0 : x0.xs.length ≤ maxLen ∧ Rd w x0.a (x0.xs.flatMap fun n => [Value.int .i64 n]) ∧ ∀ n ∈ x0.xs, inI64 n) (_ : inI64 x1) :
    Calls Try.prog 3 #[x0.v, .int .i64 x1] w fun e w' => e = .returned (.bool true) ∧ Below w.heap.size w w' := by
  obtain ⟨A, c, xs⟩ := x0
  obtain ⟨hn, h, _⟩ := ok0
  simp only [Slc.v] at *
  rw [ic_flat] at h
  unfold maxLen at hn
  have hlen : (repF xs x1).1.length ≤ 9223372036854775807 := by
    unfold repF
    split
    · simp
    · split
      · split
        · simp
        · simp only [refR_length]; omega
      · simp
  have HM := Lib.hid (repeats_any A c xs x1 w h (by omega))
  have HR := Lib.hid (fun (W : World) (hW : Below w.heap.size w W) => rrepeats_any A c xs x1 W (h.below hW) (by omega))
  generalize repF xs x1 = r at *
  obtain ⟨l, f⟩ := r
  simp only at hlen
  have hff : (f != f) = false := by simp
  have hff' : (f == f) = true := by simp
  clear h
  go_enter Try.func3, Try.ntmps3
  go_wp2_with fail
  refine HM.out.mono ?_
  rintro e w1 ⟨A1, c1, rfl, hr1, hb1⟩
  have HR1 := Lib.hid hr1
  have HB1 := Lib.hid hb1
  clear hr1 hb1
  go_wp2_with fail
  refine (HR.out _ HB1.out).mono ?_
  rintro e w2 ⟨A2, c2, rfl, hr2, hb2⟩
  have HS := Lib.hid (sameRp_any encRp (fun x i => match i with | 0 => (x.a : Int) | 1 => (x.b : Int) | 2 => (x.n : Int)) (fun _ => rfl) A1 A2 c1 c2 l w2 (HR1.out.below hb2) hr2 hlen)
  have HB2 := Lib.hid (HB1.out.trans (hb2.mono HB1.out.size))
  clear hr2 hb2
  go_wp2_with fail
  refine HS.out.mono ?_
  rintro e w3 ⟨rfl, nq, rfl⟩
  have HB3 := Lib.hid (below_drewN HB2.out nq)
  generalize w2.drewN nq = w3 at *
  go_wp2_with fail
  refine (awake4 _).mono ?_
  rintro e w8 ⟨rfl, hb8⟩
  have HB8 := Lib.hid (HB3.out.trans (hb8.mono HB3.out.size))
  clear hb8
  go_wp2_with fail
  go_ret
  exact ⟨rfl, HB8.out⟩
end Go.Proofs.Ytoiobhjbikfpmaa
