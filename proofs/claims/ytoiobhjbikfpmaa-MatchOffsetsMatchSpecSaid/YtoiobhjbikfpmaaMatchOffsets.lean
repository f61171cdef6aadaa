/- The walk of MatchOffsetsMatchSpec. -/
import Derived.Test.YtoiobhjbikfpmaaApF
import Derived.Test.YtoiobhjbikfpmaaVotC
import Derived.Test.YtoiobhjbikfpmaaEqVt
import Derived.Test.YtoiobhjbikfpmaaMatchH
import Derived.Test.YtoiobhjbikfpmaaDecMatch
namespace Go.Proofs.Ytoiobhjbikfpmaa
open Go.RowKit Go.Dw

set_option maxRecDepth 100000 in
set_option maxHeartbeats 1000000 in
theorem offsets_law (x0 x1 : Slc Int) (x2 x3 : Int) (w : World) (ok0 : x0.xs.length ≤ maxLen ∧ Rd w x0.a (x0.xs.flatMap fun n => [Value.int .i64 n]) ∧ ∀ n ∈ x0.xs, inI64 n) (ok1 : x1.xs.length ≤ maxLen ∧ Rd w x1.a (x1.xs.flatMap fun n => [Value.int .i64 n]) ∧ ∀ n ∈ x1.xs, inI64 n) (_ : inI64 x2) (_ : inI64 x3) :
    Calls Try.prog 4 #[x0.v, x1.v, .int .i64 x2, .int .i64 x3] w fun e w' => e = .returned (.bool true) ∧ Below w.heap.size w w' := by
  obtain ⟨A, c, xs⟩ := x0
  obtain ⟨B, d, ys⟩ := x1
  obtain ⟨hn, h, _⟩ := ok0
  obtain ⟨hm, k, _⟩ := ok1
  simp only [Slc.v] at *
  rw [ic_flat] at h k
  unfold maxLen at hn hm
  have hlen : (votF xs ys (bothF xs ys) x3).1.length ≤ 9223372036854775807 := by
    unfold votF
    split
    · simp
    · split
      · rename_i h1
        simp only [List.length_take]; omega
      · simp
  obtain ⟨r, hr⟩ : ∃ r, r = apF xs ys (bothF xs ys) x2 := ⟨_, rfl⟩
  have H1 := Lib.hid (Apart_any A B c d xs ys x2 w h k (by omega) (by omega) r hr)
  have H2 := Lib.hid (fun (W : World) (hW : Below w.heap.size w W) => rApart_any A B c d xs ys x2 W (h.below hW) (k.below hW) (by omega) (by omega) r hr)
  have H3 := Lib.hid (fun (W : World) (hW : Below w.heap.size w W) => votes_any A B c d xs ys x3 W (h.below hW) (k.below hW) (by omega) (by omega))
  have H4 := Lib.hid (fun (W : World) (hW : Below w.heap.size w W) => rvotes_any A B c d xs ys x3 W (h.below hW) (k.below hW) (by omega) (by omega))
  generalize votF xs ys (bothF xs ys) x3 = v at *
  obtain ⟨l, f⟩ := v
  obtain ⟨r1, r2, r3⟩ := r
  simp only at hlen
  have hff : (f != f) = false := by simp
  have hff' : (f == f) = true := by simp
  have hf1 : (r1 != r1) = false := by simp
  have hf2 : (r2 != r2) = false := by simp
  have hf3 : (r3 != r3) = false := by simp
  clear h k hr
  go_enter Try.func4, Try.ntmps4
  go_wp2_with fail
  refine H1.out.mono ?_
  rintro e w1 ⟨rfl, hb1⟩
  have HB1 := Lib.hid hb1
  clear hb1
  go_wp2_with fail
  refine (H2.out _ HB1.out).mono ?_
  rintro e w2 ⟨rfl, hb2⟩
  have HB2 := Lib.hid (HB1.out.trans (hb2.mono HB1.out.size))
  clear hb2
  go_wp2_with fail
  refine (H3.out _ HB2.out).mono ?_
  rintro e w3 ⟨A1, c1, rfl, hr1, hb3⟩
  have HR1 := Lib.hid hr1
  have HB3 := Lib.hid (HB2.out.trans (hb3.mono HB2.out.size))
  clear hr1 hb3
  go_wp2_with fail
  refine (H4.out _ HB3.out).mono ?_
  rintro e w4 ⟨A2, c2, rfl, hr2, hb4⟩
  have HS := Lib.hid (sameVt_any encVt (fun x i => match i with | 0 => x.d | 1 => (x.n : Int)) (fun _ => rfl) A1 A2 c1 c2 l w4 (HR1.out.below hb4) hr2 hlen)
  have HB4 := Lib.hid (HB3.out.trans (hb4.mono HB3.out.size))
  clear hr2 hb4
  go_wp2_with fail
  refine HS.out.mono ?_
  rintro e w5 ⟨rfl, nq, rfl⟩
  have HB5 := Lib.hid (below_drewN HB4.out nq)
  generalize w4.drewN nq = w5 at *
  go_wp2_with fail
  refine (awake4 _).mono ?_
  rintro e w8 ⟨rfl, hb8⟩
  have HB8 := Lib.hid (HB5.out.trans (hb8.mono HB5.out.size))
  clear hb8
  go_wp2_with fail
  go_ret
  exact ⟨rfl, HB8.out⟩
end Go.Proofs.Ytoiobhjbikfpmaa
