/- The walk of MatchMarksMatchSpec. -/
import Derived.Test.YtlmgdofhmgpljaaMrkR
import Derived.Test.YtlmgdofhmgpljaaMrkA
import Derived.Test.YtlmgdofhmgpljaaLevR
import Derived.Test.YtlmgdofhmgpljaaPieR
import Derived.Test.YtlmgdofhmgpljaaEqInts
import Derived.Test.YtlmgdofhmgpljaaEqSp
import Derived.Test.YtlmgdofhmgpljaaMatchH
import Derived.Test.YtlmgdofhmgpljaaDecSnd
namespace Go.Proofs.Ytlmgdofhmgpljaa
open Go.RowKit Go.Dw

theorem levF_len1 {rate : Int} {T : List (List Int)} {part : Int} : (levF rate T part).1.length ≤ 100000 := by
  unfold levF
  by_cases h1 : chkS rate T ≠ 0
  · rw [if_pos h1]; simp
  · rw [if_neg h1]
    have hs := chkS_zero (Decidable.not_not.1 h1)
    split
    · simp only [lev_length]
      exact Nat.le_trans (Nat.div_le_self _ _) hs.2.2.2.2.1
    · simp
theorem mrkF_len1 {rate : Int} {T : List (List Int)} {part : Int} : (mrkF rate T part).1.length ≤ 500 := by
  unfold mrkF
  split
  · simp
  · split
    · simp
    · simp only [mksN_length]; omega
theorem pieF_len {rate : Int} {T : List (List Int)} {level least : Int} : (pieF rate T level least).1.length ≤ 1000 := by
  unfold pieF
  split
  · simp
  · split
    · simp
    · simp only; omega
set_option maxRecDepth 100000 in
set_option maxHeartbeats 1000000 in
theorem marks_law (x : Snd) (part level least : Int) (w : World) (h : x.Ok w) (_ : inI64 part) (_ : inI64 level) (_ : inI64 least) :
    Calls Try.prog 3 #[.agg x.cells.toArray, .int .i64 part, .int .i64 level, .int .i64 least] w fun e w' => e = .returned (.bool true) ∧ Below w.heap.size w w' := by
  have hb0 : Below w.heap.size w (w.alloc (.cells #[.int .i64 x.rate, x.p.v] 24)) := (Below.refl _ _).alloc (Nat.le_refl _) _
  have HB0 := Lib.hid hb0
  have hc0 : (w.alloc (.cells #[.int .i64 x.rate, x.p.v] 24)).cell? ⟨w.heap.size, 0, none⟩ = some (.int .i64 x.rate) := new_cell (cs := [_, _]) rfl rfl
  have hc1 : (w.alloc (.cells #[.int .i64 x.rate, x.p.v] 24)).cell? ⟨w.heap.size, 1, none⟩ = some x.p.v := new_cell (cs := [_, _]) rfl rfl
  have hws : w.heap.size < (w.alloc (.cells #[.int .i64 x.rate, x.p.v] 24)).heap.size := by simp
  have hx0 := h.below hb0
  obtain ⟨w0, hw0⟩ : ∃ w0, w0 = w.alloc (.cells #[.int .i64 x.rate, x.p.v] 24) := ⟨_, rfl⟩
  rw [← hw0] at HB0 hc0 hc1 hws hx0
  have HX := Lib.hid (fun (W : World) (hW : Below w0.heap.size w0 W) => hx0.below hW)
  have HC : Hid (∀ W, Below w0.heap.size w0 W → W.cell? ⟨w.heap.size, 0, none⟩ = some (.int .i64 x.rate) ∧ W.cell? ⟨w.heap.size, 1, none⟩ = some x.p.v) := fun W hW =>
    ⟨by rw [hW.cell (by exact hws)]; exact hc0, by rw [hW.cell (by exact hws)]; exact hc1⟩
  have H1 := Lib.hid (fun (W : World) (hW : Below w0.heap.size w0 W) => Levels_any x part W (HX.out W hW))
  have H2 := Lib.hid (fun (W : World) (hW : Below w0.heap.size w0 W) => rLevels_any x part W (HX.out W hW))
  have H3 := Lib.hid (fun (W : World) (hW : Below w0.heap.size w0 W) => Marks_any x part W (HX.out W hW))
  have H4 := Lib.hid (fun (W : World) (hW : Below w0.heap.size w0 W) => rMarks_any x part W (HX.out W hW))
  have H5 := Lib.hid (fun (W : World) (hW : Below w0.heap.size w0 W) => Pieces_any x level least W (HX.out W hW))
  have H6 := Lib.hid (fun (W : World) (hW : Below w0.heap.size w0 W) => rPieces_any x level least W (HX.out W hW))
  have hl1 := levF_len1 (rate := x.rate) (T := x.rows) (part := part)
  have hl2 := mrkF_len1 (rate := x.rate) (T := x.rows) (part := part)
  have hl3 := pieF_len (rate := x.rate) (T := x.rows) (level := level) (least := least)
  clear hx0 h hb0
  generalize levF x.rate x.rows part = r1 at *
  generalize mrkF x.rate x.rows part = r2 at *
  generalize pieF x.rate x.rows level least = r3 at *
  obtain ⟨l1, f1⟩ := r1
  obtain ⟨l2, f2⟩ := r2
  obtain ⟨l3, f3⟩ := r3
  simp only at hl1 hl2 hl3
  have e1 : (f1 != f1) = false := by simp
  have e2 : (f2 != f2) = false := by simp
  have e3 : (f3 == f3) = true := by simp
  have HW0 := Lib.hid hw0
  clear hw0
  simp only [Snd.cells, Snd.v, Slc.v] at *
  go_enter Try.func3, Try.ntmps3
  go_wp2_with fail
  rw [← HW0.out]
  refine (H1.out _ (Below.refl _ _)).mono ?_
  rintro e w1 ⟨A1, c1, rfl, hr1, hb1⟩
  have HR1 := Lib.hid hr1
  have HB1 := Lib.hid hb1
  obtain ⟨k1, k1'⟩ := HC.out _ hb1
  clear hr1 hb1 hc0 hc1
  go_wp2_with fail
  refine (H2.out _ HB1.out).mono ?_
  rintro e w2 ⟨A2, c2, rfl, hr2, hb2⟩
  have HE1 := Lib.hid (equal_any A1 A2 c1 c2 l1 l1 w2 (HR1.out.below hb2) hr2 (by omega))
  rw [decide_eq_true rfl] at HE1
  have HB2 := Lib.hid (HB1.out.trans (hb2.mono HB1.out.size))
  clear hr2 hb2 k1 k1'
  go_wp2_with fail
  refine HE1.out.mono ?_
  rintro e w3 ⟨rfl, nq, hw3⟩
  have hb3 := below_drewN HB2.out nq
  rw [← hw3] at hb3
  have HB3 := Lib.hid hb3
  obtain ⟨k3, k3'⟩ := HC.out _ hb3
  clear hw3 hb3
  go_wp2_with fail
  refine (H3.out _ HB3.out).mono ?_
  rintro e w4 ⟨A4, c4, rfl, hr4, hb4⟩
  have HR4 := Lib.hid hr4
  have HB4 := Lib.hid (HB3.out.trans (hb4.mono HB3.out.size))
  clear hr4 hb4 k3 k3'
  obtain ⟨k4, k4'⟩ := HC.out _ HB4.out
  go_wp2_with fail
  refine (H4.out _ HB4.out).mono ?_
  rintro e w5 ⟨A5, c5, rfl, hr5, hb5⟩
  have HE2 := Lib.hid (equal_any A4 A5 c4 c5 l2 l2 w5 (HR4.out.below hb5) hr5 (by omega))
  rw [decide_eq_true rfl] at HE2
  have HB5 := Lib.hid (HB4.out.trans (hb5.mono HB4.out.size))
  clear hr5 hb5 k4 k4'
  go_wp2_with fail
  refine HE2.out.mono ?_
  rintro e w6 ⟨rfl, nq2, hw6⟩
  have hb6 := below_drewN HB5.out nq2
  rw [← hw6] at hb6
  have HB6 := Lib.hid hb6
  obtain ⟨k6, k6'⟩ := HC.out _ hb6
  clear hw6 hb6
  go_wp2_with fail
  refine (H5.out _ HB6.out).mono ?_
  rintro e w7 ⟨A7, c7, rfl, hr7, hb7⟩
  have HR7 := Lib.hid hr7
  have HB7 := Lib.hid (HB6.out.trans (hb7.mono HB6.out.size))
  clear hr7 hb7 k6 k6'
  obtain ⟨k7, k7'⟩ := HC.out _ HB7.out
  go_wp2_with fail
  refine (H6.out _ HB7.out).mono ?_
  rintro e w8 ⟨A8, c8, rfl, hr8, hb8⟩
  have HE3 := Lib.hid (sameSp_any (fun p : Int × Int => [.int .i64 p.1, .int .i64 p.2]) (fun p i => match i with | 0 => p.1 | 1 => p.2) (fun _ => rfl) A7 A8 c7 c8 l3 w8 (HR7.out.below hb8) hr8 (by omega))
  have HB8 := Lib.hid (HB7.out.trans (hb8.mono HB7.out.size))
  clear hr8 hb8 k7 k7'
  go_wp2_with fail
  refine HE3.out.mono ?_
  rintro e w9 ⟨rfl, nq3, hw9⟩
  have hb9 := below_drewN HB8.out nq3
  rw [← hw9] at hb9
  have HB9 := Lib.hid hb9
  clear hw9 hb9
  go_wp2_with fail
  refine (awake4 _).mono ?_
  rintro e w10 ⟨rfl, hb10⟩
  have HBX := Lib.hid (HB0.out.trans ((HB9.out.trans (hb10.mono HB9.out.size)).mono HB0.out.size))
  clear hb10
  go_wp2_with fail
  go_ret
  exact ⟨rfl, HBX.out⟩
end Go.Proofs.Ytlmgdofhmgpljaa
