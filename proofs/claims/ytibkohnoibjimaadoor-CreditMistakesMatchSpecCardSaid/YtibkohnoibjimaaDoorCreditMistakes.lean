/- The walk of CreditMistakesMatchSpec. -/
import Derived.Test.YtibkohnoibjimaaDoorWroG
import Derived.Test.YtibkohnoibjimaaDoorEqM
import Derived.Test.YtibkohnoibjimaaDoorDecCr
import Derived.Test.YtibkohnoibjimaaDoorAgrG
import Derived.Test.YtibkohnoibjimaaDoorMax
namespace Go.Proofs.YtibkohnoibjimaaDoor
open Go.RowKit Go.Dw

theorem wrongF_len (H W : List Crp) : (wrongF H W).1.length ≤ 3001 := by
  have ho : ∀ n, (ordF H W n).length ≤ 1 := fun n => by
    induction n with
    | zero => simp [ordF]
    | succ n ih => rw [ordF]; split <;> (try split) <;> first | exact ih | simp
  unfold wrongF
  split
  · simp
  · rename_i h1
    split
    · simp
    · rename_i h2
      have hh : H.length ≤ 1000 := by
        have := Decidable.not_not.1 h1; unfold crsF at this; split at this <;> omega
      have hw : W.length ≤ 1000 := by
        have := Decidable.not_not.1 h2; unfold crsF at this; split at this <;> omega
      split
      · simp
      · split
        · have := ho H.length; simp only; omega
        · have a1 := misF_len H W W.length
          have a2 := extF_len H W H.length
          have a3 := othF_len H W W.length
          simp only [wroF, List.length_append]; omega
set_option maxRecDepth 100000 in
set_option maxHeartbeats 1000000 in
theorem mistakes_law (x y : Slc Crd) (w : World) (h : x.xs.length ≤ maxLen ∧ Rd w x.a (x.xs.flatMap Crd.cs) ∧ ∀ c ∈ x.xs, CrOk w c) (h' : y.xs.length ≤ maxLen ∧ Rd w y.a (y.xs.flatMap Crd.cs) ∧ ∀ c ∈ y.xs, CrOk w c) (hm : HasMax w) :
    Calls Tryd.prog 3 #[x.v, y.v] w fun e w' => e = .returned (.bool true) ∧ Below w.heap.size w w' := by
  have hx := crs_of h
  have hy := crs_of h'
  have H1 := Lib.hid (wrong_any x y w hx hy hm)
  have H2 := Lib.hid (fun (W : World) (hW : Below w.heap.size w W) => wrongR_any x y W (hx.below hW) (hy.below hW) (hm.below hW))
  have H3 := Lib.hid (fun (W : World) (hW : Below w.heap.size w W) => wrong_any y y W (hy.below hW) (hy.below hW) (hm.below hW))
  have H4 := Lib.hid (fun (W : World) (hW : Below w.heap.size w W) => creditsR_any y W (hy.below hW) (hm.below hW))
  have hl := wrongF_len (x.xs.map Crd.x) (y.xs.map Crd.x)
  have hself := wrong_self (y.xs.map Crd.x)
  generalize wrongF (x.xs.map Crd.x) (y.xs.map Crd.x) = r1 at *
  simp only [hself] at H3
  obtain ⟨df, hdf⟩ : ∃ df, dupB (y.xs.map Crd.x) (y.xs.map Crd.x).length = df := ⟨_, rfl⟩
  obtain ⟨cf, hcf⟩ : ∃ cf, crsF (y.xs.map Crd.x) = cf := ⟨_, rfl⟩
  simp only [hdf, hcf] at H3
  simp only [hcf] at H4
  clear h h' hx hy hm hself hdf hcf
  obtain ⟨l1, f1⟩ := r1
  simp only at hl
  have e1 : (f1 != f1) = false := by simp
  simp only [Slc.v] at *
  go_enter Tryd.func3, Tryd.ntmps3
  go_wp2_with fail
  refine H1.out.mono ?_
  rintro e w1 ⟨A1, c1, rfl, hr1, hb1⟩
  have HR1 := Lib.hid hr1
  have HB1 := Lib.hid hb1
  clear hr1 hb1
  go_wp2_with fail
  refine (H2.out _ HB1.out).mono ?_
  rintro e w2 ⟨A2, c2, rfl, hr2, hb2⟩
  have HE := Lib.hid (sameM_any A1 A2 c1 c2 l1 w2 (HR1.out.below hb2) hr2 (by omega))
  have HB2 := Lib.hid (HB1.out.trans (hb2.mono HB1.out.size))
  clear hr2 hb2 HR1
  go_wp2_with fail
  refine HE.out.mono ?_
  rintro e w3 ⟨rfl, n3, hw3⟩
  have HB3 : Hid (Below w.heap.size w w3) := by rw [hw3]; exact below_drewN HB2.out n3
  clear hw3
  go_wp2_with fail
  refine (awake5 _).mono ?_
  rintro e w4 ⟨rfl, hb4⟩
  have HB4 := Lib.hid (HB3.out.trans (hb4.mono HB3.out.size))
  clear hb4
  go_wp2_with fail
  refine (H3.out _ HB4.out).mono ?_
  rintro e w5 ⟨A5, c5, rfl, hr5, hb5⟩
  have HB5 := Lib.hid (HB4.out.trans (hb5.mono HB4.out.size))
  clear hr5 hb5
  by_cases hz : cf = 0
  · subst hz
    cases df with
    | false =>
      simp only [ne_eq, not_true, if_false, Bool.false_eq_true, List.length_nil]
      go_wp2_with fail
      go_ret
      exact ⟨rfl, HB5.out⟩
    | true =>
      simp only [ne_eq, not_true, if_false, if_true, List.length_nil]
      go_wp2_with fail
      go_ret
      exact ⟨rfl, HB5.out⟩
  · simp only [ne_eq, hz, not_false_eq_true, if_true, List.length_nil]
    have hz0 : (cf == 0) = false := by simpa using hz
    have hcc : (cf == cf) = true := by simp
    clear hz
    by_cases h7 : cf = 7
    · have hz7 : (cf == 7) = true := by simpa using h7
      clear h7
      go_wp2_with fail
      go_ret
      exact ⟨rfl, HB5.out⟩
    · have hz7 : (cf == 7) = false := by simpa using h7
      clear h7
      go_wp2_with fail
      refine (H4.out _ HB5.out).mono ?_
      rintro e w6 ⟨rfl, hb6⟩
      have HB6 := Lib.hid (HB5.out.trans (hb6.mono HB5.out.size))
      clear hb6
      go_wp2_with fail
      go_ret
      exact ⟨rfl, HB6.out⟩
end Go.Proofs.YtibkohnoibjimaaDoor
