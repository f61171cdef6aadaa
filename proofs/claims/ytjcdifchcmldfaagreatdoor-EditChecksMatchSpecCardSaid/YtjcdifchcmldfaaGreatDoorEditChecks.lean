/- The walk of EditChecksMatchSpec. -/
import Derived.Test.YtjcdifchcmldfaaGreatDoorAwk
import Derived.Test.YtjcdifchcmldfaaGreatDoorTxtR
import Derived.Test.YtjcdifchcmldfaaGreatDoorDecEdt
import Derived.Test.YtjcdifchcmldfaaGreatDoorLaid
namespace Go.Proofs.YtjcdifchcmldfaaGreatDoor
open Go.RowKit Go.Dw

set_option maxRecDepth 100000 in
set_option maxHeartbeats 8000000 in
theorem checks_law (x : EdtM) (w : World) (h : EdtOk w x) (hp : HasPow w) :
    Calls Tryz.prog 3 #[x.v] w fun e w' => e = .returned (.bool true) ∧ Below w.heap.size w w' := by
  have HT1 : Hid (∀ W, Gq w W → Calls Tryz.prog 4 #[x.v] W fun e w' => e = .returned (.tuple #[.string (mkB (txtF isNm 1000000 x.x).1), .int .i64 (txtF isNm 1000000 x.x).2]) ∧ Gq W w') := fun W hW => text_e x W (h.below hW) (hp.below hW)
  have HT2 : Hid (∀ W, Gq w W → Calls Tryz.prog 5 #[x.v] W fun e w' => e = .returned (.tuple #[.string (mkB (txtF isNm 1000000 x.x).1), .int .i64 (txtF isNm 1000000 x.x).2]) ∧ Gq W w') := fun W hW => textR_e x W (h.below hW) (hp.below hW)
  have HE1 : Hid (∀ W, Gq w W → Calls Tryz.prog 6 #[x.v] W fun e w' => e = .returned (.tuple #[.int .i64 (endR isNm 1000000 x.x).1, .int .i64 (endR isNm 1000000 x.x).2]) ∧ Gq W w') := fun W hW => end2_any x W (h.below hW)
  have HE2 : Hid (∀ W, Gq w W → Calls Tryz.prog 7 #[x.v] W fun e w' => e = .returned (.tuple #[.int .i64 (endR isNm 1000000 x.x).1, .int .i64 (endR isNm 1000000 x.x).2]) ∧ Gq W w') := fun W hW => end2R_any x W (h.below hW) (hp.below hW)
  have HC1 : Hid (∀ W, Gq w W → Calls Tryz.prog 8 #[x.v] W fun e w' => e = .returned (.int .i64 (ediF isNm 1000000 x.x)) ∧ Gq W w') := fun W hW => check_any x W (h.below hW)
  have HC2 : Hid (∀ W, Gq w W → Calls Tryz.prog 9 #[x.v] W fun e w' => e = .returned (.int .i64 (ediF isNm 1000000 x.x)) ∧ Gq W w') := fun W hW => checkR_any x W (h.below hW) (hp.below hW)
  have HAW : Hid (∀ W, Gq w W → Calls Tryz.prog 10 #[] W fun e w' => e = .returned (.bool true) ∧ Gq W w') := fun W hW => awake3 W (hp.below hW)
  generalize mkB (txtF isNm 1000000 x.x).1 = s at HT1 HT2
  generalize (txtF isNm 1000000 x.x).2 = sf at HT1 HT2
  generalize (endR isNm 1000000 x.x).1 = n at HE1 HE2
  generalize (endR isNm 1000000 x.x).2 = nf at HE1 HE2
  generalize ediF isNm 1000000 x.x = f at HC1 HC2
  obtain ⟨rt, tk, ⟨A, d, xs⟩⟩ := x
  simp only [EdtM.v, Slc.v] at *
  generalize (xs.length : Nat) = xn at *
  obtain ⟨w1, hw1⟩ : ∃ w1, w1 = w.alloc (.cells #[.int .i64 rt, .int .i64 tk, .slice A xn d] 24) := ⟨_, rfl⟩
  have HB : Hid (Gq w w1) := by rw [hw1]; exact (Gq.refl _).alloc _
  have HK : Hid (Blk w1 w.heap.size 24 [.int .i64 rt, .int .i64 tk, .slice A xn d]) := by rw [hw1]; exact Blk.new w _ _
  have HS : Hid (∀ W, Gq w1 W → W.cell? ⟨w.heap.size, 0, none⟩ = some (.int .i64 rt) ∧ W.cell? ⟨w.heap.size, 1, none⟩ = some (.int .i64 tk) ∧ W.cell? ⟨w.heap.size, 2, none⟩ = some (.slice A xn d)) := fun W hW => by
    have k1 := HK.out.same (Same.of_below (S := fun _ => True) hW) trivial
    exact ⟨k1.cell 0, k1.cell 1, k1.cell 2⟩
  obtain ⟨c0, c1, c2⟩ := HS.out w1 (Gq.refl _)
  have HW := Lib.hid hw1
  clear hw1 h hp
  go_enter Tryz.func3, Tryz.ntmps3
  go_upto_region 1 with (fail)
  rw [← HW.out]
  go_wp2_with fail
  refine (HT1.out _ HB.out).mono ?_
  rintro e w2 ⟨rfl, hb2⟩
  have HB2 : Hid (Gq w1 w2) := hb2
  clear hb2 c0 c1 c2
  obtain ⟨c0, c1, c2⟩ := HS.out w2 HB2.out
  go_wp2_with fail
  refine (HT2.out _ (HB.out.trans HB2.out)).mono ?_
  rintro e w3 ⟨rfl, hb3⟩
  have HB3 : Hid (Gq w1 w3) := HB2.out.trans hb3
  clear hb3 c0 c1 c2
  obtain ⟨c0, c1, c2⟩ := HS.out w3 HB3.out
  go_wp2_with fail
  refine (HE1.out _ (HB.out.trans HB3.out)).mono ?_
  rintro e w4 ⟨rfl, hb4⟩
  have HB4 : Hid (Gq w1 w4) := HB3.out.trans hb4
  clear hb4 c0 c1 c2
  obtain ⟨c0, c1, c2⟩ := HS.out w4 HB4.out
  go_wp2_with fail
  refine (HE2.out _ (HB.out.trans HB4.out)).mono ?_
  rintro e w5 ⟨rfl, hb5⟩
  have HB5 : Hid (Gq w1 w5) := HB4.out.trans hb5
  clear hb5 c0 c1 c2 HT1 HT2 HE1 HE2
  have HD1 : Hid (∀ W, Gq w5 W → Calls Tryz.prog 8 #[.agg #[.int .i64 rt, .int .i64 tk, .slice A xn d]] W fun e w' => e = .returned (.int .i64 f) ∧ Gq w5 w') := fun W hW => (HC1.out W (HB.out.trans (HB5.out.trans hW))).mono fun _ _ k => ⟨k.1, hW.trans k.2⟩
  have HD2 : Hid (∀ W, Gq w5 W → Calls Tryz.prog 9 #[.agg #[.int .i64 rt, .int .i64 tk, .slice A xn d]] W fun e w' => e = .returned (.int .i64 f) ∧ Gq w5 w') := fun W hW => (HC2.out W (HB.out.trans (HB5.out.trans hW))).mono fun _ _ k => ⟨k.1, hW.trans k.2⟩
  have HD3 : Hid (∀ W, Gq w5 W → Calls Tryz.prog 10 #[] W fun e w' => e = .returned (.bool true) ∧ Gq w5 w') := fun W hW => (HAW.out W (HB.out.trans (HB5.out.trans hW))).mono fun _ _ k => ⟨k.1, hW.trans k.2⟩
  have HS5 : Hid (∀ W, Gq w5 W → W.cell? ⟨w.heap.size, 0, none⟩ = some (.int .i64 rt) ∧ W.cell? ⟨w.heap.size, 1, none⟩ = some (.int .i64 tk) ∧ W.cell? ⟨w.heap.size, 2, none⟩ = some (.slice A xn d) ∧ Gq w5 W) := fun W hW => ⟨(HS.out W (HB5.out.trans hW)).1, (HS.out W (HB5.out.trans hW)).2.1, (HS.out W (HB5.out.trans hW)).2.2, hW⟩
  have hBR : Gq w5 w5 := Gq.refl _
  have hBD : Gq w5 w5.drew := (Gq.refl _).drew
  have e2 : (s.toList == s.toList) = true := by simp
  clear HC1 HC2 HAW
  go_wp2_with fail
  go_region_held3 (fun W => W.cell? ⟨w.heap.size, 0, none⟩ = some (.int .i64 rt) ∧ W.cell? ⟨w.heap.size, 1, none⟩ = some (.int .i64 tk) ∧ W.cell? ⟨w.heap.size, 2, none⟩ = some (.slice A xn d) ∧ Gq w5 W)
    (first | exact HS5.out _ hBD | exact HS5.out _ hqB | exact HS5.out _ hBR)
    (first | (go_at_call 8; with_reducible refine (HD1.out _ (by first | assumption | (go_split_ands; assumption))).mono ?_; rintro e wB ⟨rfl, hqB⟩) | (go_at_call 9; with_reducible refine (HD2.out _ (by first | assumption | (go_split_ands; assumption))).mono ?_; rintro e wB ⟨rfl, hqB⟩) | (go_at_call 10; with_reducible refine (HD3.out _ (by first | assumption | (go_split_ands; assumption))).mono ?_; rintro e wB ⟨rfl, hqB⟩))
  all_goals
    have HQ : Hid (Gq w5 wB) := by show Gq _ _; assumption
    go_wp2_with fail
    go_ret
    exact ⟨rfl, HB.out.trans (HB5.out.trans HQ.out)⟩
end Go.Proofs.YtjcdifchcmldfaaGreatDoor
