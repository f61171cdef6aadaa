/- The walk of EditFactorsMatchSpec. -/
import Derived.Test.YtpiiickhfcjnmaaGreatDoorFctZ
import Derived.Test.YtpiiickhfcjnmaaGreatDoorAwk
import Derived.Test.YtpiiickhfcjnmaaGreatDoorEdtZ
import Derived.Test.YtpiiickhfcjnmaaGreatDoorLaid
namespace Go.Proofs.YtpiiickhfcjnmaaGreatDoor
open Go.RowKit Go.Dw
attribute [local go_sem ↓] Go.wp_at_zero Go.wp_at_succ

set_option maxRecDepth 100000 in
set_option maxHeartbeats 8000000 in
theorem factors_law (x : CliM) (i : Int) (w : World) (h : CliOk w x) (hi : inI64 i) (hp : HasPow w) :
    Calls Tryz.prog 5 #[.agg x.cs.toArray, .int .i64 i] w fun e w' => e = .returned (.bool true) ∧ Below w.heap.size w w' := by
  obtain ⟨xm, xc, xf, xt, xa, xl, ⟨EA, ed, es⟩⟩ := x
  obtain ⟨el, hel⟩ : ∃ el, es.length = el := ⟨_, rfl⟩
  obtain ⟨X, hX⟩ : ∃ X, (⟨xm, xc, xf, xt, xa, xl, ⟨EA, ed, es⟩⟩ : CliM) = X := ⟨_, rfl⟩
  have hxv : X.v = .agg #[.string xm, .int .i64 xc, .int .i64 xf, .int .i64 xt, .int .i64 xa, .int .i64 xl, .slice EA el ed] := by rw [← hX, ← hel]; rfl
  have hxc : (Value.agg X.cs.toArray) = .agg #[.string xm, .int .i64 xc, .int .i64 xf, .int .i64 xt, .int .i64 xa, .int .i64 xl, .slice EA el ed] := by rw [← hX, ← hel]; rfl
  rw [hX] at h ⊢
  rw [hxc]
  obtain ⟨w1, hw1⟩ : ∃ w1, w1 = w.alloc (.cells #[.string xm, .int .i64 xc, .int .i64 xf, .int .i64 xt, .int .i64 xa, .int .i64 xl, .slice EA el ed] 36) := ⟨_, rfl⟩
  have HB1 : Hid (Gq w w1) := by rw [hw1]; exact (Gq.refl _).alloc _
  have HKA : Hid (Blk w1 w.heap.size 36 [.string xm, .int .i64 xc, .int .i64 xf, .int .i64 xt, .int .i64 xa, .int .i64 xl, .slice EA el ed]) := by rw [hw1]; exact Blk.new w _ _
  obtain ⟨F, hF⟩ : ∃ F, facF isNm X.x i = F := ⟨_, rfl⟩
  have HFA : Hid (∀ W, Gq w1 W → Calls Tryz.prog 13 #[.agg #[.string xm, .int .i64 xc, .int .i64 xf, .int .i64 xt, .int .i64 xa, .int .i64 xl, .slice EA el ed], .int .i64 i] W (FctR F W)) := fun W hW => by
    rw [← hxv, ← hF]; exact factor_any X i W ((h.below HB1.out).below hW) hi
  have HFR : Hid (∀ W, Gq w1 W → Calls Tryz.prog 14 #[.agg #[.string xm, .int .i64 xc, .int .i64 xf, .int .i64 xt, .int .i64 xa, .int .i64 xl, .slice EA el ed], .int .i64 i] W (FctR F W)) := fun W hW => by
    rw [← hxv, ← hF]; exact factorR_any X i W ((h.below HB1.out).below hW) hi ((hp.below HB1.out).below hW)
  have HAW : Hid (∀ W, Gq w1 W → Calls Tryz.prog 11 #[] W fun e w' => e = .returned (.bool true) ∧ Gq W w') := fun W hW => awake3 W ((hp.below HB1.out).below hW)
  have HCE : Hid (∀ W, Gq w1 W → W.cell? ⟨w.heap.size, 0, none⟩ = some (.string xm) ∧ W.cell? ⟨w.heap.size, 1, none⟩ = some (.int .i64 xc) ∧ W.cell? ⟨w.heap.size, 2, none⟩ = some (.int .i64 xf) ∧ W.cell? ⟨w.heap.size, 3, none⟩ = some (.int .i64 xt) ∧ W.cell? ⟨w.heap.size, 4, none⟩ = some (.int .i64 xa) ∧ W.cell? ⟨w.heap.size, 5, none⟩ = some (.int .i64 xl) ∧ W.cell? ⟨w.heap.size, 6, none⟩ = some (.slice EA el ed)) := fun W hW => by
    have k1 := blk_gqr HKA.out hW
    exact ⟨k1.cell 0, k1.cell 1, k1.cell 2, k1.cell 3, k1.cell 4, k1.cell 5, k1.cell 6⟩
  obtain ⟨c0, c1, c2, c3, c4, c5, c6⟩ := HCE.out w1 (Gq.refl _)
  have HW1 := Lib.hid hw1
  clear hw1 hel hX hxv hxc h hi hp hF HKA
  unfold FctR at HFA HFR
  obtain ⟨F1, F2, f⟩ := F
  simp only at HFA HFR
  obtain ⟨T, hT⟩ : ∃ T : ByteArray, (⟨F1.toArray⟩ : ByteArray) = T := ⟨_, rfl⟩
  obtain ⟨U, hU⟩ : ∃ U : ByteArray, (⟨F2.toArray⟩ : ByteArray) = U := ⟨_, rfl⟩
  rw [hT, hU] at HFA HFR
  clear hT hU
  go_enter Tryz.func5, Tryz.ntmps5
  go_upto_region 1 with (fail)
  rw [← HW1.out]
  go_wp2_with fail
  refine (HFA.out w1 (Gq.refl _)).mono ?_
  rintro e w2 ⟨rfl, hb2⟩
  have HG2 : Hid (Gq w1 w2) := hb2
  obtain ⟨w3, hw3⟩ : ∃ w3, w3 = w2.alloc (.cells #[.string T, .string U] 38) := ⟨_, rfl⟩
  have HG3 : Hid (Gq w2 w3) := by rw [hw3]; exact (Gq.refl _).alloc _
  have HK3 : Hid (Blk w3 w2.heap.size 38 [.string T, .string U]) := by rw [hw3]; exact Blk.new w2 _ _
  obtain ⟨d0, d1, d2, d3, d4, d5, d6⟩ := HCE.out w3 (HG2.out.trans HG3.out)
  have HW3 := Lib.hid hw3
  clear hw3 hb2 c0 c1 c2 c3 c4 c5 c6
  go_upto_region 2 with (fail)
  rw [← HW3.out]
  go_wp2_with fail
  refine (HFR.out w3 (HG2.out.trans HG3.out)).mono ?_
  rintro e w4 ⟨rfl, hb4⟩
  have HG4 : Hid (Gq w3 w4) := hb4
  obtain ⟨w5, hw5⟩ : ∃ w5, w5 = w4.alloc (.cells #[.string T, .string U] 38) := ⟨_, rfl⟩
  have HG5 : Hid (Gq w4 w5) := by rw [hw5]; exact (Gq.refl _).alloc _
  have k5 : Blk w5 w4.heap.size 38 [.string T, .string U] := by rw [hw5]; exact Blk.new w4 _ _
  have k3 := blk_gqr HK3.out (HG4.out.trans HG5.out)
  have e0 : w5.cell? ⟨w2.heap.size, 0, none⟩ = _ := k3.cell 0
  have e1 : w5.cell? ⟨w2.heap.size, 1, none⟩ = _ := k3.cell 1
  have e2 : w5.cell? ⟨w4.heap.size, 0, none⟩ = _ := k5.cell 0
  have e3 : w5.cell? ⟨w4.heap.size, 1, none⟩ = _ := k5.cell 1
  simp only [List.getElem?_cons_zero, List.getElem?_cons_succ] at e0 e1 e2 e3
  have HGW : Hid (Gq w1 w5) := HG2.out.trans (HG3.out.trans (HG4.out.trans HG5.out))
  have HW5 := Lib.hid hw5
  have HA5 := Lib.hid (HAW.out w5 HGW.out)
  clear hw5 hb4 d0 d1 d2 d3 d4 d5 d6 k3 k5
  go_upto_region 3 with (fail)
  rw [← HW5.out]
  go_wp2_with fail
  refine HA5.out.mono ?_
  rintro e w6 ⟨rfl, hb6⟩
  have HG6 : Hid (Gq w w6) := HB1.out.trans (HGW.out.trans hb6)
  clear hb6 e0 e1 e2 e3 HA5
  go_wp2_with fail
  go_ret
  exact ⟨rfl, HG6.out⟩
end Go.Proofs.YtpiiickhfcjnmaaGreatDoor
