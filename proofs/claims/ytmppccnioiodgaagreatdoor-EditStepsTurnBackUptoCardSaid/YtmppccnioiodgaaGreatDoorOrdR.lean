/- The contract of the reference's Order. -/
import Derived.Test.YtmppccnioiodgaaGreatDoorEdtZ
import Derived.Test.YtmppccnioiodgaaGreatDoorNumB
import Derived.Test.YtmppccnioiodgaaGreatDoorProg
import Derived.Deep.CutRange
namespace Go.Proofs.YtmppccnioiodgaaGreatDoor
open Go.RowKit Go.Dw

theorem bsL_iff (a b : ByteArray) : Op.bytesLess a.toList b.toList = decide (sLt a b) := by
  rw [ByteArray.toList_eq, ByteArray.toList_eq]
  show bL a.data.toList b.data.toList = decide (bL a.data.toList b.data.toList = true)
  cases bL a.data.toList b.data.toList <;> rfl
theorem lessO_any (b : Bool) (w : World) : Calls Tryz.prog 33 #[.bool b] w fun e w' => e = .returned (.int .i64 (if b = true then -1 else 1)) ∧ w = w' := by
  cases b
  · go_enter Tryz.func33, Tryz.ntmps33
    go_wp2_with fail
    go_ret
    exact ⟨rfl, rfl⟩
  · go_enter Tryz.func33, Tryz.ntmps33
    go_wp2_with fail
    go_ret
    exact ⟨rfl, rfl⟩
set_option maxRecDepth 100000 in
set_option maxHeartbeats 8000000 in
theorem order_any (x y : CliM) (w : World) :
    Calls Tryz.prog 16 #[x.v, y.v] w fun e w' => e = .returned (.int .i64 (cmpK x.x y.x)) ∧ Below w.heap.size w w' := by
  obtain ⟨xm, xc, xf, xt, xa, xl, ⟨xA, xk, xe⟩⟩ := x
  obtain ⟨ym, yc, yf, yt, ya, yl, ⟨yA, yk, ye⟩⟩ := y
  obtain ⟨r, hr⟩ : ∃ r, cmpK (CliM.x ⟨xm, xc, xf, xt, xa, xl, ⟨xA, xk, xe⟩⟩) (CliM.x ⟨ym, yc, yf, yt, ya, yl, ⟨yA, yk, ye⟩⟩) = r := ⟨_, rfl⟩
  have H0 : Hid (orZ [cmpZ xt yt, cmpZ xa ya, cmpS xm ym, cmpZ xc yc, cmpZ xf yf, cmpZ xl yl] = r) := hr
  rw [hr]
  have HLT := Lib.hid (fun W => lessO_any true W)
  have HLF := Lib.hid (fun W => lessO_any false W)
  simp only [if_true, Bool.false_eq_true, if_false] at HLT HLF
  simp only [CliM.v, Slc.v]
  generalize (xe.length : Nat) = xn at *
  generalize (ye.length : Nat) = yn at *
  obtain ⟨w1, hw1⟩ : ∃ w1, w1 = (w.alloc (.cells #[.string xm, .int .i64 xc, .int .i64 xf, .int .i64 xt, .int .i64 xa, .int .i64 xl, .slice xA xn xk] 51)).alloc (.cells #[.string ym, .int .i64 yc, .int .i64 yf, .int .i64 yt, .int .i64 ya, .int .i64 yl, .slice yA yn yk] 51) := ⟨_, rfl⟩
  have HB : Hid (Below w.heap.size w w1) := by rw [hw1]; exact ((Below.refl _ _).alloc (Nat.le_refl _) _).alloc (by simp) _
  have HK : Hid (Blk w1 w.heap.size 51 [.string xm, .int .i64 xc, .int .i64 xf, .int .i64 xt, .int .i64 xa, .int .i64 xl, .slice xA xn xk] ∧ Blk w1 (w.heap.size + 1) 51 [.string ym, .int .i64 yc, .int .i64 yf, .int .i64 yt, .int .i64 ya, .int .i64 yl, .slice yA yn yk]) := by
    have k1 := Blk.new w 51 [.string xm, .int .i64 xc, .int .i64 xf, .int .i64 xt, .int .i64 xa, .int .i64 xl, .slice xA xn xk]
    have k2 := Blk.new (w.alloc (.cells #[.string xm, .int .i64 xc, .int .i64 xf, .int .i64 xt, .int .i64 xa, .int .i64 xl, .slice xA xn xk] 51)) 51 [.string ym, .int .i64 yc, .int .i64 yf, .int .i64 yt, .int .i64 ya, .int .i64 yl, .slice yA yn yk]
    have e2 : (w.alloc (.cells #[.string xm, .int .i64 xc, .int .i64 xf, .int .i64 xt, .int .i64 xa, .int .i64 xl, .slice xA xn xk] 51)).heap.size = w.heap.size + 1 := by simp
    rw [e2] at k2
    rw [hw1]
    exact ⟨k1.same (Same.of_below (S := fun _ => True) ((Gq.refl _).alloc _)) trivial, k2⟩
  have HW := Lib.hid hw1
  clear hw1 hr
  go_enter Tryz.func16, Tryz.ntmps16
  go_upto_region 1 with (fail)
  rw [← HW.out]
  have a1 : w1.cell? ⟨w.heap.size, 3, none⟩ = some (.int .i64 xt) := HK.out.1.cell 3
  have b1 : w1.cell? ⟨w.heap.size + 1, 3, none⟩ = some (.int .i64 yt) := HK.out.2.cell 3
  by_cases h1 : xt = yt
  case neg =>
    have hb : (!(xt == yt)) = true := by simp [h1]
    have HQ : Hid (r = if xt < yt then -1 else 1) := by show _ = _; rw [← H0.out, orZ_step (· < ·) xt yt _ (cmpZ_val xt yt) (by omega), if_neg h1]
    by_cases hl : xt < yt
    · have hlb : decide (xt < yt) = true := decide_eq_true hl
      have HR2 : Hid (r = -1) := by show _ = _; rw [HQ.out, if_pos hl]
      go_wp2_with fail
      refine (HLT.out _).mono ?_
      rintro e w' ⟨rfl, rfl⟩
      go_wp2_with fail
      go_ret
      exact ⟨ret_int HR2.out.symm, HB.out⟩
    · have hlb : decide (xt < yt) = false := decide_eq_false hl
      have HR2 : Hid (r = 1) := by show _ = _; rw [HQ.out, if_neg hl]
      go_wp2_with fail
      refine (HLF.out _).mono ?_
      rintro e w' ⟨rfl, rfl⟩
      go_wp2_with fail
      go_ret
      exact ⟨ret_int HR2.out.symm, HB.out⟩
  have hb1 : (!(xt == yt)) = false := by simp [h1]
  have H1 := Lib.hid ((orZ_step (· < ·) xt yt _ (cmpZ_val xt yt) (by omega) _).symm.trans H0.out)
  rw [if_pos h1] at H1
  have a2 : w1.cell? ⟨w.heap.size, 4, none⟩ = some (.int .i64 xa) := HK.out.1.cell 4
  have b2 : w1.cell? ⟨w.heap.size + 1, 4, none⟩ = some (.int .i64 ya) := HK.out.2.cell 4
  by_cases h2 : xa = ya
  case neg =>
    have hb : (!(xa == ya)) = true := by simp [h2]
    have HQ : Hid (r = if xa < ya then -1 else 1) := by show _ = _; rw [← H1.out, orZ_step (· < ·) xa ya _ (cmpZ_val xa ya) (by omega), if_neg h2]
    by_cases hl : xa < ya
    · have hlb : decide (xa < ya) = true := decide_eq_true hl
      have HR2 : Hid (r = -1) := by show _ = _; rw [HQ.out, if_pos hl]
      go_wp2_with fail
      refine (HLT.out _).mono ?_
      rintro e w' ⟨rfl, rfl⟩
      go_wp2_with fail
      go_ret
      exact ⟨ret_int HR2.out.symm, HB.out⟩
    · have hlb : decide (xa < ya) = false := decide_eq_false hl
      have HR2 : Hid (r = 1) := by show _ = _; rw [HQ.out, if_neg hl]
      go_wp2_with fail
      refine (HLF.out _).mono ?_
      rintro e w' ⟨rfl, rfl⟩
      go_wp2_with fail
      go_ret
      exact ⟨ret_int HR2.out.symm, HB.out⟩
  have hb2 : (!(xa == ya)) = false := by simp [h2]
  have H2 := Lib.hid ((orZ_step (· < ·) xa ya _ (cmpZ_val xa ya) (by omega) _).symm.trans H1.out)
  rw [if_pos h2] at H2
  have a3 : w1.cell? ⟨w.heap.size, 0, none⟩ = some (.string xm) := HK.out.1.cell 0
  have b3 : w1.cell? ⟨w.heap.size + 1, 0, none⟩ = some (.string ym) := HK.out.2.cell 0
  by_cases h3 : xm = ym
  case neg =>
    have hb : (!(xm.toList == ym.toList)) = true := by rw [seq_f h3]; rfl
    have HQ : Hid (r = if sLt xm ym then -1 else 1) := by show _ = _; rw [← H2.out, orZ_step sLt xm ym _ (cmpS_val xm ym) (sLt_irr xm), if_neg h3]
    by_cases hl : sLt xm ym
    · have hlb : Op.bytesLess xm.toList ym.toList = true := by rw [bsL_iff]; exact decide_eq_true hl
      have HR2 : Hid (r = -1) := by show _ = _; rw [HQ.out, if_pos hl]
      go_wp2_with fail
      refine (HLT.out _).mono ?_
      rintro e w' ⟨rfl, rfl⟩
      go_wp2_with fail
      go_ret
      exact ⟨ret_int HR2.out.symm, HB.out⟩
    · have hlb : Op.bytesLess xm.toList ym.toList = false := by rw [bsL_iff]; exact decide_eq_false hl
      have HR2 : Hid (r = 1) := by show _ = _; rw [HQ.out, if_neg hl]
      go_wp2_with fail
      refine (HLF.out _).mono ?_
      rintro e w' ⟨rfl, rfl⟩
      go_wp2_with fail
      go_ret
      exact ⟨ret_int HR2.out.symm, HB.out⟩
  have hb3 : (!(xm.toList == ym.toList)) = false := by rw [seq_t h3]; rfl
  have H3 := Lib.hid ((orZ_step sLt xm ym _ (cmpS_val xm ym) (sLt_irr xm) _).symm.trans H2.out)
  rw [if_pos h3] at H3
  have a4 : w1.cell? ⟨w.heap.size, 1, none⟩ = some (.int .i64 xc) := HK.out.1.cell 1
  have b4 : w1.cell? ⟨w.heap.size + 1, 1, none⟩ = some (.int .i64 yc) := HK.out.2.cell 1
  by_cases h4 : xc = yc
  case neg =>
    have hb : (!(xc == yc)) = true := by simp [h4]
    have HQ : Hid (r = if xc < yc then -1 else 1) := by show _ = _; rw [← H3.out, orZ_step (· < ·) xc yc _ (cmpZ_val xc yc) (by omega), if_neg h4]
    by_cases hl : xc < yc
    · have hlb : decide (xc < yc) = true := decide_eq_true hl
      have HR2 : Hid (r = -1) := by show _ = _; rw [HQ.out, if_pos hl]
      go_wp2_with fail
      refine (HLT.out _).mono ?_
      rintro e w' ⟨rfl, rfl⟩
      go_wp2_with fail
      go_ret
      exact ⟨ret_int HR2.out.symm, HB.out⟩
    · have hlb : decide (xc < yc) = false := decide_eq_false hl
      have HR2 : Hid (r = 1) := by show _ = _; rw [HQ.out, if_neg hl]
      go_wp2_with fail
      refine (HLF.out _).mono ?_
      rintro e w' ⟨rfl, rfl⟩
      go_wp2_with fail
      go_ret
      exact ⟨ret_int HR2.out.symm, HB.out⟩
  have hb4 : (!(xc == yc)) = false := by simp [h4]
  have H4 := Lib.hid ((orZ_step (· < ·) xc yc _ (cmpZ_val xc yc) (by omega) _).symm.trans H3.out)
  rw [if_pos h4] at H4
  have a5 : w1.cell? ⟨w.heap.size, 2, none⟩ = some (.int .i64 xf) := HK.out.1.cell 2
  have b5 : w1.cell? ⟨w.heap.size + 1, 2, none⟩ = some (.int .i64 yf) := HK.out.2.cell 2
  by_cases h5 : xf = yf
  case neg =>
    have hb : (!(xf == yf)) = true := by simp [h5]
    have HQ : Hid (r = if xf < yf then -1 else 1) := by show _ = _; rw [← H4.out, orZ_step (· < ·) xf yf _ (cmpZ_val xf yf) (by omega), if_neg h5]
    by_cases hl : xf < yf
    · have hlb : decide (xf < yf) = true := decide_eq_true hl
      have HR2 : Hid (r = -1) := by show _ = _; rw [HQ.out, if_pos hl]
      go_wp2_with fail
      refine (HLT.out _).mono ?_
      rintro e w' ⟨rfl, rfl⟩
      go_wp2_with fail
      go_ret
      exact ⟨ret_int HR2.out.symm, HB.out⟩
    · have hlb : decide (xf < yf) = false := decide_eq_false hl
      have HR2 : Hid (r = 1) := by show _ = _; rw [HQ.out, if_neg hl]
      go_wp2_with fail
      refine (HLF.out _).mono ?_
      rintro e w' ⟨rfl, rfl⟩
      go_wp2_with fail
      go_ret
      exact ⟨ret_int HR2.out.symm, HB.out⟩
  have hb5 : (!(xf == yf)) = false := by simp [h5]
  have H5 := Lib.hid ((orZ_step (· < ·) xf yf _ (cmpZ_val xf yf) (by omega) _).symm.trans H4.out)
  rw [if_pos h5] at H5
  have a6 : w1.cell? ⟨w.heap.size, 5, none⟩ = some (.int .i64 xl) := HK.out.1.cell 5
  have b6 : w1.cell? ⟨w.heap.size + 1, 5, none⟩ = some (.int .i64 yl) := HK.out.2.cell 5
  by_cases h6 : xl = yl
  case neg =>
    have hb : (!(xl == yl)) = true := by simp [h6]
    have HQ : Hid (r = if xl < yl then -1 else 1) := by show _ = _; rw [← H5.out, orZ_step (· < ·) xl yl _ (cmpZ_val xl yl) (by omega), if_neg h6]
    by_cases hl : xl < yl
    · have hlb : decide (xl < yl) = true := decide_eq_true hl
      have HR2 : Hid (r = -1) := by show _ = _; rw [HQ.out, if_pos hl]
      go_wp2_with fail
      refine (HLT.out _).mono ?_
      rintro e w' ⟨rfl, rfl⟩
      go_wp2_with fail
      go_ret
      exact ⟨ret_int HR2.out.symm, HB.out⟩
    · have hlb : decide (xl < yl) = false := decide_eq_false hl
      have HR2 : Hid (r = 1) := by show _ = _; rw [HQ.out, if_neg hl]
      go_wp2_with fail
      refine (HLF.out _).mono ?_
      rintro e w' ⟨rfl, rfl⟩
      go_wp2_with fail
      go_ret
      exact ⟨ret_int HR2.out.symm, HB.out⟩
  have hb6 : (!(xl == yl)) = false := by simp [h6]
  have H6 := Lib.hid ((orZ_step (· < ·) xl yl _ (cmpZ_val xl yl) (by omega) _).symm.trans H5.out)
  rw [if_pos h6] at H6
  have HQ : Hid (r = 0) := H6.out.symm
  go_wp2_with fail
  go_ret
  exact ⟨ret_int HQ.out.symm, HB.out⟩
end Go.Proofs.YtmppccnioiodgaaGreatDoor
