/- The walk of EditTextsComeBack. -/
import Derived.Test.YtpiiickhfcjnmaaGreatDoorAwk
import Derived.Test.YtpiiickhfcjnmaaGreatDoorTxtA
import Derived.Test.YtpiiickhfcjnmaaGreatDoorEdtZ
import Derived.Test.YtpiiickhfcjnmaaGreatDoorLaid
import Derived.Test.YtpiiickhfcjnmaaGreatDoorRedH
import Derived.Test.YtpiiickhfcjnmaaGreatDoorSamZ
namespace Go.Proofs.YtpiiickhfcjnmaaGreatDoor
open Go.RowKit Go.Dw

theorem rdG_zero : ∀ (f : Nat) (t : List UInt8) (i : Nat) (e : Edt), (rdG f t i e).2.2 ≠ 0 → (rdG f t i e).1 = e0
  | 0, t, i, e => by
    rw [rdG]
    unfold finE
    split
    · intro h; exact absurd rfl h
    · intro _; rfl
  | f + 1, t, i, e => by
    rw [rdG]
    split
    · unfold finE
      split
      · intro h; exact absurd rfl h
      · intro _; rfl
    · split
      · intro _; rfl
      · split
        · intro _; rfl
        · exact rdG_zero f _ _ _
theorem readE_zero {t : List UInt8} (h : (readE t).2.2 ≠ 0) : (readE t).1 = e0 := by
  unfold readE at h ⊢
  split
  · rfl
  · rename_i hl
    rw [if_neg hl] at h
    exact rdG_zero _ _ _ _ h
theorem txtF_read {e : Edt} {T : List UInt8} (h : txtF isNm 1000000 e = (T, 0)) : readE T = (e, 0, 0) ∧ ediF isNm 1000000 e = 0 := by
  unfold txtF at h
  split at h
  · rename_i h0
    injection h with _ h2
    exact absurd h2 h0
  · rename_i h0
    split at h
    · injection h with _ h2; omega
    · rename_i h5
      injection h with h1 _
      subst h1
      exact ⟨text_backE (by simpa using h0) (by omega), by simpa using h0⟩
set_option maxRecDepth 100000 in
set_option maxHeartbeats 8000000 in
theorem texts_law (x : EdtM) (t : ByteArray) (w : World) (h : EdtOk w x) (_ht : t.size ≤ maxLen) (hp : HasPow w) :
    Calls Tryz.prog 3 #[x.v, .string t] w fun e w' => e = .returned (.bool true) ∧ Below w.heap.size w w' := by
  have HTX : Hid (∀ W, Gq w W → Calls Tryz.prog 8 #[x.v] W fun e w' => e = .returned (.tuple #[.string (mkB (txtF isNm 1000000 x.x).1), .int .i64 (txtF isNm 1000000 x.x).2]) ∧ Gq W w') := fun W hW => text_e x W (h.below hW) (hp.below hW)
  have HTY : Hid (∀ (y : EdtM) (W : World), Gq w W → EdtOk W y → Calls Tryz.prog 8 #[y.v] W fun e w' => e = .returned (.tuple #[.string (mkB (txtF isNm 1000000 y.x).1), .int .i64 (txtF isNm 1000000 y.x).2]) ∧ Gq W w') := fun y W hW hy => text_e y W hy (hp.below hW)
  have HAW : Hid (∀ W, Gq w W → Calls Tryz.prog 11 #[] W fun e w' => e = .returned (.bool true) ∧ Gq W w') := fun W hW => awake3 W (hp.below hW)
  obtain ⟨TX, hTX⟩ : ∃ TX, (txtF isNm 1000000 x.x).1 = TX := ⟨_, rfl⟩
  obtain ⟨fx, hfx⟩ : ∃ fx, (txtF isNm 1000000 x.x).2 = fx := ⟨_, rfl⟩
  have HBK : Hid (fx = 0 → readE TX = (x.x, 0, 0) ∧ Srt x.x.cs ∧ x.cs.xs.length ≤ 300) := fun h0 => by
    have := txtF_read (e := x.x) (T := TX) (by rw [← hTX]; exact Prod.ext rfl (by rw [hfx]; exact h0))
    refine ⟨this.1, ediF_srt this.2 (fun hz => firstNZ_zer hz), ?_⟩
    have := (ediF_ok this.2).l
    simpa [EdtM.x] using this
  rw [hTX, hfx] at HTX
  have HOK := Lib.hid h
  clear hTX hfx hp
  obtain ⟨r1, t1, ⟨A, d, xs⟩⟩ := x
  simp only [EdtM.v, Slc.v] at HTX ⊢
  obtain ⟨xn, hxn⟩ : ∃ xn : Nat, xs.length = xn := ⟨_, rfl⟩
  have HXN := Lib.hid hxn
  rw [hxn] at HTX ⊢
  clear hxn
  obtain ⟨w1, hw1⟩ : ∃ w1, w1 = w.alloc (.cells #[.int .i64 r1, .int .i64 t1, .slice A xn d] 24) := ⟨_, rfl⟩
  have HG1 : Hid (Gq w w1) := by rw [hw1]; exact (Gq.refl _).alloc _
  have HK1 : Hid (Blk w1 w.heap.size 24 [.int .i64 r1, .int .i64 t1, .slice A xn d]) := by rw [hw1]; exact Blk.new w _ _
  have c0 : w1.cell? ⟨w.heap.size, 0, none⟩ = some (.int .i64 r1) := HK1.out.cell 0
  have c1 : w1.cell? ⟨w.heap.size, 1, none⟩ = some (.int .i64 t1) := HK1.out.cell 1
  have c2 : w1.cell? ⟨w.heap.size, 2, none⟩ = some (.slice A xn d) := HK1.out.cell 2
  have HW := Lib.hid hw1
  clear hw1 h
  go_enter Tryz.func3, Tryz.ntmps3
  go_upto_region 1 with (fail)
  rw [← HW.out]
  go_wp2_with fail
  refine (HTX.out _ HG1.out).mono ?_
  rintro e w2 ⟨rfl, hb2⟩
  have HG2 : Hid (Gq w w2) := HG1.out.trans hb2
  have HK2 := Lib.hid (HK1.out.same (Same.of_below (S := fun _ => True) hb2) trivial)
  clear hb2 c0 c1 c2
  go_upto_if 20 with (fail)
  go_cut [] (fun wx => Hid (Gq w wx))
  case first =>
    by_cases hf : fx = 0
    case neg =>
      have hfb : (fx == 0) = false := by simpa using hf
      clear hf
      go_wp2_with fail
      go_meet
      case rel => exact HG2
    obtain ⟨hb1, hb2, hb3⟩ := HBK.out hf
    subst hf
    have HRD := Lib.hid (readE_any (mkB TX) w2)
    rw [show (mkB TX).data.toList = TX from mkE_list TX, hb1] at HRD
    have HSR : Hid (Srt (EdtM.x ⟨r1, t1, ⟨A, d, xs⟩⟩).cs) := hb2
    have HXL : Hid (xs.length ≤ 300) := hb3
    clear hb1 hb2 hb3
    go_wp2_with fail
    refine HRD.out.mono ?_
    rintro e w3 ⟨hb3, y, rfl, hyx, hyo⟩
    have HG3 : Hid (Gq w w3) := HG2.out.trans hb3
    have HK3 := Lib.hid (HK2.out.same (Same.of_below (S := fun _ => True) hb3) trivial)
    have HEQ : Hid (∀ W, Gq w3 W → Calls Tryz.prog 10 #[y.v, .agg #[.int .i64 r1, .int .i64 t1, .slice A xn d]] W fun e w' => e = .returned (.bool true) ∧ Gq W w') := fun W hW => by
      have := equal_any y ⟨r1, t1, ⟨A, d, xs⟩⟩ hyx (by rw [hyx]; exact HSR.out) W (hyo.below hW) (HOK.out.below (HG3.out.trans hW)) (by show xs.length ≤ _; have := HXL.out; omega)
      simp only [EdtM.v, Slc.v] at this ⊢
      rw [HXN.out] at this
      exact this
    clear hb3 hyx hyo HRD HSR HXL
    obtain ⟨yr, yt, ⟨yA, yd, ys⟩⟩ := y
    simp only [EdtM.v, Slc.v] at HEQ ⊢
    generalize (ys.length : Nat) = yn at *
    obtain ⟨w4, hw4⟩ : ∃ w4, w4 = w3.alloc (.cells #[.int .i64 yr, .int .i64 yt, .slice yA yn yd] 24) := ⟨_, rfl⟩
    have HG4 : Hid (Gq w3 w4) := by rw [hw4]; exact (Gq.refl _).alloc _
    have HKY : Hid (Blk w4 w3.heap.size 24 [.int .i64 yr, .int .i64 yt, .slice yA yn yd]) := by rw [hw4]; exact Blk.new w3 _ _
    have HK4 := Lib.hid (HK3.out.same (Same.of_below (S := fun _ => True) HG4.out) trivial)
    have HW4 := Lib.hid hw4
    clear hw4
    have HEY := Lib.hid (HEQ.out w4 HG4.out)
    go_upto_region 4 with (fail)
    rw [← HW4.out]
    have c0 : w4.cell? ⟨w.heap.size, 0, none⟩ = some (.int .i64 r1) := HK4.out.cell 0
    have c1 : w4.cell? ⟨w.heap.size, 1, none⟩ = some (.int .i64 t1) := HK4.out.cell 1
    have c2 : w4.cell? ⟨w.heap.size, 2, none⟩ = some (.slice A xn d) := HK4.out.cell 2
    have y0 : w4.cell? ⟨w3.heap.size, 0, none⟩ = some _ := HKY.out.cell 0
    have y1 : w4.cell? ⟨w3.heap.size, 1, none⟩ = some _ := HKY.out.cell 1
    have y2 : w4.cell? ⟨w3.heap.size, 2, none⟩ = some _ := HKY.out.cell 2
    go_wp2_with fail
    refine HEY.out.mono ?_
    rintro e w5 ⟨rfl, hb5⟩
    have HG5 : Hid (Gq w w5) := HG3.out.trans (HG4.out.trans hb5)
    clear hb5 c0 c1 c2 y0 y1 y2
    go_wp2_with fail
    go_meet
    case rel => exact HG5
  case rest =>
    have HGC : Hid (Gq w wc) := hcut
    have HRD := Lib.hid (readE_any t wc)
    have HZ := Lib.hid (fun h => readE_zero (t := t.data.toList) h)
    have HRT := Lib.hid (fun (z : Edt) (n : Nat) h => read_text (t := t.data.toList) (x := z) (n := n) h)
    obtain ⟨R, hR⟩ : ∃ R, readE t.data.toList = R := ⟨_, rfl⟩
    rw [hR] at HRD HZ
    simp only [hR] at HRT
    clear hR
    obtain ⟨Rx, Rn, Rf⟩ := R
    go_wp2_with fail
    refine HRD.out.mono ?_
    rintro e w3 ⟨hb3, y, rfl, hyx, hyo⟩
    have HG3 : Hid (Gq w w3) := HGC.out.trans hb3
    simp only at hyx
    have HYO := Lib.hid hyo
    have HYX := Lib.hid hyx
    have HTT : Hid (Rf = 0 → ∀ W, Gq w3 W → Calls Tryz.prog 8 #[y.v] W fun e w' => e = .returned (.tuple #[.string t, .int .i64 0]) ∧ Gq W w') := fun h0 W hW => by
      have h1 := HTY.out y W (HG3.out.trans hW) (HYO.out.below hW)
      have h2 := HRT.out Rx Rn (by rw [h0])
      rw [HYX.out, h2] at h1
      have h3 : mkB t.data.toList = t := mkB_bl t
      refine h1.mono fun en W' ⟨q1, q2⟩ => ⟨?_, q2⟩
      rw [q1]
      show Ending.returned (.tuple #[.string (mkB t.data.toList), .int .i64 0]) = _
      rw [h3]
    have HLZ : Hid (Rf ≠ 0 → y.cs.xs.length = 0) := fun h0 => by
      have h1 : Rx = Go.Proofs.YtpiiickhfcjnmaaGreatDoor.e0 := HZ.out h0
      have h2 : y.x.cs = [] := by rw [HYX.out, h1]; rfl
      have h3 := congrArg List.length h2
      simpa [EdtM.x] using h3
    clear hb3 hyx hyo HRD HZ HRT HTX
    obtain ⟨yr, yt, ⟨yA, yd, ys⟩⟩ := y
    simp only [EdtM.v, Slc.v] at HTT HLZ ⊢
    obtain ⟨yn, hyn⟩ : ∃ yn : Nat, ys.length = yn := ⟨_, rfl⟩
    rw [hyn] at HTT HLZ ⊢
    clear hyn
    obtain ⟨w4, hw4⟩ : ∃ w4, w4 = w3.alloc (.cells #[.int .i64 yr, .int .i64 yt, .slice yA yn yd] 24) := ⟨_, rfl⟩
    have HG4 : Hid (Gq w3 w4) := by rw [hw4]; exact (Gq.refl _).alloc _
    have HKY : Hid (Blk w4 w3.heap.size 24 [.int .i64 yr, .int .i64 yt, .slice yA yn yd]) := by rw [hw4]; exact Blk.new w3 _ _
    have HGW4 : Hid (Gq w w4) := HG3.out.trans HG4.out
    have HW4 := Lib.hid hw4
    clear hw4
    go_upto_region 7 with (fail)
    rw [← HW4.out]
    have y0 : w4.cell? ⟨w3.heap.size, 0, none⟩ = some _ := HKY.out.cell 0
    have y1 : w4.cell? ⟨w3.heap.size, 1, none⟩ = some _ := HKY.out.cell 1
    have y2 : w4.cell? ⟨w3.heap.size, 2, none⟩ = some _ := HKY.out.cell 2
    by_cases hf : Rf = 0
    case neg =>
      have hyz := HLZ.out hf
      subst hyz
      have hfb : (Rf != 0) = true := by simpa using hf
      clear hf
      go_wp2_with fail
      refine (HAW.out _ HGW4.out).mono ?_
      rintro e w5 ⟨rfl, hb5⟩
      have HG5 : Hid (Gq w w5) := HGW4.out.trans hb5
      clear hb5 y0 y1 y2
      go_wp2_with fail
      go_ret
      exact ⟨rfl, HG5.out⟩
    have HT2 := Lib.hid (HTT.out hf w4 HG4.out)
    subst hf
    go_wp2_with fail
    refine HT2.out.mono ?_
    rintro e w5 ⟨rfl, hb5⟩
    have HG5 : Hid (Gq w w5) := HGW4.out.trans hb5
    clear hb5 y0 y1 y2
    have e2 : (t.toList == t.toList) = true := by simp
    go_wp2_with fail
    refine (HAW.out _ HG5.out).mono ?_
    rintro e w6 ⟨rfl, hb6⟩
    have HG6 : Hid (Gq w w6) := HG5.out.trans hb6
    clear hb6
    go_wp2_with fail
    go_ret
    exact ⟨rfl, HG6.out⟩
end Go.Proofs.YtpiiickhfcjnmaaGreatDoor
