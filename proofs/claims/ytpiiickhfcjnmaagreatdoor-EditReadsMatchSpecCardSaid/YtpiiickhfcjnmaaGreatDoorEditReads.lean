/- The walk of EditReadsMatchSpec. -/
import Derived.Test.YtpiiickhfcjnmaaGreatDoorRefF
import Derived.Test.YtpiiickhfcjnmaaGreatDoorEditTexts
namespace Go.Proofs.YtpiiickhfcjnmaaGreatDoor
open Go.RowKit Go.Dw

theorem readE_srt (t : List UInt8) : Srt (readE t).1.cs ∧ (readE t).1.cs.length ≤ 300 := by
  by_cases h : (readE t).2.2 = 0
  · have h1 : readE t = ((readE t).1, (readE t).2.1, 0) := by rw [← h]
    have h2 := (txtF_read (read_text h1)).2
    exact ⟨ediF_srt h2 (fun hz => firstNZ_zer hz), (ediF_ok h2).l⟩
  · rw [readE_zero h]
    exact ⟨fun i _ hi => by simp [e0] at hi, by simp [e0]⟩
set_option maxRecDepth 100000 in
set_option maxHeartbeats 8000000 in
theorem readsE_law (t : ByteArray) (w : World) (_ht : t.size ≤ maxLen) (hp : HasPow w) :
    Calls Tryz.prog 4 #[.string t] w fun e w' => e = .returned (.bool true) ∧ Below w.heap.size w w' := by
  have HRD := Lib.hid (readE_any t w)
  have HRR : Hid (∀ W, Gq w W → Calls Tryz.prog 12 #[.string t] W (RedR W (readE t.data.toList))) := fun W hW => readR3_any t W (hp.below hW)
  have HAW : Hid (∀ W, Gq w W → Calls Tryz.prog 11 #[] W fun e w' => e = .returned (.bool true) ∧ Gq W w') := fun W hW => awake3 W (hp.below hW)
  have HSR := Lib.hid (readE_srt t.data.toList)
  obtain ⟨R, hR⟩ : ∃ R, readE t.data.toList = R := ⟨_, rfl⟩
  rw [hR] at HRD HRR HSR
  clear hR hp
  obtain ⟨Rx, Rn, Rf⟩ := R
  go_enter Tryz.func4, Tryz.ntmps4
  go_wp2_with fail
  refine HRD.out.mono ?_
  rintro e w1 ⟨hb1, x, rfl, hx1, hxo⟩
  simp only at hx1
  have HG1 : Hid (Gq w w1) := hb1
  have HXX := Lib.hid hx1
  have HXO := Lib.hid hxo
  clear hb1 hx1 hxo HRD
  obtain ⟨xr, xt, ⟨xA, xd, xs⟩⟩ := x
  simp only [EdtM.v, Slc.v]
  obtain ⟨xn, hxn⟩ : ∃ xn : Nat, xs.length = xn := ⟨_, rfl⟩
  have HXN := Lib.hid hxn
  rw [hxn]
  clear hxn
  obtain ⟨w2, hw2⟩ : ∃ w2, w2 = w1.alloc (.cells #[.int .i64 xr, .int .i64 xt, .slice xA xn xd] 24) := ⟨_, rfl⟩
  have HG2 : Hid (Gq w1 w2) := by rw [hw2]; exact (Gq.refl _).alloc _
  have HK2 : Hid (Blk w2 w1.heap.size 24 [.int .i64 xr, .int .i64 xt, .slice xA xn xd]) := by rw [hw2]; exact Blk.new w1 _ _
  have HW2 := Lib.hid hw2
  have HR2 := Lib.hid (HRR.out w2 (HG1.out.trans HG2.out))
  clear hw2 HRR
  go_upto_region 2 with (fail)
  rw [← HW2.out]
  go_wp2_with fail
  refine HR2.out.mono ?_
  rintro e w3 ⟨hb3, y, rfl, hy1, hyo⟩
  simp only at hy1
  have HG3 : Hid (Gq w2 w3) := hb3
  have HEQ : Hid (∀ W, Gq w3 W → Calls Tryz.prog 10 #[.agg #[.int .i64 xr, .int .i64 xt, .slice xA xn xd], y.v] W fun e w' => e = .returned (.bool true) ∧ Gq w3 w') := fun W hW => by
    have h1 : y.x.cs.length ≤ 300 := by rw [hy1]; exact HSR.out.2
    have h2 : y.cs.xs.length ≤ 300 := by simpa [EdtM.x] using h1
    have := equal_any ⟨xr, xt, ⟨xA, xd, xs⟩⟩ y (by rw [HXX.out, hy1]) (by rw [HXX.out]; exact HSR.out.1) W (HXO.out.below (HG2.out.trans (HG3.out.trans hW))) (hyo.below hW) (by omega)
    simp only [EdtM.v, Slc.v] at this ⊢
    rw [HXN.out] at this
    exact this.mono fun _ _ h => ⟨h.1, hW.trans h.2⟩
  clear hb3 hy1 hyo HR2 HSR
  obtain ⟨yr, yt, ⟨yA, yd, ys⟩⟩ := y
  simp only [EdtM.v, Slc.v] at HEQ ⊢
  generalize (ys.length : Nat) = yn at *
  obtain ⟨w4, hw4⟩ : ∃ w4, w4 = w3.alloc (.cells #[.int .i64 yr, .int .i64 yt, .slice yA yn yd] 24) := ⟨_, rfl⟩
  have HG4 : Hid (Gq w3 w4) := by rw [hw4]; exact (Gq.refl _).alloc _
  have HKY : Hid (Blk w4 w3.heap.size 24 [.int .i64 yr, .int .i64 yt, .slice yA yn yd]) := by rw [hw4]; exact Blk.new w3 _ _
  have HK4 := Lib.hid (HK2.out.same (Same.of_below (S := fun _ => True) (HG3.out.trans HG4.out)) trivial)
  have HGW : Hid (Gq w w4) := HG1.out.trans (HG2.out.trans (HG3.out.trans HG4.out))
  have HW4 := Lib.hid hw4
  clear hw4
  go_upto_region 3 with (fail)
  rw [← HW4.out]
  have c0 : w4.cell? ⟨w1.heap.size, 0, none⟩ = some (.int .i64 xr) := HK4.out.cell 0
  have c1 : w4.cell? ⟨w1.heap.size, 1, none⟩ = some (.int .i64 xt) := HK4.out.cell 1
  have c2 : w4.cell? ⟨w1.heap.size, 2, none⟩ = some (.slice xA xn xd) := HK4.out.cell 2
  have y0 : w4.cell? ⟨w3.heap.size, 0, none⟩ = some (.int .i64 yr) := HKY.out.cell 0
  have y1 : w4.cell? ⟨w3.heap.size, 1, none⟩ = some (.int .i64 yt) := HKY.out.cell 1
  have y2 : w4.cell? ⟨w3.heap.size, 2, none⟩ = some (.slice yA yn yd) := HKY.out.cell 2
  go_wp2_with fail
  refine (HEQ.out w4 HG4.out).mono ?_
  rintro e w5 ⟨rfl, hb5⟩
  have HG5 : Hid (Gq w w5) := HG1.out.trans (HG2.out.trans (HG3.out.trans hb5))
  clear hb5
  have hnn : ((Rn : Int) == (Rn : Int)) = true := by simp
  have hff : (Rf == Rf) = true := by simp
  go_wp2_with fail
  refine (HAW.out _ HG5.out).mono ?_
  rintro e w6 ⟨rfl, hb6⟩
  have HG6 : Hid (Gq w w6) := HG5.out.trans hb6
  clear hb6
  go_wp2_with fail
  go_ret
  exact ⟨rfl, HG6.out⟩
end Go.Proofs.YtpiiickhfcjnmaaGreatDoor
