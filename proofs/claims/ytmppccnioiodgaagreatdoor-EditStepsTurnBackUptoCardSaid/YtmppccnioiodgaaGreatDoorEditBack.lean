/- Generated (gen/bck.py): the walk of EditStepsTurnBack. -/
import Derived.Test.YtmppccnioiodgaaGreatDoorSteZ
import Derived.Test.YtmppccnioiodgaaGreatDoorTuZ
import Derived.Test.YtmppccnioiodgaaGreatDoorSmS
import Derived.Test.YtmppccnioiodgaaGreatDoorSam
import Derived.Test.YtmppccnioiodgaaGreatDoorEndZ
import Derived.Test.YtmppccnioiodgaaGreatDoorEdtZ
import Derived.Test.YtmppccnioiodgaaGreatDoorStpZ
namespace Go.Proofs.YtmppccnioiodgaaGreatDoor
open Go.RowKit Go.Dw

theorem applyL_bad {nm : ByteArray → Bool} {mx : Int} : ∀ (l : List Stp) (e : Edt) (i : Nat), (applyL nm mx e l i).2.2 ≠ 0 → (applyL nm mx e l i).1 = e0
  | [], _, _, h => absurd rfl h
  | s :: l, e, i, h => by
    rw [applyL] at h ⊢
    split
    · rfl
    · rename_i h1
      rw [if_neg h1] at h
      split
      · rfl
      · rename_i h2
        rw [if_neg h2] at h
        exact applyL_bad l _ _ h
theorem applyF_bad {nm : ByteArray → Bool} {mx : Int} {e : Edt} {l : List Stp} (h : (applyF nm mx e l).2.2 ≠ 0) : (applyF nm mx e l).1 = e0 := by
  unfold applyF at h ⊢
  split
  · rfl
  · rename_i h1
    rw [if_neg h1] at h
    split
    · rfl
    · rename_i h2
      rw [if_neg h2] at h
      exact applyL_bad _ _ _ h
theorem applyF_len {nm : ByteArray → Bool} {mx : Int} {e a : Edt} {l : List Stp} {k : Nat} (h : applyF nm mx e l = (a, k, 0)) : e.cs.length ≤ 300 ∧ l.length ≤ 200 := by
  unfold applyF at h
  by_cases h1 : ediF nm mx e ≠ 0
  · rw [if_pos h1] at h; injection h with _ h; injection h with _ h; exact absurd h h1
  · rw [if_neg h1] at h
    by_cases h2 : 200 < l.length
    · rw [if_pos h2] at h; injection h with _ h; injection h with _ h; omega
    · exact ⟨(ediF_parts (by simpa using h1)).2.1, by omega⟩
set_option maxRecDepth 100000 in
set_option maxHeartbeats 16000000 in
theorem back_law (a : EdtM) (l : Slc StpM) (w : World) (ha : EdtOk w a) (hl : StsB 1048576 w l) (hp : HasPow w) :
    Calls Tryz.prog 3 #[a.v, l.v] w fun e w' => e = .returned (.bool true) ∧ Below w.heap.size w w' := by
  obtain ⟨RA, hRA⟩ : ∃ r, applyF isNm 1000000 a.x (l.xs.map StpM.x) = r := ⟨_, rfl⟩
  have HRA := Lib.hid hRA
  have HA := Lib.hid ha
  have HLL := Lib.hid hl
  have H1 : Hid (∀ W, Gq w W → Calls Tryz.prog 4 #[a.v, l.v] W (AplR RA W)) := fun W hW => by rw [← hRA]; exact apply_any a l W (ha.below hW) (hl.below hW)
  have H3 : Hid (∀ W, Gq w W → Calls Tryz.prog 6 #[l.v] W (TurR 1048576 (turnedF (l.xs.map StpM.x)) W)) := fun W hW => turned_any l W (hl.below hW)
  have HAW : Hid (∀ W, Gq w W → Calls Tryz.prog 5 #[] W fun e w' => e = .returned (.bool true) ∧ Gq W w') := fun W hW => awake3 W (hp.below hW)
  have HBD : Hid (RA.2.2 ≠ 0 → RA.1 = e0) := fun h => by rw [← hRA] at h ⊢; exact applyF_bad h
  clear hRA ha hl hp
  obtain ⟨Ax, An, Af⟩ := RA
  simp only at HBD
  obtain ⟨a', ha'⟩ : ∃ z, a = z := ⟨_, rfl⟩
  obtain ⟨l', hl'⟩ : ∃ z, l = z := ⟨_, rfl⟩
  have HAV : Hid (a'.v = a.v) := by show _ = _; rw [ha']
  have HLV : Hid (l'.v = l.v) := by show _ = _; rw [hl']
  rw [ha'] at HRA HA H1
  rw [hl'] at HRA HLL H1 H3
  rw [HAV.out] at H1
  rw [HLV.out] at H1 H3
  clear ha' hl'
  obtain ⟨ar, at_, ⟨aA, ad, as_⟩⟩ := a
  obtain ⟨lA, lc, ls⟩ := l
  simp only [EdtM.v, Slc.v] at H1 H3 ⊢
  obtain ⟨an, han⟩ : ∃ an : Nat, as_.length = an := ⟨_, rfl⟩
  obtain ⟨ln, hln⟩ : ∃ ln : Nat, ls.length = ln := ⟨_, rfl⟩
  rw [han, hln] at H1 ⊢
  rw [hln] at H3
  replace HAV : Hid (a'.v = .agg #[.int .i64 ar, .int .i64 at_, .slice aA an ad]) := by have := HAV.out; rw [← han]; exact this
  replace HLV : Hid (l'.v = .slice lA ln lc) := by have := HLV.out; rw [← hln]; exact this
  clear han hln
  obtain ⟨w1, hw1⟩ : ∃ w1, w1 = w.alloc (.cells #[.int .i64 ar, .int .i64 at_, .slice aA an ad] 24) := ⟨_, rfl⟩
  have HG1 : Hid (Gq w w1) := by rw [hw1]; exact (Gq.refl _).alloc _
  have HKA : Hid (Blk w1 w.heap.size 24 [.int .i64 ar, .int .i64 at_, .slice aA an ad]) := by rw [hw1]; exact Blk.new w _ _
  have HCO : Hid (∀ W W' g (r t : Int) A m c, Blk W g 24 [.int .i64 r, .int .i64 t, .slice A m c] → Gq W W' → W'.cell? ⟨g, 0, none⟩ = some (.int .i64 r) ∧ W'.cell? ⟨g, 1, none⟩ = some (.int .i64 t) ∧ W'.cell? ⟨g, 2, none⟩ = some (.slice A m c)) := fun W W' g r t A m c h hg => by
    have k := blkq h hg
    exact ⟨k.cell 0, k.cell 1, k.cell 2⟩
  have HW1 := Lib.hid hw1
  obtain ⟨c0, c1, c2⟩ := HCO.out _ w1 _ _ _ _ _ _ HKA.out (Gq.refl _)
  have HC1 := Lib.hid (H1.out w1 HG1.out)
  clear hw1 H1
  go_enter Tryz.func3, Tryz.ntmps3
  go_upto_region 1 with (fail)
  rw [← HW1.out]
  go_wp2_with fail
  refine HC1.out.mono ?_
  rintro e u1 ⟨hb, x, rfl, hx1, hxo⟩
  have HXx : Hid (x.x = Ax) := hx1
  have HOx := Lib.hid hxo
  obtain ⟨x', hx'⟩ : ∃ z, x = z := ⟨_, rfl⟩
  have HVx : Hid (x'.v = x.v) := by show _ = _; rw [hx']
  have HXx' : Hid (x'.x = Ax) := by rw [← hx']; exact HXx.out
  have HOx' : Hid (EdtOk u1 x') := by rw [← hx']; exact HOx.out
  have HLx : Hid (x'.cs.xs.length = x.cs.xs.length) := by show _ = _; rw [hx']
  clear hx' hx1 hxo HXx HOx
  obtain ⟨xr, xt, ⟨xA, xd, xs⟩⟩ := x
  replace HVx : Hid (x'.v = .agg #[.int .i64 xr, .int .i64 xt, .slice xA xs.length xd]) := HVx
  replace HLx : Hid (x'.cs.xs.length = xs.length) := HLx
  simp only [EdtM.v, Slc.v]
  obtain ⟨xn, hxn⟩ : ∃ n : Nat, xs.length = n := ⟨_, rfl⟩
  rw [hxn] at HVx HLx ⊢
  clear hxn
  obtain ⟨w3, hw⟩ : ∃ W, W = u1.alloc (.cells #[.int .i64 xr, .int .i64 xt, .slice xA xn xd] 24) := ⟨_, rfl⟩
  have HBx : Hid (Gq w1 u1) := hb
  have HNx : Hid (Gq u1 w3) := by rw [hw]; exact (Gq.refl _).alloc _
  have HKx : Hid (Blk w3 u1.heap.size 24 [.int .i64 xr, .int .i64 xt, .slice xA xn xd]) := by rw [hw]; exact Blk.new u1 _ _
  have HGw3 : Hid (Gq w w3) := HG1.out.trans (HBx.out.trans HNx.out)
  have HWw3 := Lib.hid hw
  clear hb hw HC1
  clear c0 c1 c2
  go_upto_region 2 with (fail)
  rw [← HWw3.out]
  obtain ⟨x0, x1, x2⟩ := HCO.out _ w3 _ _ _ _ _ _ HKx.out (Gq.refl _)
  have HE1 := Lib.hid (HAW.out w3 HGw3.out)
  by_cases hf0 : Af = 0
  case neg =>
    have hfb : (Af != 0) = true := by simpa using hf0
    have HN : Hid (xn = 0) := by
      have h1 := HBD.out hf0
      have h2 := congrArg Edt.cs HXx'.out
      have h3 := congrArg List.length h2
      rw [h1] at h3
      have h4 : (x'.cs.xs.map CliM.x).length = 0 := h3
      rw [List.length_map, HLx.out] at h4
      exact h4
    have hn0 : ((xn : Int) == 0) = true := by simp [HN.out]
    clear hf0 HBD
    go_wp2_with fail
    refine HE1.out.mono ?_
    rintro e v3 ⟨rfl, hv3⟩
    have HV3 : Hid (Gq w v3) := HGw3.out.trans hv3
    clear hv3
    go_wp2_with fail
    go_ret
    exact ⟨rfl, HV3.out⟩
  have hfb : (Af != 0) = false := by simp [hf0]
  have hRA : applyF isNm 1000000 a'.x (l'.xs.map StpM.x) = (Ax, An, 0) := by rw [HRA.out, hf0]
  obtain ⟨hT1, ⟨b, hB, hb1, hb2, hb3⟩, hT2⟩ := applyF_turn hRA
  have HLEN := Lib.hid (applyF_len hRA)
  rw [hT1] at H3
  have HB := Lib.hid hB
  have HBR : Hid (b.rate = a'.x.rate ∧ b.tracks = a'.x.tracks ∧ SmC b.cs a'.x.cs) := ⟨hb1, hb2, hb3⟩
  have HT2 := Lib.hid hT2
  obtain ⟨TL, hTL⟩ : ∃ TL, (l'.xs.map StpM.x).reverse.map turn = TL := ⟨_, rfl⟩
  rw [hTL] at H3 HB HT2
  have HTLL : Hid (TL.length ≤ 200) := by
    have := HLEN.out.2
    show _ ≤ _
    rw [← hTL]; simpa using this
  have HC2 := Lib.hid (H3.out w3 HGw3.out)
  clear hf0 hRA hT1 hB hb1 hb2 hb3 hT2 HBD H3 hTL HE1
  go_wp2_with fail
  refine HC2.out.mono ?_
  rintro e w4 ⟨hg4, tl, rfl, ht1, ht2⟩
  have HT1 : Hid (tl.xs.map StpM.x = TL ∧ StsB 1048576 w4 tl) := ⟨ht1, ht2⟩
  have HG34 : Hid (Gq w3 w4) := hg4
  have HG4 : Hid (Gq w w4) := HGw3.out.trans hg4
  clear hg4 ht1 ht2 HC2 x0 x1 x2
  have HC3 : Hid (Calls Tryz.prog 4 #[.agg #[.int .i64 xr, .int .i64 xt, .slice xA xn xd], tl.v] w4 (AplR (b, 0, 0) w4)) := by
    have h := apply_any x' tl w4 (HOx'.out.below (HNx.out.trans HG34.out)) HT1.out.2
    rw [HXx'.out, HT1.out.1, HB.out, HVx.out] at h
    exact h
  have HC4 : Hid (∀ W, Gq w4 W → Calls Tryz.prog 6 #[tl.v] W (TurR 1048576 (l'.xs.map StpM.x, 0) W)) := fun W hW => by
    have h := turned_any tl W (HT1.out.2.below hW)
    rw [HT1.out.1, HT2.out] at h
    exact h
  obtain ⟨tv, htv⟩ : ∃ v, tl.v = v := ⟨_, rfl⟩
  have htv2 : ∃ (A : Option Addr) (n c : Nat), tv = .slice A n c := by rw [← htv]; exact ⟨_, _, _, rfl⟩
  obtain ⟨tA, tn, tc, rfl⟩ := htv2
  rw [htv] at HC3 HC4 ⊢
  clear htv
  obtain ⟨x0, x1, x2⟩ := HCO.out _ w4 _ _ _ _ _ _ HKx.out HG34.out
  go_wp2_with fail
  refine HC3.out.mono ?_
  rintro e u2 ⟨hb, y, rfl, hx1, hxo⟩
  have HXy : Hid (y.x = b) := hx1
  have HOy := Lib.hid hxo
  obtain ⟨y', hy'⟩ : ∃ z, y = z := ⟨_, rfl⟩
  have HVy : Hid (y'.v = y.v) := by show _ = _; rw [hy']
  have HXy' : Hid (y'.x = b) := by rw [← hy']; exact HXy.out
  have HOy' : Hid (EdtOk u2 y') := by rw [← hy']; exact HOy.out
  have HLy : Hid (y'.cs.xs.length = y.cs.xs.length) := by show _ = _; rw [hy']
  clear hy' hx1 hxo HXy HOy
  obtain ⟨yr, yt, ⟨yA, yd, ys⟩⟩ := y
  replace HVy : Hid (y'.v = .agg #[.int .i64 yr, .int .i64 yt, .slice yA ys.length yd]) := HVy
  replace HLy : Hid (y'.cs.xs.length = ys.length) := HLy
  simp only [EdtM.v, Slc.v]
  obtain ⟨yn, hyn⟩ : ∃ n : Nat, ys.length = n := ⟨_, rfl⟩
  rw [hyn] at HVy HLy ⊢
  clear hyn
  obtain ⟨w5, hw⟩ : ∃ W, W = u2.alloc (.cells #[.int .i64 yr, .int .i64 yt, .slice yA yn yd] 24) := ⟨_, rfl⟩
  have HBy : Hid (Gq w4 u2) := hb
  have HNy : Hid (Gq u2 w5) := by rw [hw]; exact (Gq.refl _).alloc _
  have HKy : Hid (Blk w5 u2.heap.size 24 [.int .i64 yr, .int .i64 yt, .slice yA yn yd]) := by rw [hw]; exact Blk.new u2 _ _
  have HGw5 : Hid (Gq w w5) := HG4.out.trans (HBy.out.trans HNy.out)
  have HWw5 := Lib.hid hw
  clear hb hw HC3
  clear x0 x1 x2
  go_upto_region 8 with (fail)
  rw [← HWw5.out]
  have HC5 := Lib.hid (HC4.out w5 (HBy.out.trans HNy.out))
  clear HC4
  go_wp2_with fail
  refine HC5.out.mono ?_
  rintro e w6 ⟨hg6, rl, rfl, ht1, ht2⟩
  have HR1 : Hid (rl.xs.map StpM.x = l'.xs.map StpM.x ∧ StsB 1048576 w6 rl) := ⟨ht1, ht2⟩
  have HG56 : Hid (Gq w5 w6) := hg6
  have HG6 : Hid (Gq w w6) := HGw5.out.trans hg6
  clear hg6 ht1 ht2 HC5
  have HSM : Hid (Calls Tryz.prog 7 #[.agg #[.int .i64 yr, .int .i64 yt, .slice yA yn yd], .agg #[.int .i64 ar, .int .i64 at_, .slice aA an ad]] w6 fun e w' => e = .returned (.bool true) ∧ Gq w6 w') := by
    have hyx := HXy'.out
    have h := same_any y' a' true (by
      simp only [true_iff]
      have h2 := HBR.out
      rw [← hyx] at h2
      exact h2) w6 (HOy'.out.below (HNy.out.trans HG56.out)) (HA.out.below HG6.out) (by have h3 := HLEN.out.1; have h4 : (a'.cs.xs.map CliM.x).length ≤ 300 := h3; rw [List.length_map] at h4; omega)
    rw [HVy.out, HAV.out] at h
    exact h
  have HSS : Hid (∀ W, Gq w6 W → Calls Tryz.prog 8 #[rl.v, .slice lA ln lc] W fun e w' => e = .returned (.bool true) ∧ Gq W w') := fun W hW => by
    have h := sameSteps_any rl l' W HR1.out.1 (HR1.out.2.below hW) (HLL.out.below (HG6.out.trans hW)) (by
      have h1 := congrArg List.length HR1.out.1
      rw [List.length_map] at h1
      have h2 := HLEN.out.2
      omega)
    rw [HLV.out] at h
    exact h
  obtain ⟨rv, hrv⟩ : ∃ v, rl.v = v := ⟨_, rfl⟩
  have hrv2 : ∃ (A : Option Addr) (n c : Nat), rv = .slice A n c := by rw [← hrv]; exact ⟨_, _, _, rfl⟩
  obtain ⟨rA, rn, rc, rfl⟩ := hrv2
  rw [hrv] at HSS ⊢
  clear hrv
  obtain ⟨y0, y1, y2⟩ := HCO.out _ w6 _ _ _ _ _ _ HKy.out HG56.out
  obtain ⟨a0, a1, a2⟩ := HCO.out _ w6 _ _ _ _ _ _ HKA.out (HBx.out.trans (HNx.out.trans (HG34.out.trans (HBy.out.trans (HNy.out.trans HG56.out)))))
  go_wp2_with fail
  refine HSM.out.mono ?_
  rintro e w7 ⟨rfl, hg7⟩
  have HG7 : Hid (Gq w w7) := HG6.out.trans hg7
  have HS7 := Lib.hid (HSS.out w7 hg7)
  clear hg7 HSM HSS y0 y1 y2 a0 a1 a2
  go_wp2_with fail
  refine HS7.out.mono ?_
  rintro e w8 ⟨rfl, hg8⟩
  have HG8 : Hid (Gq w w8) := HG7.out.trans hg8
  clear hg8 HS7
  have HE3 := Lib.hid (HAW.out w8 HG8.out)
  go_wp2_with fail
  refine HE3.out.mono ?_
  rintro e v3 ⟨rfl, hv3⟩
  have HV3 : Hid (Gq w v3) := HG8.out.trans hv3
  clear hv3
  go_wp2_with fail
  go_ret
  exact ⟨rfl, HV3.out⟩
end Go.Proofs.YtmppccnioiodgaaGreatDoor
