/- Several texts laid into one: The reference's chosen: the fault of an edit and of a clip's number; far; An edit, or a fault, as values; Several texts laid into one: The contracts of the reference's placed and Sorted; The contract of the reference's Sorted; Generated (gen/made.py): the contract of the reference's made;; The reference's changedClip: an edit with another clip at a place; Generated (gen/sto2.py): the reference's SlipTo; Generated (gen/sto2.py): the reference's MoveTo; -/
import Derived.Test.YteaghgbpcpileaaGreatDoorCrrZ
import Derived.Test.YteaghgbpcpileaaGreatDoorStwZ
import Derived.Test.YteaghgbpcpileaaGreatDoorChnZ
import Derived.Test.YteaghgbpcpileaaGreatDoorNumB
import Derived.Test.YteaghgbpcpileaaGreatDoorApdZ
import Derived.Test.YteaghgbpcpileaaGreatDoorStpZ
import Derived.Test.YteaghgbpcpileaaGreatDoorEdtZ
import Derived.Test.YteaghgbpcpileaaGreatDoorOrdZ
import Derived.Test.YteaghgbpcpileaaGreatDoorSrtY
import Derived.Deep.RegionHeld3
import Derived.Deep.DrawnRows
import Derived.Deep.CutBlock
import Derived.Deep.DeepCutAuto
import Derived.Test.YteaghgbpcpileaaGreatDoorPlaZ
import Derived.Test.YteaghgbpcpileaaGreatDoorMisZ
/- The reference's chosen: the fault of an edit and of a clip's number; far. -/
namespace Go.Proofs.YteaghgbpcpileaaGreatDoor
open Go.RowKit Go.Dw
attribute [local go_sem ↓] Go.wp_at_zero Go.wp_at_succ

set_option maxHeartbeats 4000000 in
theorem farR_any (n : Int) (w : World) : Calls Tryz.prog 13 #[.int .i64 n] w fun e w' => e = .returned (.bool (!decide (-20000000000000 ≤ n ∧ n ≤ 20000000000000))) ∧ w = w' := by
  obtain ⟨b, hb⟩ : ∃ b, decide (-20000000000000 ≤ n ∧ n ≤ 20000000000000) = b := ⟨_, rfl⟩
  have hw := withinR_any n (-20000000000000) 20000000000000 w
  rw [hb] at hw
  rw [hb]
  have HW := Lib.hid hw
  clear hw hb
  go_enter Tryz.func13, Tryz.ntmps13
  go_wp2_with fail
  refine HW.out.mono ?_
  rintro e w' ⟨rfl, rfl⟩
  go_wp2_with fail
  go_ret
  exact ⟨rfl, rfl⟩
set_option maxRecDepth 100000 in
set_option maxHeartbeats 8000000 in
theorem chosen_any (x : EdtM) (n : Int) (w : World) (hx : EdtOk w x) (hp : HasPow w) :
    Calls Tryz.prog 12 #[x.v, .int .i64 n] w fun e w' => e = .returned (.int .i64 (numF isNm 1000000 x.x n)) ∧ Gq w w' := by
  obtain ⟨q, hq⟩ : ∃ q, numF isNm 1000000 x.x n = q := ⟨_, rfl⟩
  obtain ⟨f, hf⟩ : ∃ f, ediF isNm 1000000 x.x = f := ⟨_, rfl⟩
  have HF1 : Hid (f ≠ 0 → q = f) := fun h => by rw [← hq]; unfold numF; rw [hf, if_pos h]
  have HF2 : Hid (f = 0 → n < 0 ∨ (x.cs.xs.length : Int) ≤ n → q = 1) := fun h g => by
    rw [← hq]; unfold numF
    rw [hf, if_neg (fun k => k h)]
    show (if n < 0 ∨ ((x.cs.xs.map CliM.x).length : Int) ≤ n then (1 : Int) else 0) = 1
    rw [List.length_map, if_pos g]
  have HF3 : Hid (f = 0 → ¬ (n < 0 ∨ (x.cs.xs.length : Int) ≤ n) → q = 0) := fun h g => by
    rw [← hq]; unfold numF
    rw [hf, if_neg (fun k => k h)]
    show (if n < 0 ∨ ((x.cs.xs.map CliM.x).length : Int) ≤ n then (1 : Int) else 0) = 0
    rw [List.length_map, if_neg g]
  obtain ⟨wz, hwz⟩ : ∃ wz, wz = w.alloc (.cells #[.int .i64 x.rate, .int .i64 x.tracks, .slice x.cs.a x.cs.xs.length x.cs.c] 24) := ⟨_, rfl⟩
  have hg : Gq w wz := by rw [hwz]; exact (Gq.refl _).alloc _
  have HG := Lib.hid hg
  have HK : Hid (Blk wz w.heap.size 24 [.int .i64 x.rate, .int .i64 x.tracks, .slice x.cs.a x.cs.xs.length x.cs.c]) := by rw [hwz]; exact Blk.new w _ _
  have hck := checkR_any x wz (hx.below hg) (hp.below hg)
  rw [hf] at hck
  rw [hq]
  have HCK := Lib.hid hck
  have HWZ := Lib.hid hwz
  have a0 : wz.cell? ⟨w.heap.size, 0, none⟩ = some (.int .i64 x.rate) := HK.out.cell 0
  have a1 : wz.cell? ⟨w.heap.size, 1, none⟩ = some (.int .i64 x.tracks) := HK.out.cell 1
  have a2 : wz.cell? ⟨w.heap.size, 2, none⟩ = some (.slice x.cs.a x.cs.xs.length x.cs.c) := HK.out.cell 2
  have hln : x.cs.xs.length ≤ 9223372036854775807 := hx.cl
  clear hwz hg hck hq hf hx hp
  obtain ⟨rt, tk, ⟨xA, xd, xs⟩⟩ := x
  simp only [EdtM.v, Slc.v] at HCK HWZ HK HF2 HF3 hln a0 a1 a2 ⊢
  obtain ⟨xn, hxn⟩ : ∃ k : Nat, xs.length = k := ⟨_, rfl⟩
  simp only [hxn] at HCK HWZ HK HF2 HF3 hln a0 a1 a2 ⊢
  clear hxn
  go_enter Tryz.func12, Tryz.ntmps12
  go_upto_region 1 with (fail)
  rw [← HWZ.out]
  go_wp2_with fail
  refine HCK.out.mono ?_
  rintro e w2 ⟨rfl, hg2⟩
  have HG2 : Hid (Gq w w2) := HG.out.trans hg2
  have hk2 := blkq HK.out hg2
  have b2 : w2.cell? ⟨w.heap.size, 2, none⟩ = some (.slice xA xn xd) := hk2.cell 2
  clear hg2 hk2 a0 a1 a2 HCK HWZ
  by_cases h0 : f = 0
  case neg =>
    have hfb : (f != 0) = true := by simp [h0]
    have HQ : Hid (q = f) := HF1.out h0
    clear h0
    go_wp2_with fail
    go_ret
    exact ⟨by rw [HQ.out]; rfl, HG2.out⟩
  have hfb : (f != 0) = false := by simp [h0]
  have HZ := Lib.hid h0
  clear h0
  obtain ⟨tb, htb⟩ : ∃ b, decide (0 ≤ n ∧ n ≤ (xn : Int) - 1) = b := ⟨_, rfl⟩
  have W1 : IntKind.i64.wrap ((xn : Int) - 1) = (xn : Int) - 1 := IntWalk.i64_in _ (by omega)
  have hwi := withinR_any n 0 ((xn : Int) - 1) w2
  rw [htb] at hwi
  have HWI := Lib.hid hwi
  have HTB := Lib.hid htb
  clear hwi htb
  go_wp2_with fail
  refine HWI.out.mono ?_
  rintro e w3 ⟨rfl, rfl⟩
  cases tb with
  | true =>
    have HQ : Hid (q = 0) := HF3.out HZ.out (by have := of_decide_eq_true HTB.out; omega)
    go_wp2_with fail
    go_ret
    exact ⟨by rw [HQ.out]; rfl, HG2.out⟩
  | false =>
    have HQ : Hid (q = 1) := HF2.out HZ.out (by have := of_decide_eq_false HTB.out; omega)
    go_wp2_with fail
    go_ret
    exact ⟨by rw [HQ.out]; rfl, HG2.out⟩
end Go.Proofs.YteaghgbpcpileaaGreatDoor
/- An edit, or a fault, as values. -/
namespace Go.Proofs.YteaghgbpcpileaaGreatDoor
open Go.RowKit Go.Dw

/-- an edit, and a fault -/
def EdiR (r : Edt × Int) (w : World) (e : Ending) (w' : World) : Prop := Gq w w' ∧ ∃ x : EdtM, e = .returned (.tuple #[x.v, .int .i64 r.2]) ∧ x.x = r.1 ∧ EdtOk w' x
theorem edtOk_nil (w : World) : EdtOk w ⟨0, 0, ⟨none, 0, []⟩⟩ := ⟨⟨by decide, by decide⟩, ⟨by decide, by decide⟩, by simp, .inl rfl, fun c hc => by simp at hc⟩
theorem ediR_none {w w' : World} {r : Edt × Int} {f : Int} (hr : r = (e0, f)) (hb : Gq w w') : EdiR r w (.returned (.tuple #[.agg #[.int .i64 0, .int .i64 0, .slice none 0 0], .int .i64 f])) w' := by
  subst hr; exact ⟨hb, ⟨0, 0, ⟨none, 0, []⟩⟩, rfl, rfl, edtOk_nil w'⟩
/-- the value of an edit, or of none -/
def ckV (f : Int) (v : Value) : Value := if f = 0 then v else .agg #[.int .i64 0, .int .i64 0, .slice none 0 0]
theorem ckV_ok (v : Value) : ckV 0 v = v := rfl
theorem ckV_bad {f : Int} (h : f ≠ 0) (v : Value) : ckV f v = .agg #[.int .i64 0, .int .i64 0, .slice none 0 0] := if_neg h
end Go.Proofs.YteaghgbpcpileaaGreatDoor
/- Several texts laid into one: The contracts of the reference's placed and Sorted; The contract of the reference's Sorted; Generated (gen/made.py): the contract of the reference's made; -/
/- The contracts of the reference's placed and Sorted. -/
namespace Go.Proofs.YteaghgbpcpileaaGreatDoor
open Go.RowKit Go.Dw
attribute [local go_sem ↓] Go.wp_at_zero Go.wp_at_succ

theorem infoClP : (Tryz.prog.info? 39).map (fun i => (i.zero, i.size, i.bytes)) = some (some (.agg #[.string ⟨#[]⟩, .int .i64 0, .int .i64 0, .int .i64 0, .int .i64 0, .int .i64 0, .slice none 0 0]), 7, 80) := by kernel_rfl
theorem cli_oneP (l : List CliM) : ∀ u ∈ l.flatMap CliM.cs, u.oneCell' = true := fun u hu => by
  obtain ⟨p, _, hp⟩ := List.mem_flatMap.1 hu
  simp [CliM.cs] at hp
  rcases hp with rfl | rfl | rfl | rfl | rfl | rfl | rfl <;> rfl
theorem gq_none {w w' : World} (h : w.grownBy w' (Value.slice none 0 0).ownBlock) : Gq w w' := ⟨h.os, h.tape, h.output, h.size, fun j hj => h.block j hj (by intro h; cases h)⟩
set_option maxRecDepth 100000 in
set_option maxHeartbeats 8000000 in
theorem placed_any (A : Option Addr) (c : Nat) (xs : List CliM) (y : CliM) (w : World) (hc : xs.length ≤ c) (h : Rd w A (xs.flatMap CliM.cs)) (hl : xs.length ≤ 1000000000) :
    Calls Tryz.prog 65 #[.slice A xs.length c, y.v] w fun e w' => ∃ A' c', e = .returned (.slice A' (xs.length + 1) c') ∧ w'.ownsRow w.heap.size 39 7 (.slice A' (xs.length + 1) c') (xs.length + 1) ((plc CliM.x xs y).flatMap CliM.cs) ∧ Gq w w' := by
  obtain ⟨Y, hY⟩ : ∃ Y, y = Y := ⟨_, rfl⟩
  have HOR : Hid (∀ (x : CliM) W, Calls Tryz.prog 43 #[x.v, Y.v] W fun e w' => e = .returned (.int .i64 (cmpK x.x Y.x)) ∧ Gq W w') := fun x W => order_any x Y W
  rw [hY]
  obtain ⟨ym, yc, yf, yt, ya, yl, ⟨YA, yd, yes⟩⟩ := y
  obtain ⟨yn, hyn⟩ : ∃ n, yes.length = n := ⟨_, rfl⟩
  have HYV : Hid (Y.v = .agg #[.string ym, .int .i64 yc, .int .i64 yf, .int .i64 yt, .int .i64 ya, .int .i64 yl, .slice YA yn yd]) := by show _ = _; rw [← hY, ← hyn]; rfl
  have HYC : Hid (Y.cs = [.string ym, .int .i64 yc, .int .i64 yf, .int .i64 yt, .int .i64 ya, .int .i64 yl, .slice YA yn yd]) := by show _ = _; rw [← hY, ← hyn]; rfl
  rw [HYV.out] at HOR ⊢
  clear hY hyn
  obtain ⟨w1, hw1⟩ : ∃ w1, w1 = w.alloc (.cells #[.string ym, .int .i64 yc, .int .i64 yf, .int .i64 yt, .int .i64 ya, .int .i64 yl, .slice YA yn yd] 39) := ⟨_, rfl⟩
  have HG1 : Hid (Gq w w1) := by rw [hw1]; exact (Gq.refl _).alloc _
  have HKY : Hid (Blk w1 w.heap.size 39 [.string ym, .int .i64 yc, .int .i64 yf, .int .i64 yt, .int .i64 ya, .int .i64 yl, .slice YA yn yd]) := by rw [hw1]; exact Blk.new w _ _
  have HCY : Hid (∀ W, Gq w1 W → W.cell? ⟨w.heap.size, 0, none⟩ = some (.string ym) ∧ W.cell? ⟨w.heap.size, 1, none⟩ = some (.int .i64 yc) ∧ W.cell? ⟨w.heap.size, 2, none⟩ = some (.int .i64 yf) ∧ W.cell? ⟨w.heap.size, 3, none⟩ = some (.int .i64 yt) ∧ W.cell? ⟨w.heap.size, 4, none⟩ = some (.int .i64 ya) ∧ W.cell? ⟨w.heap.size, 5, none⟩ = some (.int .i64 yl) ∧ W.cell? ⟨w.heap.size, 6, none⟩ = some (.slice YA yn yd)) := fun W hW => by
    have k1 := blkq HKY.out hW
    exact ⟨k1.cell 0, k1.cell 1, k1.cell 2, k1.cell 3, k1.cell 4, k1.cell 5, k1.cell 6⟩
  have HRD : Hid (Rd w1 A (xs.flatMap CliM.cs)) := h.below HG1.out
  have HRD0 : Hid (Rd w A (xs.flatMap CliM.cs)) := h
  have HCC : Hid (xs.length ≤ c) := hc
  obtain ⟨ii, hii, hzi0, hzi1, hzi2⟩ := info_parts infoClP
  have HII := Lib.hid (And.intro hii (And.intro hzi0 (And.intro hzi1 hzi2)))
  have HW1 := Lib.hid hw1
  clear hw1 h hc hii hzi0 hzi1 hzi2
  go_enter Tryz.func65, Tryz.ntmps65
  go_upto_region 1 with (fail)
  rw [← HW1.out]
  go_wp2_with fail
  go_loopw [5] (fun kv wq => ∃ (k : Nat), k ≤ xs.length ∧ kv = .int .i64 (k : Int) ∧ Hid (∀ j (hj : j < xs.length), k ≤ j → 0 < cmpK xs[j].x Y.x) ∧ Hid (Gq w1 wq)) (fun kv _ => (intOf kv).toNat)
  case atStart => exact ⟨xs.length, Nat.le_refl _, rfl, fun j hj hk => absurd hk (by omega), Gq.refl _⟩
  case round =>
    obtain ⟨k, hk, rfl, HHI, HGR⟩ := hrel
    obtain ⟨bb, hbb⟩ : ∃ bb : Bool, bb = if h : 0 < k then decide (0 < cmpK (xs[k - 1]'(by omega)).x Y.x) else false := ⟨_, rfl⟩
    have HBB := Lib.hid hbb
    clear hbb
    go_upto_region 2 with (fail)
    go_cut [20] (fun v wq => v = .bool bb ∧ Hid (Gq w1 wq))
    case first =>
      as_aux_lemma =>
      by_cases hk0 : 0 < k
      case neg =>
        have HB0 : Hid (bb = false) := by show _ = _; rw [HBB.out, dif_neg hk0]
        have hd0 : decide (0 < k) = false := by simpa using hk0
        go_wp2_with fail
        go_quiet (fail)
        all_goals
          go_wp2_with fail
          go_meet
          case rel => exact ⟨by rw [HB0.out], by first | exact HGR | exact Gq.drew HGR.out | exact below_drewN HGR.out _⟩
      have HB0 : Hid (bb = decide (0 < cmpK (xs[k - 1]'(by omega)).x Y.x)) := by show _ = _; rw [HBB.out, dif_pos hk0]
      have hd0 : decide (0 < k) = true := by simpa using hk0
      obtain ⟨q, hq⟩ : ∃ q, k - 1 = q := ⟨_, rfl⟩
      obtain ⟨b, off, hA2, hbl, hcs⟩ := cli_at (HRD.out.below HGR.out) (show 0 < xs.length by omega)
      subst hA2
      obtain ⟨p0, p1, p2, p3, p4, p5, p6⟩ := hcs q (by omega)
      have hw1 : IntKind.i64.wrap ((k : Int) - 1) = (q : Int) := by rw [IntKind.wrap_i64]; omega
      simp only [hq] at HB0
      obtain ⟨Z, hZ⟩ : ∃ X, xs[q] = X := ⟨_, rfl⟩
      rw [hZ] at p0 p1 p2 p3 p4 p5 p6 HB0
      have HOC := Lib.hid (fun W => HOR.out Z W)
      have HBR : Hid (∀ W, Gq wr W → b < wr.heap.size) := fun _ _ => hbl
      clear hZ hcs HBB HHI
      obtain ⟨cv, hcv⟩ : ∃ cv, cmpK Z.x Y.x = cv := ⟨_, rfl⟩
      rw [hcv] at HB0 HOC
      clear hcv
      obtain ⟨xm, xc, xf, xt, xa, xl, ⟨EA, ed, es⟩⟩ := Z
      simp only [CliM.v, Slc.v] at p0 p1 p2 p3 p4 p5 p6 HOC
      generalize (es.length : Nat) = en at *
      obtain ⟨y0, y1, y2, y3, y4, y5, y6⟩ := HCY.out wr HGR.out
      have HCB : Hid (∀ W, Gq wr W → W.cell? ⟨b, off + q * 7, none⟩ = some (.string xm) ∧ W.cell? ⟨b, off + q * 7 + 1, none⟩ = some (.int .i64 xc) ∧ W.cell? ⟨b, off + q * 7 + 2, none⟩ = some (.int .i64 xf) ∧ W.cell? ⟨b, off + q * 7 + 3, none⟩ = some (.int .i64 xt) ∧ W.cell? ⟨b, off + q * 7 + 4, none⟩ = some (.int .i64 xa) ∧ W.cell? ⟨b, off + q * 7 + 5, none⟩ = some (.int .i64 xl) ∧ W.cell? ⟨b, off + q * 7 + 6, none⟩ = some (.slice EA en ed) ∧ W.cell? ⟨w.heap.size, 0, none⟩ = some (.string ym) ∧ W.cell? ⟨w.heap.size, 1, none⟩ = some (.int .i64 yc) ∧ W.cell? ⟨w.heap.size, 2, none⟩ = some (.int .i64 yf) ∧ W.cell? ⟨w.heap.size, 3, none⟩ = some (.int .i64 yt) ∧ W.cell? ⟨w.heap.size, 4, none⟩ = some (.int .i64 ya) ∧ W.cell? ⟨w.heap.size, 5, none⟩ = some (.int .i64 yl) ∧ W.cell? ⟨w.heap.size, 6, none⟩ = some (.slice YA yn yd)) := fun W hW => by
        have g : ∀ o v, wr.cell? ⟨b, o, none⟩ = some v → W.cell? ⟨b, o, none⟩ = some v := fun o v hv => by rw [Below.cell hW (by exact hbl)]; exact hv
        obtain ⟨z0, z1, z2, z3, z4, z5, z6⟩ := HCY.out W (HGR.out.trans hW)
        exact ⟨g _ _ p0, g _ _ p1, g _ _ p2, g _ _ p3, g _ _ p4, g _ _ p5, g _ _ p6, z0, z1, z2, z3, z4, z5, z6⟩
      have i0 : (0 : Int) ≤ (q : Int) := by omega
      have i1 : (q : Int) < (xs.length : Int) := by omega
      have hBD : Gq wr wr.drew := (Gq.refl _).drew
      clear hbl hq
      go_wp2_with fail
      go_region_held3 (fun W => W.cell? ⟨b, off + q * 7, none⟩ = some (.string xm) ∧ W.cell? ⟨b, off + q * 7 + 1, none⟩ = some (.int .i64 xc) ∧ W.cell? ⟨b, off + q * 7 + 2, none⟩ = some (.int .i64 xf) ∧ W.cell? ⟨b, off + q * 7 + 3, none⟩ = some (.int .i64 xt) ∧ W.cell? ⟨b, off + q * 7 + 4, none⟩ = some (.int .i64 xa) ∧ W.cell? ⟨b, off + q * 7 + 5, none⟩ = some (.int .i64 xl) ∧ W.cell? ⟨b, off + q * 7 + 6, none⟩ = some (.slice EA en ed) ∧ W.cell? ⟨w.heap.size, 0, none⟩ = some (.string ym) ∧ W.cell? ⟨w.heap.size, 1, none⟩ = some (.int .i64 yc) ∧ W.cell? ⟨w.heap.size, 2, none⟩ = some (.int .i64 yf) ∧ W.cell? ⟨w.heap.size, 3, none⟩ = some (.int .i64 yt) ∧ W.cell? ⟨w.heap.size, 4, none⟩ = some (.int .i64 ya) ∧ W.cell? ⟨w.heap.size, 5, none⟩ = some (.int .i64 yl) ∧ W.cell? ⟨w.heap.size, 6, none⟩ = some (.slice YA yn yd))
        (first | exact HCB.out _ hBD | exact HCB.out _ hqB)
        (first | (go_at_call 43; refine (HOC.out _).mono ?_; rintro e wB ⟨rfl, hgB⟩; have hqB : Gq wr wB := by first | exact hBD.trans hgB | exact Gq.trans (below_drewN (Gq.refl _) _) hgB))
      all_goals
        have HGB : Hid (Gq w1 wB) := HGR.out.trans hqB
        clear hqB
        go_wp2_with fail
        go_meet
        case rel => exact ⟨by rw [HB0.out], HGB⟩
    case rest =>
    obtain ⟨rfl, HGC⟩ := hcut
    cases bb with
    | true =>
      have hk0 : 0 < k := by
        by_cases h : 0 < k
        · exact h
        · have h1 := HBB.out; rw [dif_neg h] at h1; cases h1
      obtain ⟨q, hq⟩ : ∃ q, k - 1 = q := ⟨_, rfl⟩
      have HHJ : Hid (∀ j (hj : j < xs.length), q ≤ j → 0 < cmpK xs[j].x Y.x) := fun j hj hqj => by
        by_cases h : k ≤ j
        · exact HHI.out j hj h
        · have h1 := HBB.out
          rw [dif_pos hk0] at h1
          have : j = k - 1 := by omega
          subst this
          exact of_decide_eq_true h1.symm
      have hw1 : IntKind.i64.wrap ((k : Int) - 1) = (q : Int) := by rw [IntKind.wrap_i64]; omega
      have hq2 : q < k := by omega
      clear hq HHI HBB HGR hk0
      go_wp2_with fail
      go_roundw
      case rel => exact ⟨q, by omega, by go_num, HHJ, HGC⟩
      case measure => simp [intOf]; omega
    | false =>
      have HPK : Hid (plcK CliM.x Y.x xs = k) := plcK_of hk HHI.out (fun j hj e => by
        subst e
        have h1 := HBB.out
        rw [dif_pos (by omega)] at h1
        exact of_decide_eq_false h1.symm)
      clear HHI HBB HGR
      have i0 : (0 : Int) ≤ (k : Int) := by omega
      have i1 : (k : Int) ≤ (c : Int) := by have := HCC.out; omega
      have i2 : (k : Int) ≤ (xs.length : Int) := by omega
      obtain ⟨T, hT⟩ : ∃ T, xs.take k = T := ⟨_, rfl⟩
      obtain ⟨D, hD⟩ : ∃ D, xs.drop k = D := ⟨_, rfl⟩
      have HTD : Hid (xs = T ++ D ∧ T.length = k ∧ D.length = xs.length - k) := by rw [← hT, ← hD]; exact ⟨(List.take_append_drop k xs).symm, by rw [List.length_take]; omega, by rw [List.length_drop]⟩
      have HPL : Hid (plc CliM.x xs Y = T ++ Y :: D) := by show _ = _; unfold plc; rw [HPK.out, hT, hD]
      have HRX : Hid (Rd wc A (T.flatMap CliM.cs ++ D.flatMap CliM.cs)) := by
        have := HRD.out.below HGC.out
        rw [HTD.out.1, List.flatMap_append] at this; exact this
      have HRT : Hid (Rd wc A (T.flatMap CliM.cs)) := Rd.left HRX.out
      have HTL : Hid ((T.flatMap CliM.cs).length = k * 7) := by show _ = _; rw [flat_len CliM.cs 7 (fun _ => rfl), HTD.out.2.1]
      have HSZ : Hid (w.heap.size ≤ wc.heap.size) := Below.size (HG1.out.trans HGC.out)
      clear hT hD HPK
      go_upto_region 6 with (at_builtin; refine wpList_append_rd (by rfl) (.tmp 23) (.tmp 26) 22 (by rfl) w.heap.size 39 ii _ 7 80 Tryz.underlying22 HII.out.1 HII.out.2.1 HII.out.2.2.1 HII.out.2.2.2 rfl (by decide) (.slice none 0 0) 0 [] (by rfl) (World.ownsRow_nil _ _ _ _) A k c (T.flatMap CliM.cs) (by rfl) HTL.out HRT.out (cli_oneP T) (by unfold maxLen; omega) (by omega) HSZ.out ?_; intro v5 w5 hown5 hg5; obtain ⟨y0, y1, y2, y3, y4, y5, y6⟩ := HCY.out w5 (HGC.out.trans (gq_none hg5)))
      have HO5 : Hid (w5.ownsRow w.heap.size 39 7 v5 k (T.flatMap CliM.cs)) := by
        have h1 := hown5
        rw [Nat.zero_add, List.nil_append] at h1; exact h1
      have HG5 : Hid (Gq wc w5) := ⟨hg5.os, hg5.tape, hg5.output, hg5.size, fun j hj => hg5.block j hj (by intro h; cases h)⟩
      obtain ⟨A5, c5, rfl⟩ := slice_of_own HO5.out
      have HGW5 : Hid (Gq w1 w5) := HGC.out.trans HG5.out
      have HSZ5 : Hid (w.heap.size ≤ w5.heap.size) := Nat.le_trans HSZ.out (Below.size HG5.out)
      clear hown5 hg5 HSZ
      go_upto_region 7 with (at_builtin; (refine wpList_append_lies _ rfl _ _ 22 rfl w.heap.size 39 ii _ 7 80 Tryz.underlying22 HII.out.1 HII.out.2.1 HII.out.2.2.1 HII.out.2.2.2 rfl (by decide) _ _ _ rfl (HO5.out.alloc _) ⟨w5.heap.size, 0, none⟩ 1 1 [.string ym, .int .i64 yc, .int .i64 yf, .int .i64 yt, .int .i64 ya, .int .i64 yl, .slice YA yn yd] (by rfl) (by rfl) (World.news_of_block (cs := #[.string ym, .int .i64 yc, .int .i64 yf, .int .i64 yt, .int .i64 ya, .int .i64 yl, .slice YA yn yd]) (t := 39) (fr := (0, 0)) (by exact heap_alloc_new w5 _)) (by simp [Value.oneCell']) (by decide) (by unfold maxLen; omega) (by omega) (by have := HSZ5.out; simp; omega) _ rfl ?_); intro g6 cap6 w6 hown6 hgrow6 hat6 hg6)
      have HO6 : Hid (w6.ownsRow w.heap.size 39 7 (.slice (some ⟨g6, 0, none⟩) (k + 1) cap6) (k + 1) (T.flatMap CliM.cs ++ Y.cs)) := by rw [HYC.out]; exact hown6
      clear hown6 y0 y1 y2 y3 y4 y5 y6
      have hgA : (w5.alloc (.cells #[.string ym, .int .i64 yc, .int .i64 yf, .int .i64 yt, .int .i64 ya, .int .i64 yl, .slice YA yn yd] 39)).grownBy w6 (Value.slice A5 k c5).ownBlock := hgrow6
      have hbl : Below w.heap.size w5 w6 := ((Below.refl _ w5).alloc HSZ5.out _).grown hgA (by have := HSZ5.out; simp; omega) (fun j hj => (HO5.out.lt j hj).1)
      have HG6 : Hid (Gq w w6) := Below.trans (HG1.out.trans HGW5.out) hbl
      have HRD6 : Hid (Rd w6 (if c = k then A else Option.map (fun x => x.add (k * 7)) A) (D.flatMap CliM.cs)) := by
        refine Rd.tail_ (xs := T.flatMap CliM.cs) ?_ HTL.out (fun e => ?_)
        · have h1 := HRD0.out
          rw [HTD.out.1, List.flatMap_append] at h1
          exact h1.below HG6.out
        · have h1 := HTD.out.2.2
          have h2 := HCC.out
          have : D = [] := List.eq_nil_of_length_eq_zero (by omega)
          rw [this]; rfl
      have HDL : Hid ((D.flatMap CliM.cs).length = (xs.length - k) * 7) := by show _ = _; rw [flat_len CliM.cs 7 (fun _ => rfl), HTD.out.2.2]
      have HSZ6 : Hid (w.heap.size ≤ w6.heap.size) := Below.size HG6.out
      have HK1 : Hid (k + 1 + (xs.length - k) = xs.length + 1) := by show _ = _; omega
      clear hgA hbl hgrow6 hat6 hg6 HG5 HGW5
      go_wp2_with (at_builtin; refine wpList_append_rd (by rfl) (.tmp 32) (.tmp 35) 22 (by rfl) w.heap.size 39 ii _ 7 80 Tryz.underlying22 HII.out.1 HII.out.2.1 HII.out.2.2.1 HII.out.2.2.2 rfl (by decide) (.slice (some ⟨g6, 0, none⟩) (k + 1) cap6) (k + 1) (T.flatMap CliM.cs ++ Y.cs) (by rfl) HO6.out (if c = k then A else Option.map (fun x => x.add (k * 7)) A) (xs.length - k) (c - k) (D.flatMap CliM.cs) (by rfl) HDL.out HRD6.out (cli_oneP D) (by unfold maxLen; omega) (by omega) HSZ6.out ?_; intro v7 w7 hown7 hg7)
      all_goals
        have HO7 : Hid (w7.ownsRow w.heap.size 39 7 v7 (xs.length + 1) ((plc CliM.x xs Y).flatMap CliM.cs)) := by
          have h1 := hown7
          rw [HK1.out] at h1
          rw [HPL.out, List.flatMap_append, List.flatMap_cons, ← List.append_assoc]; exact h1
        obtain ⟨A7, c7, rfl⟩ := slice_of_own HO7.out
        have HG7 : Hid (Gq w w7) := HG6.out.grown hg7 HSZ6.out (fun j hj => (HO6.out.lt j hj).1)
        clear hown7 hg7
        go_wp2_with fail
        go_ret
        exact ⟨A7, c7, rfl, HO7.out, HG7.out⟩
end Go.Proofs.YteaghgbpcpileaaGreatDoor
/- The contract of the reference's Sorted. -/
namespace Go.Proofs.YteaghgbpcpileaaGreatDoor
open Go.RowKit Go.Dw
attribute [local go_sem ↓] Go.wp_at_zero Go.wp_at_succ

theorem srtF_len (l : List CliM) : (srtF CliM.x l).length = l.length := (srt_perm CliM.x l).length_eq
set_option maxRecDepth 100000 in
set_option maxHeartbeats 8000000 in
theorem sortedR_any (A : Option Addr) (c : Nat) (xs : List CliM) (w : World) (h : Rd w A (xs.flatMap CliM.cs)) (hl : xs.length ≤ 1000000) :
    Calls Tryz.prog 44 #[.slice A xs.length c] w fun e w' => ∃ A' c', e = .returned (.slice A' xs.length c') ∧ w'.ownsRow w.heap.size 39 7 (.slice A' xs.length c') xs.length ((srtF CliM.x xs).flatMap CliM.cs) ∧ Gq w w' := by
  have HRD := Lib.hid h
  clear h
  go_enter Tryz.func44, Tryz.ntmps44
  go_wp2_with fail
  go_loopw [3, 4] (fun ov kv wq => ∃ (k : Nat) (AO : Option Addr) (cO : Nat), k ≤ xs.length ∧ kv = .int .i64 (k : Int) ∧ ov = .slice AO k cO ∧ Hid (wq.ownsRow w.heap.size 39 7 (.slice AO k cO) k ((srtF CliM.x (xs.take k)).flatMap CliM.cs)) ∧ Hid (Gq w wq)) (fun _ kv _ => xs.length - (intOf kv).toNat)
  case atStart => exact ⟨0, none, 0, Nat.zero_le _, rfl, rfl, by show World.ownsRow _ _ _ _ _ _ _; rw [List.take_zero]; exact World.ownsRow_nil _ _ _ _, Gq.refl _⟩
  case round =>
    obtain ⟨k, AO, cO, hk, rfl, rfl, HOW, HG⟩ := hrel
    by_cases hlt : k < xs.length
    case neg =>
      have hd0 : decide (k < xs.length) = false := by simpa using hlt
      have hke : k = xs.length := by omega
      subst hke
      have HO2 : Hid (wr.ownsRow w.heap.size 39 7 (.slice AO xs.length cO) xs.length ((srtF CliM.x xs).flatMap CliM.cs)) := by
        have h1 := HOW.out
        rw [List.take_length] at h1; exact h1
      clear HOW
      go_wp2_with fail
      go_ret
      exact ⟨AO, cO, rfl, HO2.out, HG.out⟩
    have hd0 : decide (k < xs.length) = true := by simpa using hlt
    have i0 : (0 : Int) ≤ (k : Int) := by omega
    have i1 : (k : Int) < (xs.length : Int) := by omega
    have hlen : (srtF CliM.x (xs.take k)).length = k := by rw [srtF_len, List.length_take]; omega
    have HNX : Hid (srtF CliM.x (xs.take (k + 1)) = plc CliM.x (srtF CliM.x (xs.take k)) xs[k]) := by
      show _ = _; rw [List.take_succ_eq_append_getElem hlt, srt_snoc]
    obtain ⟨b, off, rfl, hbb, hcs⟩ := cli_at (HRD.out.below HG.out) (show 0 < xs.length by omega)
    obtain ⟨p0, p1, p2, p3, p4, p5, p6⟩ := hcs k hlt
    have HPL : Hid (Calls Tryz.prog 65 #[.slice AO k cO, xs[k].v] wr fun e w' => ∃ A' c', e = .returned (.slice A' (k + 1) c') ∧ w'.ownsRow wr.heap.size 39 7 (.slice A' (k + 1) c') (k + 1) ((srtF CliM.x (xs.take (k + 1))).flatMap CliM.cs) ∧ Gq wr w') := by
      have hcap := own_cap HOW.out
      have := placed_any AO cO (srtF CliM.x (xs.take k)) xs[k] wr (by rw [hlen]; exact hcap.1) (Rd.of_own HOW.out) (by omega)
      rw [hlen, ← HNX.out] at this
      exact this
    have HSZ : Hid (w.heap.size ≤ wr.heap.size) := Below.size HG.out
    clear hcs hlen HNX
    obtain ⟨Z, hZ⟩ : ∃ X, xs[k] = X := ⟨_, rfl⟩
    rw [hZ] at p0 p1 p2 p3 p4 p5 p6 HPL
    clear hZ
    obtain ⟨xm, xc, xf, xt, xa, xl, ⟨EA, ed, es⟩⟩ := Z
    simp only [CliM.v, Slc.v] at p0 p1 p2 p3 p4 p5 p6 HPL
    generalize (es.length : Nat) = en at *
    go_wp2_with fail
    refine HPL.out.mono ?_
    rintro e w2 ⟨A', c', rfl, hown, hg⟩
    have HO2 : Hid (w2.ownsRow w.heap.size 39 7 (.slice A' (k + 1) c') (k + 1) ((srtF CliM.x (xs.take (k + 1))).flatMap CliM.cs)) := own_base hown HSZ.out
    have HG2 : Hid (Gq w w2) := HG.out.trans hg
    clear hown hg p0 p1 p2 p3 p4 p5 p6 HPL
    go_wp2_with fail
    go_roundw
    case rel => exact ⟨k + 1, A', c', hlt, by go_num, rfl, HO2, HG2⟩
    case measure => simp [intOf]; omega
end Go.Proofs.YteaghgbpcpileaaGreatDoor
/- Generated (gen/made.py): the contract of the reference's made. -/
namespace Go.Proofs.YteaghgbpcpileaaGreatDoor
open Go.RowKit Go.Dw
attribute [local go_sem ↓] Go.wp_at_zero Go.wp_at_succ
attribute [local go_sem] Go.Dwo.Oper.tame

theorem builtEd (rt tk : Int) (A : Option Addr) (n c : Nat) : Tryz.prog.built 24 [(0, .int .i64 rt), (1, .int .i64 tk), (2, .slice A n c)] = some #[.int .i64 rt, .int .i64 tk, .slice A n c] := by kernel_rfl
theorem builtEd0 : Tryz.prog.built 24 [] = some #[.int .i64 0, .int .i64 0, .slice none 0 0] := by kernel_rfl
theorem runEd0 (w : World) : (Instr.build 24 #[]).run Tryz.prog w = .ok (.agg #[.int .i64 0, .int .i64 0, .slice none 0 0]) w := run_build w _ _ _ builtEd0
def madF (w1 : World) (gp : Nat) (rt tk : Int) (P0 : Option Addr) (pn pc : Nat) (B : Option Addr) (m cB : Nat) (L : List Value) : List Go.Dwo.Fact := [
  ⟨[], [], fun _ W => Gq w1 W⟩,
  ⟨[], [], fun _ W => Blk W gp 24 [.int .i64 rt, .int .i64 tk, .slice P0 pn pc]⟩,
  ⟨[0], [], fun vs _ => vs 0 = .pointer (some ⟨gp, 0, none⟩)⟩,
  ⟨[1], [], fun vs _ => vs 1 = .int .i64 rt⟩,
  ⟨[2], [], fun vs _ => vs 2 = .pointer (some ⟨gp, 1, none⟩)⟩,
  ⟨[3], [], fun vs _ => vs 3 = .int .i64 tk⟩,
  ⟨[4], [], fun vs _ => vs 4 = .slice B m cB⟩,
  ⟨[5], [], fun vs W => ∃ A c, vs 5 = .slice A m c ∧ RdT 39 W A L⟩,
  ⟨[5, 6], [], fun vs _ => vs 6 = .agg #[.int .i64 rt, .int .i64 tk, vs 5]⟩,
  ⟨[7], [8], fun vs W => ∃ g, vs 7 = .pointer (some ⟨g, 0, none⟩) ∧ w1.heap.size ≤ g ∧ Blk W g 24 [.int .i64 0, .int .i64 0, .slice none 0 0]⟩,
  ⟨[5, 7, 8], [], fun vs W => ∃ g A c, vs 7 = .pointer (some ⟨g, 0, none⟩) ∧ vs 5 = .slice A m c ∧ w1.heap.size ≤ g ∧ Blk W g 24 [.int .i64 rt, .int .i64 tk, .slice A m c] ∧ RdT 39 W A L⟩]
theorem madK (w1 : World) (gp : Nat) (rt tk : Int) (P0 : Option Addr) (pn pc : Nat) (B : Option Addr) (m cB : Nat) (L : List Value) : ∀ f ∈ madF w1 gp rt tk P0 pn pc B m cB L, ∀ vs w w', Gq w w' → f.says vs w → f.says vs w' :=
  Go.Dwo.fa_cons (fun _ _ _ hg h => h.trans hg) <|
  Go.Dwo.fa_cons (fun _ _ _ hg h => blkq h hg) <|
  Go.Dwo.fa_cons (fun _ _ _ _ h => h) <|
  Go.Dwo.fa_cons (fun _ _ _ _ h => h) <|
  Go.Dwo.fa_cons (fun _ _ _ _ h => h) <|
  Go.Dwo.fa_cons (fun _ _ _ _ h => h) <|
  Go.Dwo.fa_cons (fun _ _ _ _ h => h) <|
  Go.Dwo.fa_cons (fun _ _ _ hg h => (by obtain ⟨A, c, h1, h2⟩ := h; exact ⟨A, c, h1, h2.below hg⟩)) <|
  Go.Dwo.fa_cons (fun _ _ _ _ h => h) <|
  Go.Dwo.fa_cons (fun _ _ _ hg h => (by obtain ⟨g, h1, h2, h3⟩ := h; exact ⟨g, h1, h2, blkq h3 hg⟩)) <|
  Go.Dwo.fa_cons (fun _ _ _ hg h => (by obtain ⟨g, A, c, h1, h2, h3, h4, h5⟩ := h; exact ⟨g, A, c, h1, h2, h3, blkq h4 hg, h5.below hg⟩)) <|
  Go.Dwo.fa_nil _
set_option maxRecDepth 100000 in
set_option maxHeartbeats 8000000 in
theorem madeR_any (rt tk : Int) (P0 : Option Addr) (pn pc : Nat) (B : Option Addr) (cB : Nat) (xs : List CliM) (w : World) (hrt : inI64 rt) (htk : inI64 tk) (h : Rd w B (xs.flatMap CliM.cs)) (hok : ∀ c ∈ xs, CliOk w c) (hl : xs.length ≤ 1000000) (hp : HasPow w) :
    Calls Tryz.prog 27 #[.agg #[.int .i64 rt, .int .i64 tk, .slice P0 pn pc], .slice B xs.length cB] w fun e w' => ∃ A' c', e = .returned (.tuple #[ckV (ediF isNm 1000000 ⟨rt, tk, srtC (xs.map CliM.x)⟩) (.agg #[.int .i64 rt, .int .i64 tk, .slice A' xs.length c']), .int .i64 (ediF isNm 1000000 ⟨rt, tk, srtC (xs.map CliM.x)⟩)]) ∧ RdT 39 w' A' ((srtF CliM.x xs).flatMap CliM.cs) ∧ Gq w w' := by
  obtain ⟨f, hf⟩ : ∃ f, ediF isNm 1000000 ⟨rt, tk, srtC (xs.map CliM.x)⟩ = f := ⟨_, rfl⟩
  obtain ⟨m, hm⟩ : ∃ m, xs.length = m := ⟨_, rfl⟩
  obtain ⟨L, hL⟩ : ∃ L, (srtF CliM.x xs).flatMap CliM.cs = L := ⟨_, rfl⟩
  have HSO' : Hid (∀ W, Gq w W → Calls Tryz.prog 44 #[.slice B m cB] W fun e w' => ∃ A' c', e = .returned (.slice A' m c') ∧ RdT 39 w' A' L ∧ Gq W w') := fun W hW => by
    have := sortedR_any B cB xs W (h.below hW) hl
    rw [hm, hL] at this
    exact this.mono fun e w' ⟨A', c', h1, h2, h3⟩ => ⟨A', c', h1, RdT.of_own h2, h3⟩
  have HCE' : Hid (∀ A c W, Gq w W → RdT 39 W A L → Calls Tryz.prog 25 #[.agg #[.int .i64 rt, .int .i64 tk, .slice A m c]] W fun e w' => e = .returned (.int .i64 f) ∧ Gq W w') := fun A c W hW hr => by
    have hlen : (srtF CliM.x xs).length = m := by rw [srtF_len]; exact hm
    have := checkR_any ⟨rt, tk, ⟨A, c, srtF CliM.x xs⟩⟩ W ⟨hrt, htk, by show (srtF CliM.x xs).length ≤ _; omega, by show Rd _ _ _; rw [hL]; exact hr.rd, fun z hz => (hok z ((srt_perm CliM.x xs).mem_iff.1 hz)).below hW⟩ (hp.below hW)
    have he : EdtM.x ⟨rt, tk, ⟨A, c, srtF CliM.x xs⟩⟩ = ⟨rt, tk, srtC (xs.map CliM.x)⟩ := by
      have hm : (srtF CliM.x xs).map CliM.x = srtC (xs.map CliM.x) := srt_map id CliM.x xs
      show Edt.mk rt tk ((srtF CliM.x xs).map CliM.x) = _
      rw [hm]
    rw [he, hf] at this
    simp only [EdtM.v, Slc.v] at this
    rw [hlen] at this
    exact this
  rw [hf, hm, hL]
  clear hf hm hL h hok hl hrt htk hp
  obtain ⟨w0, hw0⟩ : ∃ w0, w0 = w := ⟨_, rfl⟩
  obtain ⟨wa, hwa⟩ : ∃ wa, wa = w.alloc (.cells #[.int .i64 rt, .int .i64 tk, .slice P0 pn pc] 24) := ⟨_, rfl⟩
  obtain ⟨w1, hw1⟩ : ∃ w1, w1 = wa.alloc (.cells #[.int .i64 0, .int .i64 0, .slice none 0 0] 24) := ⟨_, rfl⟩
  have hz : wa.heap.size = w.heap.size + 1 := by rw [hwa]; simp
  have hga : Gq w wa := by rw [hwa]; exact (Gq.refl _).alloc _
  have hgb : Gq wa w1 := by rw [hw1]; exact (Gq.refl _).alloc _
  have HG01 : Hid (Gq w0 w1) := by rw [hw0]; exact hga.trans hgb
  have HSO : Hid (∀ W, Gq w1 W → Calls Tryz.prog 44 #[.slice B m cB] W fun e w' => ∃ A' c', e = .returned (.slice A' m c') ∧ RdT 39 w' A' L ∧ Gq W w') := fun W hW => HSO'.out W (hga.trans (hgb.trans hW))
  have HCE : Hid (∀ A c W, Gq w1 W → RdT 39 W A L → Calls Tryz.prog 25 #[.agg #[.int .i64 rt, .int .i64 tk, .slice A m c]] W fun e w' => e = .returned (.int .i64 f) ∧ Gq W w') := fun A c W hW hr => HCE'.out A c W (hga.trans (hgb.trans hW)) hr
  have hkp : Blk w1 w.heap.size 24 [.int .i64 rt, .int .i64 tk, .slice P0 pn pc] := by
    refine blkq (?_ : Blk wa w.heap.size _ _) hgb; rw [hwa]; exact Blk.new w _ _
  have hkr : Blk w1 (w.heap.size + 1) 24 [.int .i64 0, .int .i64 0, .slice none 0 0] := by rw [hw1, ← hz]; exact Blk.new wa _ _
  have hz1 : w1.heap.size = w.heap.size + 2 := by rw [hw1]; simp; omega
  rw [hwa] at hw1
  have HW1 := Lib.hid hw1
  clear hwa hga hgb HSO' HCE' hz hw1
  go_enter Tryz.func27, Tryz.ntmps27
  go_upto_region 1 with (fail)
  rw [← HW1.out]
  subst hw0
  obtain ⟨gp, hgp⟩ : ∃ g, w0.heap.size = g := ⟨_, rfl⟩
  have HBASE : Hid (Gq w1 w1.drew) := (Gq.refl _).drew
  have HBP : Hid (Blk w1.drew gp 24 [.int .i64 rt, .int .i64 tk, .slice P0 pn pc]) := by rw [← hgp]; exact hkp
  have HBR : Hid (Blk w1 (gp + 1) 24 [.int .i64 0, .int .i64 0, .slice none 0 0]) := by rw [← hgp]; exact hkr
  have HGP : Hid (∀ g, w1.heap.size ≤ g → gp ≠ g) := fun g hg => by omega
  have HGR : Hid (w0.heap.size ≤ gp + 1) := by show _ ≤ _; omega
  simp only [hgp]
  clear hgp hkp hkr hz1 HW1
  refine Go.Dwo.wp_region_factsK _ (by kernel_rfl) [[], [0], [], [2], [], [4], [0, 1, 2, 3, 4, 5], [], [0, 1, 2, 3, 4, 5, 6, 7]] (by kernel_rfl) (by kernel_rfl) [some 8, some 9, some 10, some 11, some 12, some 13, some 14, some 6, none] (by kernel_rfl) (fun vs => by simp only [Go.Dwo.putA, Go.Dwo.putL, if_true, Act.put, List.setIfInBounds_toArray, List.set_cons_zero, List.set_cons_succ]; rfl) (madF w1 gp rt tk P0 pn pc B m cB L) (by kernel_rfl) ?_ ⟨?_, ?_, ?_, ?_, ?_, ?_, ?_, ?_, ?_, trivial⟩ ?_
  · exact Go.Dwo.fa_zero [0, 1] (by kernel_rfl) <| Go.Dwo.fa_cons (HBASE.out) <| Go.Dwo.fa_cons (HBP.out) <| Go.Dwo.fa_nil _
  · -- 0: Op.fieldAddr 24 t2 0
    intro Ls vs w Kk H hu hD hK
    replace hu : ∀ k ∈ ([] : List Nat), Ls k = true := hu
    replace hD : ∀ k ∈ ([0, 1, 6, 8] : List Nat), Ls k = false := Go.Dwo.fa_cons (hD 0 (.inl rfl)) <| Go.Dwo.fa_cons (hD 1 (.inr (by decide))) <| Go.Dwo.fa_cons (hD 6 (.inr (by decide))) <| Go.Dwo.fa_cons (hD 8 (.inr (by decide))) <| Go.Dwo.fa_nil _
    simp only [Go.Dwo.actOf, List.getD_cons_zero]
    have h0 : Gq w1 w := H.up hu hD 0 rfl rfl rfl
    have bP : Blk w gp 24 [.int .i64 rt, .int .i64 tk, .slice P0 pn pc] := H.up hu hD 1 rfl rfl rfl
    have hKK := Lib.hid hK
    clear hK H hu hD
    go_simp
    refine hKK.out _ _ (fun f _ _ _ _ h => h) ?_
    exact Go.Dwo.fa_pick [2] (by kernel_rfl) <| Go.Dwo.fa_cons (fun _ => rfl) <| Go.Dwo.fa_nil _
  · -- 1: Op.load 3 t8
    intro Ls vs w Kk H hu hD hK
    replace hu : ∀ k ∈ ([0] : List Nat), Ls k = true := hu
    replace hD : ∀ k ∈ ([1, 6, 8] : List Nat), Ls k = false := Go.Dwo.fa_cons (hD 1 (.inl rfl)) <| Go.Dwo.fa_cons (hD 6 (.inr (by decide))) <| Go.Dwo.fa_cons (hD 8 (.inr (by decide))) <| Go.Dwo.fa_nil _
    simp only [Go.Dwo.actOf, List.getD_cons_succ, List.getD_cons_zero]
    have h0 : Gq w1 w := H.up hu hD 0 rfl rfl rfl
    have bP : Blk w gp 24 [.int .i64 rt, .int .i64 tk, .slice P0 pn pc] := H.up hu hD 1 rfl rfl rfl
    have f0 : vs 0 = .pointer (some ⟨gp, 0, none⟩) := H.up hu hD 2 rfl rfl rfl
    have d0 : w.cell? ⟨gp, 0, none⟩ = _ := bP.cell 0
    simp only [List.getElem?_cons_zero] at d0
    have hKK := Lib.hid hK
    clear hK H hu hD
    go_simp
    refine hKK.out _ _ (fun f _ _ _ _ h => h) ?_
    exact Go.Dwo.fa_pick [3] (by kernel_rfl) <| Go.Dwo.fa_cons (fun _ => rfl) <| Go.Dwo.fa_nil _
  · -- 2: Op.fieldAddr 24 t2 1
    intro Ls vs w Kk H hu hD hK
    replace hu : ∀ k ∈ ([] : List Nat), Ls k = true := hu
    replace hD : ∀ k ∈ ([2, 3, 6, 8] : List Nat), Ls k = false := Go.Dwo.fa_cons (hD 2 (.inl rfl)) <| Go.Dwo.fa_cons (hD 3 (.inr (by decide))) <| Go.Dwo.fa_cons (hD 6 (.inr (by decide))) <| Go.Dwo.fa_cons (hD 8 (.inr (by decide))) <| Go.Dwo.fa_nil _
    simp only [Go.Dwo.actOf, List.getD_cons_succ, List.getD_cons_zero]
    have h0 : Gq w1 w := H.up hu hD 0 rfl rfl rfl
    have bP : Blk w gp 24 [.int .i64 rt, .int .i64 tk, .slice P0 pn pc] := H.up hu hD 1 rfl rfl rfl
    have hKK := Lib.hid hK
    clear hK H hu hD
    go_simp
    refine hKK.out _ _ (fun f _ _ _ _ h => h) ?_
    exact Go.Dwo.fa_pick [4] (by kernel_rfl) <| Go.Dwo.fa_cons (fun _ => rfl) <| Go.Dwo.fa_nil _
  · -- 3: Op.load 3 t10
    intro Ls vs w Kk H hu hD hK
    replace hu : ∀ k ∈ ([2] : List Nat), Ls k = true := hu
    replace hD : ∀ k ∈ ([3, 6, 8] : List Nat), Ls k = false := Go.Dwo.fa_cons (hD 3 (.inl rfl)) <| Go.Dwo.fa_cons (hD 6 (.inr (by decide))) <| Go.Dwo.fa_cons (hD 8 (.inr (by decide))) <| Go.Dwo.fa_nil _
    simp only [Go.Dwo.actOf, List.getD_cons_succ, List.getD_cons_zero]
    have h0 : Gq w1 w := H.up hu hD 0 rfl rfl rfl
    have bP : Blk w gp 24 [.int .i64 rt, .int .i64 tk, .slice P0 pn pc] := H.up hu hD 1 rfl rfl rfl
    have f2 : vs 2 = .pointer (some ⟨gp, 1, none⟩) := H.up hu hD 4 rfl rfl rfl
    have d1 : w.cell? ⟨gp, 1, none⟩ = _ := bP.cell 1
    simp only [List.getElem?_cons_zero, List.getElem?_cons_succ] at d1
    have hKK := Lib.hid hK
    clear hK H hu hD
    go_simp
    refine hKK.out _ _ (fun f _ _ _ _ h => h) ?_
    exact Go.Dwo.fa_pick [5] (by kernel_rfl) <| Go.Dwo.fa_cons (fun _ => rfl) <| Go.Dwo.fa_nil _
  · -- 4: Op.move t1
    intro Ls vs w Kk H hu hD hK
    replace hu : ∀ k ∈ ([] : List Nat), Ls k = true := hu
    replace hD : ∀ k ∈ ([4, 5, 6, 8] : List Nat), Ls k = false := Go.Dwo.fa_cons (hD 4 (.inl rfl)) <| Go.Dwo.fa_cons (hD 5 (.inr (by decide))) <| Go.Dwo.fa_cons (hD 6 (.inr (by decide))) <| Go.Dwo.fa_cons (hD 8 (.inr (by decide))) <| Go.Dwo.fa_nil _
    simp only [Go.Dwo.actOf, List.getD_cons_succ, List.getD_cons_zero]
    have h0 : Gq w1 w := H.up hu hD 0 rfl rfl rfl
    have bP : Blk w gp 24 [.int .i64 rt, .int .i64 tk, .slice P0 pn pc] := H.up hu hD 1 rfl rfl rfl
    have hKK := Lib.hid hK
    clear hK H hu hD
    go_simp
    refine hKK.out _ _ (fun f _ _ _ _ h => h) ?_
    exact Go.Dwo.fa_pick [6] (by kernel_rfl) <| Go.Dwo.fa_cons (fun _ => rfl) <| Go.Dwo.fa_nil _
  · -- 5: Op.call { value (Operand.func 93), args := #[t12], argTypes := #[22] }
    intro Ls vs w Kk H hu hD hK
    replace hu : ∀ k ∈ ([4] : List Nat), Ls k = true := hu
    replace hD : ∀ k ∈ ([5, 6, 8] : List Nat), Ls k = false := Go.Dwo.fa_cons (hD 5 (.inl rfl)) <| Go.Dwo.fa_cons (hD 6 (.inr (by decide))) <| Go.Dwo.fa_cons (hD 8 (.inr (by decide))) <| Go.Dwo.fa_nil _
    simp only [Go.Dwo.actOf, List.getD_cons_succ, List.getD_cons_zero]
    have h0 : Gq w1 w := H.up hu hD 0 rfl rfl rfl
    have bP : Blk w gp 24 [.int .i64 rt, .int .i64 tk, .slice P0 pn pc] := H.up hu hD 1 rfl rfl rfl
    have f4 : vs 4 = .slice B m cB := H.up hu hD 6 rfl rfl rfl
    have hKK := Lib.hid hK
    clear hK H hu hD
    go_simp
    refine (HSO.out w h0).mono ?_
    rintro e w' ⟨A', c', rfl, hr, hb⟩
    refine ⟨_, rfl, hKK.out _ _ (fun f hf _ _ _ h => madK w1 gp rt tk P0 pn pc B m cB L f hf _ _ _ hb h) ?_⟩
    exact Go.Dwo.fa_pick [7, 8, 10] (by kernel_rfl) <| Go.Dwo.fa_cons (fun _ => ⟨A', c', rfl, hr⟩) <|
        Go.Dwo.fa_cons (fun hL => absurd (show (5 : Nat) ∈ ([0, 1, 2, 3, 4, 5] : List Nat) from by decide) (hL 6 (show (6 : Nat) ∈ ([5, 6] : List Nat) from by decide) (show (6 : Nat) ≠ 5 from by decide)).2) <|
        Go.Dwo.fa_cons (fun hL => absurd (show (5 : Nat) ∈ ([0, 1, 2, 3, 4, 5, 6, 7] : List Nat) from by decide) (hL 8 (show (8 : Nat) ∈ ([5, 7, 8] : List Nat) from by decide) (show (8 : Nat) ≠ 5 from by decide)).2) <| Go.Dwo.fa_nil _
  · -- 6: Op.build 24 #[(0, t9), (1, t11), (2, t13)]
    intro Ls vs w Kk H hu hD hK
    replace hu : ∀ k ∈ ([0, 1, 2, 3, 4, 5] : List Nat), Ls k = true := hu
    replace hD : ∀ k ∈ ([6, 8] : List Nat), Ls k = false := Go.Dwo.fa_cons (hD 6 (.inl rfl)) <| Go.Dwo.fa_cons (hD 8 (.inr (by decide))) <| Go.Dwo.fa_nil _
    simp only [Go.Dwo.actOf, List.getD_cons_succ, List.getD_cons_zero]
    have h0 : Gq w1 w := H.up hu hD 0 rfl rfl rfl
    have bP : Blk w gp 24 [.int .i64 rt, .int .i64 tk, .slice P0 pn pc] := H.up hu hD 1 rfl rfl rfl
    have f1 : vs 1 = .int .i64 rt := H.up hu hD 3 rfl rfl rfl
    have f3 : vs 3 = .int .i64 tk := H.up hu hD 5 rfl rfl rfl
    have qn5 : ∃ A c, vs 5 = .slice A m c ∧ RdT 39 w A L := H.up hu hD 7 rfl rfl rfl
    obtain ⟨A5, c5, e5, r5⟩ := qn5
    have hKK := Lib.hid hK
    clear hK H hu hD
    simp only [Nat.zero_add, Nat.reduceAdd, f1, f3, e5]
    refine Eq.mpr (if_pos rfl) ?_
    refine Go.Dwo.tame_build _ _ rfl _ (by simp [Act.eval]; exact builtEd rt tk A5 m c5) ?_
    refine hKK.out _ _ (fun f _ _ _ _ h => h) ?_
    exact Go.Dwo.fa_pick [8] (by kernel_rfl) <| Go.Dwo.fa_cons (fun _ => by rw [← e5]; rfl) <| Go.Dwo.fa_nil _
  · -- 7: Op.alloc 24
    intro Ls vs w Kk H hu hD hK
    replace hu : ∀ k ∈ ([] : List Nat), Ls k = true := hu
    replace hD : ∀ k ∈ ([7, 8] : List Nat), Ls k = false := Go.Dwo.fa_cons (hD 7 (.inl rfl)) <| Go.Dwo.fa_cons (hD 8 (.inr (by decide))) <| Go.Dwo.fa_nil _
    simp only [Go.Dwo.actOf, List.getD_cons_succ, List.getD_cons_zero]
    have h0 : Gq w1 w := H.up hu hD 0 rfl rfl rfl
    have bP : Blk w gp 24 [.int .i64 rt, .int .i64 tk, .slice P0 pn pc] := H.up hu hD 1 rfl rfl rfl
    have hKK := Lib.hid hK
    clear hK H hu hD
    go_simp
    refine hKK.out _ _ (fun f hf _ _ _ h => madK w1 gp rt tk P0 pn pc B m cB L f hf _ _ _ (Gq.alloc (Gq.refl _) _) h) ?_
    exact Go.Dwo.fa_pick [9, 10] (by kernel_rfl) <| Go.Dwo.fa_cons (fun _ => ⟨_, rfl, Below.size h0, Blk.new w 24 [.int .i64 0, .int .i64 0, .slice none 0 0]⟩) <|
        Go.Dwo.fa_cons (fun hL => absurd (show (7 : Nat) ∈ ([0, 1, 2, 3, 4, 5, 6, 7] : List Nat) from by decide) (hL 8 (show (8 : Nat) ∈ ([5, 7, 8] : List Nat) from by decide) (show (8 : Nat) ≠ 7 from by decide)).2) <| Go.Dwo.fa_nil _
  · -- 8: Op.store 24 t6 t14
    intro Ls vs w Kk H hu hD hK
    replace hu : ∀ k ∈ ([0, 1, 2, 3, 4, 5, 6, 7] : List Nat), Ls k = true := hu
    replace hD : ∀ k ∈ ([8] : List Nat), Ls k = false := Go.Dwo.fa_cons (hD 8 (.inl rfl)) <| Go.Dwo.fa_nil _
    simp only [Go.Dwo.actOf, List.getD_cons_succ, List.getD_cons_zero]
    have h0 : Gq w1 w := H.up hu hD 0 rfl rfl rfl
    have bP : Blk w gp 24 [.int .i64 rt, .int .i64 tk, .slice P0 pn pc] := H.up hu hD 1 rfl rfl rfl
    have qn5 : ∃ A c, vs 5 = .slice A m c ∧ RdT 39 w A L := H.up hu hD 7 rfl rfl rfl
    obtain ⟨A5, c5, e5, r5⟩ := qn5
    have f6 : vs 6 = .agg #[.int .i64 rt, .int .i64 tk, vs 5] := H.up hu hD 8 rfl rfl rfl
    have qb7 : ∃ g, vs 7 = .pointer (some ⟨g, 0, none⟩) ∧ w1.heap.size ≤ g ∧ Blk w g 24 [.int .i64 0, .int .i64 0, .slice none 0 0] := H.up hu hD 9 rfl rfl rfl
    obtain ⟨g7, e7, l7, k7⟩ := qb7
    have HDD := Lib.hid hD
    have HH := Lib.hid H
    rw [e5] at f6
    have d0 : w.cell? ⟨g7, 0, none⟩ = _ := k7.cell 0
    have z0 := k7.frozen 0
    have d1 : w.cell? ⟨g7, 1, none⟩ = _ := k7.cell 1
    have z1 := k7.frozen 1
    have d2 : w.cell? ⟨g7, 2, none⟩ = _ := k7.cell 2
    have z2 := k7.frozen 2
    simp only [List.getElem?_cons_zero, List.getElem?_cons_succ] at d0 d1 d2
    have hKK := Lib.hid hK
    clear hK H hu hD
    go_simp
    have HST := Lib.hid (setN_blk [.int .i64 rt, .int .i64 tk, .slice A5 m c5] k7 rfl)
    refine hKK.out _ _ (Go.Dwo.fa_cons (fun _ _ _ h => setN_below l7 [.int .i64 rt, .int .i64 tk, .slice A5 m c5] w 0 h) <|
        Go.Dwo.fa_cons (fun _ _ _ h => (setN_heap [.int .i64 rt, .int .i64 tk, .slice A5 m c5] w 0 gp (HGP.out g7 l7)).trans h) <|
        Go.Dwo.fa_cons (fun _ _ _ h => h) <|
        Go.Dwo.fa_cons (fun _ _ _ h => h) <|
        Go.Dwo.fa_cons (fun _ _ _ h => h) <|
        Go.Dwo.fa_cons (fun _ _ _ h => h) <|
        Go.Dwo.fa_cons (fun _ _ _ h => h) <|
        Go.Dwo.fa_cons (fun _ _ _ h => (by obtain ⟨A, c, h1, h2⟩ := h; exact ⟨A, c, h1, h2.kp (setN_kp [.int .i64 rt, .int .i64 tk, .slice A5 m c5] k7 (by decide) 0)⟩)) <|
        Go.Dwo.fa_cons (fun _ _ _ h => h) <|
        Go.Dwo.fa_cons (fun _ hn _ _ => absurd (show (8 : Nat) ∈ ([8] : List Nat) from by decide) hn) <|
        Go.Dwo.fa_cons (fun hn _ _ _ => absurd (show (8 : Nat) ∈ ([5, 7, 8] : List Nat) from by decide) hn) <| Go.Dwo.fa_nil _) ?_
    exact Go.Dwo.fa_pick [10] (by kernel_rfl) <| Go.Dwo.fa_cons (fun _ => ⟨g7, A5, c5, e7, e5, l7, HST.out, r5.kp (setN_kp [.int .i64 rt, .int .i64 tk, .slice A5 m c5] k7 (by decide) 0)⟩) <| Go.Dwo.fa_nil _
  · intro vs w H
    have h0 : Gq w1 w := Go.Dwo.fa_at H 0 rfl rfl
    have bP : Blk w gp 24 [.int .i64 rt, .int .i64 tk, .slice P0 pn pc] := Go.Dwo.fa_at H 1 rfl rfl
    have f0 : vs 0 = .pointer (some ⟨gp, 0, none⟩) := Go.Dwo.fa_at H 2 rfl rfl
    have f1 : vs 1 = .int .i64 rt := Go.Dwo.fa_at H 3 rfl rfl
    have f2 : vs 2 = .pointer (some ⟨gp, 1, none⟩) := Go.Dwo.fa_at H 4 rfl rfl
    have f3 : vs 3 = .int .i64 tk := Go.Dwo.fa_at H 5 rfl rfl
    have f4 : vs 4 = .slice B m cB := Go.Dwo.fa_at H 6 rfl rfl
    have qn5 : ∃ A c, vs 5 = .slice A m c ∧ RdT 39 w A L := Go.Dwo.fa_at H 7 rfl rfl
    obtain ⟨A5, c5, e5, r5⟩ := qn5
    have f6 : vs 6 = .agg #[.int .i64 rt, .int .i64 tk, vs 5] := Go.Dwo.fa_at H 8 rfl rfl
    have qn8 : ∃ g A c, vs 7 = .pointer (some ⟨g, 0, none⟩) ∧ vs 5 = .slice A m c ∧ w1.heap.size ≤ g ∧ Blk w g 24 [.int .i64 rt, .int .i64 tk, .slice A m c] ∧ RdT 39 w A L := Go.Dwo.fa_at H 10 rfl rfl
    obtain ⟨g8, A8, c8, e8, e8b, l8, k8, r8⟩ := qn8
    clear H
    simp only [Nat.zero_add, Nat.reduceAdd]
    have HG2 : Hid (Gq w1 w) := h0
    have HK8 : Hid (Blk w g8 24 [.int .i64 rt, .int .i64 tk, .slice A8 m c8]) := k8
    have HR8 : Hid (RdT 39 w A8 L) := r8
    have c0 : w.cell? ⟨g8, 0, none⟩ = some (.int .i64 rt) := HK8.out.cell 0
    have c1 : w.cell? ⟨g8, 1, none⟩ = some (.int .i64 tk) := HK8.out.cell 1
    have c2 : w.cell? ⟨g8, 2, none⟩ = some (.slice A8 m c8) := HK8.out.cell 2
    rw [e8b] at f6
    simp only [f0, f1, f2, f3, f4, f6, e8, e8b]
    clear f0 f1 f2 f3 f4 f6 e8 e8b h0 bP k8 r8 e5 r5 A5 c5
    have HCK := Lib.hid (HCE.out A8 c8 w HG2.out HR8.out)
    go_wp2_with fail
    refine HCK.out.mono ?_
    rintro e w3 ⟨rfl, hg3⟩
    have HG3 : Hid (Gq w w3) := hg3
    have HG13 : Hid (Gq w1 w3) := HG2.out.trans hg3
    have hkr := blkq HBR.out HG13.out
    have HKR := Lib.hid hkr
    have z0 := hkr.frozen 0
    have z1 := hkr.frozen 1
    have z2 := hkr.frozen 2
    have y0 : w3.cell? ⟨gp + 1, 0, none⟩ = some (.int .i64 0) := hkr.cell 0
    have y1 : w3.cell? ⟨gp + 1, 1, none⟩ = some (.int .i64 0) := hkr.cell 1
    have y2 : w3.cell? ⟨gp + 1, 2, none⟩ = some (.slice none 0 0) := hkr.cell 2
    have hk8 := blkq HK8.out hg3
    have d0 : w3.cell? ⟨g8, 0, none⟩ = some (.int .i64 rt) := hk8.cell 0
    have d1 : w3.cell? ⟨g8, 1, none⟩ = some (.int .i64 tk) := hk8.cell 1
    have d2 : w3.cell? ⟨g8, 2, none⟩ = some (.slice A8 m c8) := hk8.cell 2
    have HEND : Hid (∀ a b c : Value, ((((w3.setCell ⟨gp + 1, 0, none⟩ a).setCell ⟨gp + 1, 1, none⟩ b).setCell ⟨gp + 1, 2, none⟩ c).cell? ⟨gp + 1, 0, none⟩ = some a ∧ (((w3.setCell ⟨gp + 1, 0, none⟩ a).setCell ⟨gp + 1, 1, none⟩ b).setCell ⟨gp + 1, 2, none⟩ c).cell? ⟨gp + 1, 1, none⟩ = some b ∧ (((w3.setCell ⟨gp + 1, 0, none⟩ a).setCell ⟨gp + 1, 1, none⟩ b).setCell ⟨gp + 1, 2, none⟩ c).cell? ⟨gp + 1, 2, none⟩ = some c) ∧ Gq w0 (((w3.setCell ⟨gp + 1, 0, none⟩ a).setCell ⟨gp + 1, 1, none⟩ b).setCell ⟨gp + 1, 2, none⟩ c) ∧ RdT 39 (((w3.setCell ⟨gp + 1, 0, none⟩ a).setCell ⟨gp + 1, 1, none⟩ b).setCell ⟨gp + 1, 2, none⟩ c) A8 L) := fun a b c => by
      have h1 := setN_blk [a, b, c] HKR.out rfl
      exact ⟨⟨h1.cell 0, h1.cell 1, h1.cell 2⟩, setN_below HGR.out [a, b, c] w3 0 (HG01.out.trans HG13.out), (HR8.out.below HG3.out).kp (setN_kp [a, b, c] HKR.out (by decide) 0)⟩
    have hrun := runEd0 w3
    clear hg3 hkr hk8 c0 c1 c2 HCK
    by_cases hf0 : f = 0
    · subst hf0
      have hfb : ((0 : Int) != 0) = false := rfl
      obtain ⟨⟨x0, x1, x2⟩, hge, hrd⟩ := HEND.out (.int .i64 rt) (.int .i64 tk) (.slice A8 m c8)
      have HGE := Lib.hid hge
      have HRE := Lib.hid hrd
      clear hge hrd
      go_wp2_with fail
      show bodyPost Tryz.prog Tryz.f27 _ _ _ _
      exact bodyPost_ret (v := .tuple #[.agg #[.int .i64 rt, .int .i64 tk, .slice A8 m c8], .int .i64 0]) (by simp [results, Tryz.results27, go_sem, x0, x1, x2]) rfl ⟨A8, c8, by rw [ckV_ok], HRE.out, HGE.out⟩
    · have hfb : (f != 0) = true := by simpa using hf0
      have HV := Lib.hid (ckV_bad hf0 (.agg #[.int .i64 rt, .int .i64 tk, .slice A8 m c8]))
      obtain ⟨⟨x0, x1, x2⟩, hge, hrd⟩ := HEND.out (.int .i64 0) (.int .i64 0) (.slice none 0 0)
      have HGE := Lib.hid hge
      have HRE := Lib.hid hrd
      clear hge hrd hf0
      go_wp2_with fail
      show bodyPost Tryz.prog Tryz.f27 _ _ _ _
      exact bodyPost_ret (v := .tuple #[.agg #[.int .i64 0, .int .i64 0, .slice none 0 0], .int .i64 f]) (by simp [results, Tryz.results27, go_sem, x0, x1, x2]) rfl ⟨A8, c8, by rw [HV.out], HRE.out, HGE.out⟩
end Go.Proofs.YteaghgbpcpileaaGreatDoor
/- The reference's changedClip: an edit with another clip at a place. -/
namespace Go.Proofs.YteaghgbpcpileaaGreatDoor
open Go.RowKit Go.Dw
attribute [local go_sem ↓] Go.wp_at_zero Go.wp_at_succ

/-- the clip at the place n is another -/
def repL (n : Int) (c : CliM) : List CliM → Nat → List CliM
  | [], _ => []
  | x :: xs, i => (if (i : Int) = n then c else x) :: repL n c xs (i + 1)
theorem repL_len (n : Int) (c : CliM) : ∀ (xs : List CliM) (i : Nat), (repL n c xs i).length = xs.length
  | [], _ => rfl
  | x :: xs, i => by rw [repL, List.length_cons, List.length_cons, repL_len n c xs (i + 1)]
theorem repL_at (n : Int) (c : CliM) : ∀ (xs : List CliM) (i k : Nat) (h : k < xs.length), (repL n c xs i)[k]? = some (if ((i + k : Nat) : Int) = n then c else xs[k])
  | x :: xs, i, 0, _ => rfl
  | x :: xs, i, k + 1, h => by
    rw [repL, List.getElem?_cons_succ, repL_at n c xs (i + 1) k (by simpa using h)]
    simp only [List.getElem_cons_succ]
    rw [show i + 1 + k = i + (k + 1) by omega]
theorem repL_mem (n : Int) (c : CliM) : ∀ (xs : List CliM) (i : Nat), ∀ y ∈ repL n c xs i, y = c ∨ y ∈ xs
  | [], _, y, hy => by simp [repL] at hy
  | x :: xs, i, y, hy => by
    rw [repL] at hy
    rcases List.mem_cons.1 hy with rfl | hy
    · split
      · exact .inl rfl
      · exact .inr List.mem_cons_self
    · rcases repL_mem n c xs (i + 1) y hy with h | h
      · exact .inl h
      · exact .inr (List.mem_cons_of_mem _ h)
/-- what made answers: the row's block is one of clips -/
def MadR (r : Edt × Int) (xs : List CliM) (w : World) (e : Ending) (w' : World) : Prop :=
  Gq w w' ∧ ∃ x : EdtM, e = .returned (.tuple #[x.v, .int .i64 r.2]) ∧ x.x = r.1 ∧ (inI64 x.rate ∧ inI64 x.tracks ∧ x.cs.xs.length ≤ 1000000) ∧ RdT 39 w' x.cs.a (x.cs.xs.flatMap CliM.cs) ∧ ∀ c ∈ x.cs.xs, c ∈ xs
theorem madeR_E (rt tk : Int) (P0 : Option Addr) (pn pc : Nat) (B : Option Addr) (cB : Nat) (xs : List CliM) (w : World) (hrt : inI64 rt) (htk : inI64 tk) (h : Rd w B (xs.flatMap CliM.cs)) (hok : ∀ c ∈ xs, CliOk w c) (hl : xs.length ≤ 1000000) (hp : HasPow w) :
    Calls Tryz.prog 27 #[.agg #[.int .i64 rt, .int .i64 tk, .slice P0 pn pc], .slice B xs.length cB] w (MadR (mkE isNm 1000000 ⟨rt, tk, srtC (xs.map CliM.x)⟩) xs w) := by
  refine (madeR_any rt tk P0 pn pc B cB xs w hrt htk h hok hl hp).mono ?_
  rintro e w' ⟨A', c', rfl, hr, hg⟩
  by_cases h0 : ediF isNm 1000000 ⟨rt, tk, srtC (xs.map CliM.x)⟩ = 0
  · rw [mkE_ok h0, h0, ckV_ok]
    refine ⟨hg, ⟨rt, tk, ⟨A', c', srtF CliM.x xs⟩⟩, ?_, ?_, ⟨hrt, htk, ?_⟩, hr, fun c hc => ?_⟩
    · show _ = Ending.returned (.tuple #[.agg #[.int .i64 rt, .int .i64 tk, .slice A' (srtF CliM.x xs).length c'], .int .i64 0])
      rw [(srt_perm CliM.x xs).length_eq]
    · show (⟨rt, tk, (srtF CliM.x xs).map CliM.x⟩ : Edt) = ⟨rt, tk, srtC (xs.map CliM.x)⟩
      rw [show (srtF CliM.x xs).map CliM.x = srtC (xs.map CliM.x) from srt_map id CliM.x xs]
    · show (srtF CliM.x xs).length ≤ _
      rw [(srt_perm CliM.x xs).length_eq]; exact hl
    · exact (srt_perm CliM.x xs).mem_iff.1 hc
  · rw [ckV_bad h0, mkE_bad h0]
    exact ⟨hg, ⟨0, 0, ⟨none, 0, []⟩⟩, rfl, rfl, ⟨⟨by decide, by decide⟩, ⟨by decide, by decide⟩, by simp⟩, ⟨.inl rfl, fun b off e => by cases e⟩, fun c hc => by simp at hc⟩
/-- an edit as a result: its row's block is one of clips; its clips are c or some of xs -/
def EdiT (r : Edt × Int) (c : CliM) (xs : List CliM) (w : World) (e : Ending) (w' : World) : Prop :=
  Gq w w' ∧ ∃ x : EdtM, e = .returned (.tuple #[x.v, .int .i64 r.2]) ∧ x.x = r.1 ∧ (inI64 x.rate ∧ inI64 x.tracks ∧ x.cs.xs.length ≤ 1000000) ∧ RdT 39 w' x.cs.a (x.cs.xs.flatMap CliM.cs) ∧ ∀ y ∈ x.cs.xs, y = c ∨ y ∈ xs
theorem chc_end {wz wr w9 : World} {b0 k : Nat} {AO : Option Addr} {cO : Nat} {v9 : Value} {R : List CliM} {o : Obj} {ss : List Value} (hg : Gq wz wr ∧ b0 + 3 ≤ wr.heap.size) (ho : wr.ownsRow (b0 + 3) 39 7 (.slice AO k cO) k ((R.take k).flatMap CliM.cs)) (ht : wz.heap.size = b0 + 3 ∧ (R.take (k + 1)).flatMap CliM.cs = (R.take k).flatMap CliM.cs ++ ss)
    (hown : w9.ownsRow (b0 + 3) 39 7 v9 (k + 1) ((R.take k).flatMap CliM.cs ++ ss)) (hgr : (wr.alloc o).grownBy w9 (Value.slice AO k cO).ownBlock) : (Gq wz w9 ∧ b0 + 3 ≤ w9.heap.size) ∧ w9.ownsRow (b0 + 3) 39 7 v9 (k + 1) ((R.take (k + 1)).flatMap CliM.cs) := by
  refine ⟨⟨Below.grown (hg.1.alloc o) hgr (by have := hg.2; simp; omega) (fun j hj => by have := (ho.lt j hj).1; omega), Nat.le_trans (by have := hg.2; simp; omega) hgr.size⟩, by rw [ht.2]; exact hown⟩
set_option maxRecDepth 100000 in
set_option maxHeartbeats 8000000 in
theorem changedR_any (x : EdtM) (n : Int) (c : CliM) (w : World) (hx : EdtOk w x) (hc : CliOk w c) (hl : x.cs.xs.length ≤ 300) (hp : HasPow w) :
    Calls Tryz.prog 14 #[x.v, .int .i64 n, c.v] w (EdiT (mkE isNm 1000000 ⟨x.rate, x.tracks, srtC ((repL n c x.cs.xs 0).map CliM.x)⟩) c x.cs.xs w) := by
  obtain ⟨rt, tk, ⟨xA, xd, xs⟩⟩ := x
  obtain ⟨R, hR⟩ : ∃ R, repL n c xs 0 = R := ⟨_, rfl⟩
  obtain ⟨r, hr⟩ : ∃ r, mkE isNm 1000000 ⟨rt, tk, srtC (R.map CliM.x)⟩ = r := ⟨_, rfl⟩
  have HRA : Hid (R.length = xs.length ∧ (∀ k (h : k < xs.length), R[k]? = some (if (k : Int) = n then c else xs[k])) ∧ (∀ y ∈ R, CliOk w y) ∧ ∀ y ∈ R, y = c ∨ y ∈ xs) := by
    rw [← hR]
    refine ⟨repL_len n c xs 0, fun k h => by have := repL_at n c xs 0 k h; rw [Nat.zero_add] at this; exact this, fun y hy => ?_, repL_mem n c xs 0⟩
    rcases repL_mem n c xs 0 y hy with rfl | h
    · exact hc
    · exact hx.co y h
  have HXR : Hid (Rd w xA (xs.flatMap CliM.cs)) := hx.cr
  have HTK0 : Hid (inI64 rt ∧ inI64 tk) := ⟨hx.rate, hx.tracks⟩
  have HP := Lib.hid hp
  simp only at hl
  rw [hR, hr]
  obtain ⟨xn, hxn⟩ : ∃ k : Nat, xs.length = k := ⟨_, rfl⟩
  have HXN := Lib.hid hxn
  have HLN : Hid (xn ≤ 300) := by show _ ≤ _; omega
  have hln : xn ≤ 300 := HLN.out
  have hmd : ∀ (B : Option Addr) (cB : Nat) (W : World), Gq w W → Rd W B (R.flatMap CliM.cs) → Calls Tryz.prog 27 #[.agg #[.int .i64 rt, .int .i64 tk, .slice xA xn xd], .slice B xn cB] W (MadR r R W) := fun B cB W hW hB => by
    have := madeR_E rt tk xA xn xd B cB R W HTK0.out.1 HTK0.out.2 hB (fun y hy => (HRA.out.2.2.1 y hy).below hW) (by rw [HRA.out.1, hxn]; omega) (hp.below hW)
    rw [hr, HRA.out.1, hxn] at this
    exact this
  have HMD := Lib.hid hmd
  obtain ⟨cm, cc, cf, ct, ca, cl, ⟨CA, cd, cs⟩⟩ := c
  obtain ⟨cn, hcn⟩ : ∃ k : Nat, cs.length = k := ⟨_, rfl⟩
  simp only [EdtM.v, CliM.v, Slc.v, hxn, hcn]
  have HCS : Hid ((⟨cm, cc, cf, ct, ca, cl, ⟨CA, cd, cs⟩⟩ : CliM).cs = [.string cm, .int .i64 cc, .int .i64 cf, .int .i64 ct, .int .i64 ca, .int .i64 cl, .slice CA cn cd]) := by show [Value.string cm, _, _, _, _, _, .slice CA cs.length cd] = _; rw [hcn]
  obtain ⟨b0, hb0⟩ : ∃ b, w.heap.size = b := ⟨_, rfl⟩
  obtain ⟨wa, hwa⟩ : ∃ wa, wa = w.alloc (.cells #[.int .i64 rt, .int .i64 tk, .slice xA xn xd] 24) := ⟨_, rfl⟩
  obtain ⟨wb, hwb⟩ : ∃ wb, wb = wa.alloc (.cells #[.string cm, .int .i64 cc, .int .i64 cf, .int .i64 ct, .int .i64 ca, .int .i64 cl, .slice CA cn cd] 39) := ⟨_, rfl⟩
  obtain ⟨wz, hwz⟩ : ∃ wz, wz = wb.alloc (.cells #[.int .i64 0, .int .i64 0, .slice none 0 0] 24) := ⟨_, rfl⟩
  have hga : Gq w wa := by rw [hwa]; exact (Gq.refl _).alloc _
  have hgb : Gq wa wb := by rw [hwb]; exact (Gq.refl _).alloc _
  have hgc : Gq wb wz := by rw [hwz]; exact (Gq.refl _).alloc _
  have hza : wa.heap.size = b0 + 1 := by rw [hwa]; simp; omega
  have hzb : wb.heap.size = b0 + 2 := by rw [hwb]; simp; omega
  have HZZ : Hid (wz.heap.size = b0 + 3) := by show _ = _; rw [hwz]; simp; omega
  have HGZ : Hid (Gq w wz) := hga.trans (hgb.trans hgc)
  have HKA : Hid (Blk wz b0 24 [.int .i64 rt, .int .i64 tk, .slice xA xn xd]) := by refine blkq (?_ : Blk wa b0 _ _) (hgb.trans hgc); rw [hwa, ← hb0]; exact Blk.new w _ _
  have HKB : Hid (Blk wz (b0 + 1) 39 [.string cm, .int .i64 cc, .int .i64 cf, .int .i64 ct, .int .i64 ca, .int .i64 cl, .slice CA cn cd]) := by refine blkq (?_ : Blk wb (b0 + 1) _ _) hgc; rw [hwb, ← hza]; exact Blk.new wa _ _
  have HKR : Hid (Blk wz (b0 + 2) 24 [.int .i64 0, .int .i64 0, .slice none 0 0]) := by rw [hwz, ← hzb]; exact Blk.new wb _ _
  have HB0 := Lib.hid hb0
  rw [hwa] at hwb
  rw [hwb] at hwz
  have HWZ := Lib.hid hwz
  obtain ⟨ii, hii, hzi0, hzi1, hzi2⟩ := info_parts infoClP
  have HII := Lib.hid (And.intro hii (And.intro hzi0 (And.intro hzi1 hzi2)))
  clear hwa hwb hwz hga hgb hgc hza hzb hR hr hp hx hc hmd hl hxn hcn hii hzi0 hzi1 hzi2
  go_enter Tryz.func14, Tryz.ntmps14
  go_upto_region 1 with (fail)
  rw [← HWZ.out]
  try simp only [hb0]
  clear hb0
  go_wp2_with fail
  go_loopw [8, 9] (fun ov kv wq => ∃ (k : Nat) (AO : Option Addr) (cO : Nat), k ≤ xn ∧ kv = .int .i64 (k : Int) ∧ ov = .slice AO k cO ∧ Hid (wq.ownsRow (b0 + 3) 39 7 (.slice AO k cO) k ((R.take k).flatMap CliM.cs)) ∧ Hid (Gq wz wq ∧ b0 + 3 ≤ wq.heap.size)) (fun _ kv _ => xn - (intOf kv).toNat)
  case atStart => exact ⟨0, none, 0, Nat.zero_le _, rfl, rfl, World.ownsRow_nil _ _ _ _, Gq.refl _, by have := HZZ.out; show _ ≤ _; omega⟩
  case round =>
    obtain ⟨k, AO, cO, hk, rfl, rfl, HOW, HG⟩ := hrel
    have HGW : Hid (Gq w wr) := HGZ.out.trans HG.out.1
    have hka := blkq HKA.out HG.out.1
    have p0 : wr.cell? ⟨b0, 0, none⟩ = some (.int .i64 rt) := hka.cell 0
    have p1 : wr.cell? ⟨b0, 1, none⟩ = some (.int .i64 tk) := hka.cell 1
    have p2 : wr.cell? ⟨b0, 2, none⟩ = some (.slice xA xn xd) := hka.cell 2
    clear hka
    by_cases hlt : k < xn
    case neg =>
      have hd0 : decide (k < xn) = false := by simpa using hlt
      have hke : k = xn := by omega
      subst hke
      have HMK := Lib.hid (HMD.out AO cO wr HGW.out (by
        have h := HOW.out
        rw [List.take_of_length_le (by rw [HRA.out.1, HXN.out]; omega)] at h
        exact Rd.of_own h))
      have HKR2 := Lib.hid (blkq HKR.out HG.out.1)
      clear HOW HKB hlt
      go_wp2_with fail
      refine HMK.out.mono ?_
      rintro e w6 ⟨hg6, ⟨zr, zt, ⟨zA, zd, zs⟩⟩, rfl, hz1, hz2, hz3, hz4⟩
      simp only at hz2 hz3 hz4
      obtain ⟨zn, hzn⟩ : ∃ n : Nat, zs.length = n := ⟨_, rfl⟩
      have hzv : (⟨zr, zt, ⟨zA, zd, zs⟩⟩ : EdtM).v = .agg #[.int .i64 zr, .int .i64 zt, .slice zA zn zd] := by rw [← hzn]; rfl
      rw [hzv]
      have HZV := Lib.hid hzv
      have hk6 := blkq HKR2.out hg6
      have e0 : w6.cell? ⟨b0 + 2, 0, none⟩ = some (.int .i64 0) := hk6.cell 0
      have e1 : w6.cell? ⟨b0 + 2, 1, none⟩ = some (.int .i64 0) := hk6.cell 1
      have e2 : w6.cell? ⟨b0 + 2, 2, none⟩ = some (.slice none 0 0) := hk6.cell 2
      have f0 := hk6.frozen 0
      have f1 := hk6.frozen 1
      have f2 := hk6.frozen 2
      have HGF : Hid (Gq w (setN w6 (b0 + 2) 0 [.int .i64 zr, .int .i64 zt, .slice zA zn zd])) := setN_below (by rw [HB0.out]; omega) _ _ _ (HGW.out.trans hg6)
      have HBF : Hid (Blk (setN w6 (b0 + 2) 0 [.int .i64 zr, .int .i64 zt, .slice zA zn zd]) (b0 + 2) 24 [.int .i64 zr, .int .i64 zt, .slice zA zn zd]) := setN_blk _ hk6 rfl
      have HRF : Hid (RdT 39 (setN w6 (b0 + 2) 0 [.int .i64 zr, .int .i64 zt, .slice zA zn zd]) zA (zs.flatMap CliM.cs)) := hz3.kp (setN_kp _ hk6 (by decide) 0)
      obtain ⟨wf, hwf⟩ : ∃ wf, setN w6 (b0 + 2) 0 [.int .i64 zr, .int .i64 zt, .slice zA zn zd] = wf := ⟨_, rfl⟩
      rw [hwf] at HGF HBF HRF
      have hwf2 : ((w6.setCell ⟨b0 + 2, 0, none⟩ (.int .i64 zr)).setCell ⟨b0 + 2, 1, none⟩ (.int .i64 zt)).setCell ⟨b0 + 2, 2, none⟩ (.slice zA zn zd) = wf := hwf
      have HWF := Lib.hid hwf2
      have HFIN : Hid (EdiT r ⟨cm, cc, cf, ct, ca, cl, ⟨CA, cd, cs⟩⟩ xs w (.returned (.tuple #[.agg #[.int .i64 zr, .int .i64 zt, .slice zA zn zd], .int .i64 r.2])) wf) :=
        ⟨HGF.out, ⟨zr, zt, ⟨zA, zd, zs⟩⟩, by rw [HZV.out], hz1, hz2, HRF.out, fun y hy => HRA.out.2.2.2 y (hz4 y hy)⟩
      have q0 : wf.cell? ⟨b0 + 2, 0, none⟩ = some (.int .i64 zr) := HBF.out.cell 0
      have q1 : wf.cell? ⟨b0 + 2, 1, none⟩ = some (.int .i64 zt) := HBF.out.cell 1
      have q2 : wf.cell? ⟨b0 + 2, 2, none⟩ = some (.slice zA zn zd) := HBF.out.cell 2
      clear hk6 hwf hwf2 hz1 hz2 hz3 hz4 hzv hzn hg6 p0 p1 p2
      go_wp2_with fail
      rw [HWF.out]
      exact bodyPost_ret (v := .tuple #[.agg #[.int .i64 zr, .int .i64 zt, .slice zA zn zd], .int .i64 r.2]) (by simp [results, Tryz.results14, go_sem, q0, q1, q2]) rfl HFIN.out
    have hd0 : decide (k < xn) = true := by simpa using hlt
    have i0 : (0 : Int) ≤ (k : Int) := by omega
    have i1 : (k : Int) < (xn : Int) := by omega
    have hkx : k < xs.length := by rw [HXN.out]; exact hlt
    have HTK1 : Hid (wz.heap.size = b0 + 3 ∧ (R.take (k + 1)).flatMap CliM.cs = (R.take k).flatMap CliM.cs ++ (if (k : Int) = n then (⟨cm, cc, cf, ct, ca, cl, ⟨CA, cd, cs⟩⟩ : CliM) else xs[k]).cs) := by
      refine ⟨HZZ.out, ?_⟩
      rw [List.take_add_one, HRA.out.2.1 k hkx]
      simp [List.flatMap_append]
    by_cases hkn : (k : Int) = n
    · have hdn : ((k : Int) == n) = true := by simpa using hkn
      have HTK : Hid (wz.heap.size = b0 + 3 ∧ (R.take (k + 1)).flatMap CliM.cs = (R.take k).flatMap CliM.cs ++ [.string cm, .int .i64 cc, .int .i64 cf, .int .i64 ct, .int .i64 ca, .int .i64 cl, .slice CA cn cd]) := by
        have h := HTK1.out
        rw [if_pos hkn, HCS.out] at h; exact h
      have hkb := blkq HKB.out HG.out.1
      have c0 : wr.cell? ⟨b0 + 1, 0, none⟩ = some (.string cm) := hkb.cell 0
      have c1 : wr.cell? ⟨b0 + 1, 1, none⟩ = some (.int .i64 cc) := hkb.cell 1
      have c2 : wr.cell? ⟨b0 + 1, 2, none⟩ = some (.int .i64 cf) := hkb.cell 2
      have c3 : wr.cell? ⟨b0 + 1, 3, none⟩ = some (.int .i64 ct) := hkb.cell 3
      have c4 : wr.cell? ⟨b0 + 1, 4, none⟩ = some (.int .i64 ca) := hkb.cell 4
      have c5 : wr.cell? ⟨b0 + 1, 5, none⟩ = some (.int .i64 cl) := hkb.cell 5
      have c6 : wr.cell? ⟨b0 + 1, 6, none⟩ = some (.slice CA cn cd) := hkb.cell 6
      clear hkb HTK1 hkn
      go_wp2_with (at_builtin; (refine wpList_append_own _ rfl _ _ 22 rfl (b0 + 3) 39 ii _ 7 80 Tryz.underlying22 HII.out.1 HII.out.2.1 HII.out.2.2.1 HII.out.2.2.2 rfl (by decide) (.slice AO k cO) k ((R.take k).flatMap CliM.cs) rfl (HOW.out.alloc _) ⟨wr.heap.size, 0, none⟩ 1 1 [.string cm, .int .i64 cc, .int .i64 cf, .int .i64 ct, .int .i64 ca, .int .i64 cl, .slice CA cn cd] (by rfl) (by rfl) (World.news_of_block (cs := #[.string cm, .int .i64 cc, .int .i64 cf, .int .i64 ct, .int .i64 ca, .int .i64 cl, .slice CA cn cd]) (t := 39) (fr := (0, 0)) (by exact heap_alloc_new wr _)) (by simp [Value.oneCell']) (by unfold maxLen; omega) (by omega) (by have := HG.out.2; simp; omega) ?_); intro v9 w9 hown9 hgrow9 _; have hend := chc_end HG.out HOW.out HTK.out hown9 hgrow9; obtain ⟨A9, c9, rfl⟩ := slice_of_own hown9; have HEND := Lib.hid hend; clear hend hown9 hgrow9)
      go_roundw
      case rel => exact ⟨k + 1, A9, c9, by omega, by go_num, rfl, HEND.out.2, HEND.out.1⟩
      case measure => simp [intOf]; omega
    · have hdn : ((k : Int) == n) = false := by simpa using hkn
      obtain ⟨b, off, rfl, hbb, hcs⟩ := cli_at (HXR.out.below HGW.out) (show 0 < xs.length by omega)
      obtain ⟨d0, d1, d2, d3, d4, d5, d6⟩ := hcs k hkx
      obtain ⟨Z, hZ⟩ : ∃ X, xs[k] = X := ⟨_, rfl⟩
      rw [hZ] at d0 d1 d2 d3 d4 d5 d6 HTK1
      clear hcs hZ
      obtain ⟨xm, xc, xf, xt, xa, xl, ⟨EA, ed, es⟩⟩ := Z
      simp only at d0 d1 d2 d3 d4 d5 d6
      obtain ⟨en, hen⟩ : ∃ k : Nat, es.length = k := ⟨_, rfl⟩
      rw [hen] at d6
      have HTK : Hid (wz.heap.size = b0 + 3 ∧ (R.take (k + 1)).flatMap CliM.cs = (R.take k).flatMap CliM.cs ++ [.string xm, .int .i64 xc, .int .i64 xf, .int .i64 xt, .int .i64 xa, .int .i64 xl, .slice EA en ed]) := by
        have h := HTK1.out
        rw [if_neg hkn] at h
        have h2 : (⟨xm, xc, xf, xt, xa, xl, ⟨EA, ed, es⟩⟩ : CliM).cs = [.string xm, .int .i64 xc, .int .i64 xf, .int .i64 xt, .int .i64 xa, .int .i64 xl, .slice EA en ed] := by show [Value.string xm, _, _, _, _, _, .slice EA es.length ed] = _; rw [hen]
        rw [h2] at h; exact h
      clear HTK1 hkn hen
      go_wp2_with (at_builtin; (refine wpList_append_own _ rfl _ _ 22 rfl (b0 + 3) 39 ii _ 7 80 Tryz.underlying22 HII.out.1 HII.out.2.1 HII.out.2.2.1 HII.out.2.2.2 rfl (by decide) (.slice AO k cO) k ((R.take k).flatMap CliM.cs) rfl (HOW.out.alloc _) ⟨wr.heap.size, 0, none⟩ 1 1 [.string xm, .int .i64 xc, .int .i64 xf, .int .i64 xt, .int .i64 xa, .int .i64 xl, .slice EA en ed] (by rfl) (by rfl) (World.news_of_block (cs := #[.string xm, .int .i64 xc, .int .i64 xf, .int .i64 xt, .int .i64 xa, .int .i64 xl, .slice EA en ed]) (t := 39) (fr := (0, 0)) (by exact heap_alloc_new wr _)) (by simp [Value.oneCell']) (by unfold maxLen; omega) (by omega) (by have := HG.out.2; simp; omega) ?_); intro v9 w9 hown9 hgrow9 _; have hend := chc_end HG.out HOW.out HTK.out hown9 hgrow9; obtain ⟨A9, c9, rfl⟩ := slice_of_own hown9; have HEND := Lib.hid hend; clear hend hown9 hgrow9)
      go_roundw
      case rel => exact ⟨k + 1, A9, c9, by omega, by go_num, rfl, HEND.out.2, HEND.out.1⟩
      case measure => simp [intOf]; omega
end Go.Proofs.YteaghgbpcpileaaGreatDoor
/- Generated (gen/sto2.py): the reference's SlipTo. -/
namespace Go.Proofs.YteaghgbpcpileaaGreatDoor
open Go.RowKit Go.Dw
attribute [local go_sem ↓] Go.wp_at_zero Go.wp_at_succ

theorem builtESR : Tryz.prog.built 24 [] = some #[.int .i64 0, .int .i64 0, .slice none 0 0] := by kernel_rfl
theorem runESR (w : World) : (Instr.build 24 #[]).run Tryz.prog w = .ok (.agg #[.int .i64 0, .int .i64 0, .slice none 0 0]) w := run_build w _ _ _ builtESR
theorem repL_outSR (n : Int) (G : Cli → Cli) (c : CliM) : ∀ (xs : List CliM) (i : Nat), (∀ k (h : k < xs.length), ((i + k : Nat) : Int) = n → c.x = G (xs[k]).x) → (repL n c xs i).map CliM.x = outL (chgD n G) (xs.map CliM.x) i
  | [], _, _ => rfl
  | x :: xs, i, h => by
    rw [repL, List.map_cons, List.map_cons, outL, repL_outSR n G c xs (i + 1) (fun k hk e => by
      have := h (k + 1) (by simpa using hk) (by rw [← e]; congr 1; omega)
      simpa using this)]
    unfold chgD
    by_cases hi : (i : Int) = n
    · rw [if_pos hi, if_pos hi]
      have := h 0 (by simp) (by simpa using hi)
      simp only [List.getElem_cons_zero] at this
      rw [this]; rfl
    · rw [if_neg hi, if_neg hi]; rfl
/-- what the reference's SlipTo answers -/
def slipE (nm : ByteArray → Bool) (mx : Int) (e : Edt) (n a : Int) : Edt × Int :=
  if numF nm mx e n ≠ 0 then (e0, numF nm mx e n) else if ¬ (-20000000000000 ≤ a ∧ a ≤ 20000000000000) then (e0, 1) else mkE nm mx ⟨e.rate, e.tracks, srtC (outL (chgD n (slpC a)) e.cs 0)⟩
theorem numF_inSR {nm : ByteArray → Bool} {mx : Int} {e : Edt} {n : Int} (h : numF nm mx e n = 0) : ediF nm mx e = 0 ∧ 0 ≤ n ∧ n < (e.cs.length : Int) := by
  unfold numF at h
  split at h
  · rename_i h1; exact absurd h h1
  · rename_i h1
    refine ⟨Decidable.byContradiction fun k => h1 k, ?_⟩
    split at h
    · omega
    · omega
set_option maxRecDepth 100000 in
set_option maxHeartbeats 8000000 in
theorem slipR_any (x : EdtM) (n a : Int) (w : World) (hx : EdtOk w x) (hp : HasPow w) :
    Calls Tryz.prog 5 #[x.v, .int .i64 n, .int .i64 a] w (EdiR (slipE isNm 1000000 x.x n a) w) := by
  obtain ⟨q, hq⟩ : ∃ q, slipE isNm 1000000 x.x n a = q := ⟨_, rfl⟩
  obtain ⟨f, hf⟩ : ∃ f, numF isNm 1000000 x.x n = f := ⟨_, rfl⟩
  obtain ⟨tb, htb⟩ : ∃ b, decide (-20000000000000 ≤ a ∧ a ≤ 20000000000000) = b := ⟨_, rfl⟩
  have HF1 : Hid (f ≠ 0 → q = (e0, f)) := fun h => by rw [← hq]; unfold slipE; rw [hf, if_pos h]
  have HF2 : Hid (f = 0 → tb = false → q = (e0, 1)) := fun h g => by rw [← hq]; unfold slipE; rw [hf, if_neg (fun k => k h), if_pos (of_decide_eq_false (htb.trans g))]
  have HF3 : Hid (f = 0 → tb = true → mkE isNm 1000000 ⟨x.rate, x.tracks, srtC (outL (chgD n (slpC a)) x.x.cs 0)⟩ = q) := fun h g => by
    rw [← hq]; unfold slipE
    rw [hf, if_neg (fun k => k h), if_neg (fun k => k (of_decide_eq_true (htb.trans g)))]; rfl
  have HIN : Hid (f = 0 → ediF isNm 1000000 x.x = 0 ∧ 0 ≤ n ∧ n < (x.cs.xs.length : Int)) := fun h => by
    have := numF_inSR (hf.trans h)
    have h2 : (x.x.cs.length : Int) = x.cs.xs.length := by show ((x.cs.xs.map CliM.x).length : Int) = _; rw [List.length_map]
    rw [h2] at this; exact this
  have HTB : Hid (tb = true → -20000000000000 ≤ a ∧ a ≤ 20000000000000) := fun h => of_decide_eq_true (htb.trans h)
  rw [hq]
  obtain ⟨b0, hb0⟩ : ∃ b, w.heap.size = b := ⟨_, rfl⟩
  obtain ⟨wa, hwa⟩ : ∃ wa, wa = w.alloc (.cells #[.int .i64 x.rate, .int .i64 x.tracks, .slice x.cs.a x.cs.xs.length x.cs.c] 24) := ⟨_, rfl⟩
  obtain ⟨wz, hwz⟩ : ∃ wz, wz = wa.alloc (.cells #[.int .i64 0, .int .i64 0, .slice none 0 0] 24) := ⟨_, rfl⟩
  have hga : Gq w wa := by rw [hwa]; exact (Gq.refl _).alloc _
  have hgz : Gq wa wz := by rw [hwz]; exact (Gq.refl _).alloc _
  have hza : wa.heap.size = b0 + 1 := by rw [hwa]; simp; omega
  have HG : Hid (Gq w wz) := hga.trans hgz
  have HKA : Hid (Blk wz b0 24 [.int .i64 x.rate, .int .i64 x.tracks, .slice x.cs.a x.cs.xs.length x.cs.c]) := by
    refine blkq (?_ : Blk wa b0 _ _) hgz; rw [hwa, ← hb0]; exact Blk.new w _ _
  have HKR : Hid (Blk wz (b0 + 1) 24 [.int .i64 0, .int .i64 0, .slice none 0 0]) := by rw [hwz, ← hza]; exact Blk.new wa _ _
  have hck := chosen_any x n wz (hx.below HG.out) (hp.below HG.out)
  rw [hf] at hck
  have HCK := Lib.hid hck
  have HFR : Hid (∀ W, Calls Tryz.prog 13 #[.int .i64 a] W fun e w' => e = .returned (.bool (!tb)) ∧ W = w') := fun W => by
    have := farR_any a W
    rw [htb] at this; exact this
  have HCH : Hid (∀ (k : Nat) (hk : k < x.cs.xs.length) (W : World), Gq w W → f = 0 → tb = true → (k : Int) = n → inI64 ((x.cs.xs[k]).fr + a) → Calls Tryz.prog 14 #[x.v, .int .i64 n, (⟨(x.cs.xs[k]).m, (x.cs.xs[k]).ch, (x.cs.xs[k]).fr + a, (x.cs.xs[k]).tr, (x.cs.xs[k]).at_, (x.cs.xs[k]).ln, (x.cs.xs[k]).e⟩ : CliM).v] W (EdiT q ⟨(x.cs.xs[k]).m, (x.cs.xs[k]).ch, (x.cs.xs[k]).fr + a, (x.cs.xs[k]).tr, (x.cs.xs[k]).at_, (x.cs.xs[k]).ln, (x.cs.xs[k]).e⟩ x.cs.xs W)) := fun k hk W hW h0 h1 h2 h3 => by
    have he := (HIN.out h0).1
    have l1 : x.cs.xs.length ≤ 300 := by have := (ediF_ok he).l; simpa [EdtM.x] using this
    have hc := (hx.co _ (List.getElem_mem hk)).below hW
    have := changedR_any x n ⟨(x.cs.xs[k]).m, (x.cs.xs[k]).ch, (x.cs.xs[k]).fr + a, (x.cs.xs[k]).tr, (x.cs.xs[k]).at_, (x.cs.xs[k]).ln, (x.cs.xs[k]).e⟩ W (hx.below hW) ⟨hc.m, hc.ch, h3, hc.tr, hc.at_, hc.ln, hc.el, hc.er, hc.eo⟩ l1 (hp.below hW)
    rw [repL_outSR n (slpC a) _ x.cs.xs 0 (fun j hj e => by
      have : j = k := by omega
      subst this; rfl)] at this
    rw [show srtC (outL (chgD n (slpC a)) (x.cs.xs.map CliM.x) 0) = srtC (outL (chgD n (slpC a)) x.x.cs 0) from rfl, HF3.out h0 h1] at this
    exact this
  have HRG : Hid (f = 0 → ∀ (k : Nat) (hk : k < x.cs.xs.length), (0 ≤ (x.cs.xs[k]).fr ∧ (x.cs.xs[k]).fr ≤ 10000000000000) ∧ 0 ≤ (x.cs.xs[k]).at_ ∧ (x.cs.xs[k]).at_ < 100000) := fun h0 k hk => by
    have he := (HIN.out h0).1
    have hr2 := (cliF_ok (ediF_cli he (x.cs.xs[k]).x (List.mem_map_of_mem (List.getElem_mem hk)))).r
    obtain ⟨_, f1, _, a1, _, _⟩ := hr2
    exact ⟨f1, a1⟩
  have HCO : Hid (∀ y ∈ x.cs.xs, CliOk w y) := hx.co
  have HXR : Hid (Rd w x.cs.a (x.cs.xs.flatMap CliM.cs)) := hx.cr
  have a0 : wz.cell? ⟨b0, 0, none⟩ = some (.int .i64 x.rate) := HKA.out.cell 0
  have a1 : wz.cell? ⟨b0, 1, none⟩ = some (.int .i64 x.tracks) := HKA.out.cell 1
  have a2 : wz.cell? ⟨b0, 2, none⟩ = some (.slice x.cs.a x.cs.xs.length x.cs.c) := HKA.out.cell 2
  rw [hwa] at hwz
  have HWZ := Lib.hid hwz
  have HB0 := Lib.hid hb0
  clear hwa hwz hga hgz hza hck hq hf htb hx hp
  obtain ⟨rt, tk, ⟨xA, xd, xs⟩⟩ := x
  simp only [EdtM.v, Slc.v] at HCK HCH HWZ HKA HIN HRG HXR HCO a0 a1 a2 ⊢
  obtain ⟨xn, hxn⟩ : ∃ k : Nat, xs.length = k := ⟨_, rfl⟩
  have HXN := Lib.hid hxn
  simp only [hxn] at HCK HWZ HKA HIN a0 a1 a2 ⊢
  clear hxn HF3
  go_enter Tryz.func5, Tryz.ntmps5
  go_upto_region 1 with (fail)
  rw [← HWZ.out]
  try simp only [hb0]
  clear hb0
  go_wp2_with fail
  refine HCK.out.mono ?_
  rintro e w2 ⟨rfl, hg2⟩
  have HG2 : Hid (Gq w w2) := HG.out.trans hg2
  have hka := blkq HKA.out hg2
  have hkr := blkq HKR.out hg2
  have HKR2 := Lib.hid hkr
  have HKA2 := Lib.hid hka
  have c0 : w2.cell? ⟨b0, 0, none⟩ = some (.int .i64 rt) := hka.cell 0
  have c1 : w2.cell? ⟨b0, 1, none⟩ = some (.int .i64 tk) := hka.cell 1
  have c2 : w2.cell? ⟨b0, 2, none⟩ = some (.slice xA xn xd) := hka.cell 2
  have r0 : w2.cell? ⟨b0 + 1, 0, none⟩ = some (.int .i64 0) := hkr.cell 0
  have r1 : w2.cell? ⟨b0 + 1, 1, none⟩ = some (.int .i64 0) := hkr.cell 1
  have r2 : w2.cell? ⟨b0 + 1, 2, none⟩ = some (.slice none 0 0) := hkr.cell 2
  have g0 := hkr.frozen 0
  have g1 := hkr.frozen 1
  have g2 := hkr.frozen 2
  have hre := runESR w2
  have HGF : Hid (Gq w (setN w2 (b0 + 1) 0 [.int .i64 0, .int .i64 0, .slice none 0 0])) := setN_below (by rw [HB0.out]; omega) _ _ _ HG2.out
  have HBF : Hid (Blk (setN w2 (b0 + 1) 0 [.int .i64 0, .int .i64 0, .slice none 0 0]) (b0 + 1) 24 [.int .i64 0, .int .i64 0, .slice none 0 0]) := setN_blk _ hkr rfl
  obtain ⟨wf, hwf⟩ : ∃ wf, setN w2 (b0 + 1) 0 [.int .i64 0, .int .i64 0, .slice none 0 0] = wf := ⟨_, rfl⟩
  rw [hwf] at HGF HBF
  have hwf2 : ((w2.setCell ⟨b0 + 1, 0, none⟩ (.int .i64 0)).setCell ⟨b0 + 1, 1, none⟩ (.int .i64 0)).setCell ⟨b0 + 1, 2, none⟩ (.slice none 0 0) = wf := hwf
  have HWF := Lib.hid hwf2
  have q0 : wf.cell? ⟨b0 + 1, 0, none⟩ = some (.int .i64 0) := HBF.out.cell 0
  have q1 : wf.cell? ⟨b0 + 1, 1, none⟩ = some (.int .i64 0) := HBF.out.cell 1
  have q2 : wf.cell? ⟨b0 + 1, 2, none⟩ = some (.slice none 0 0) := HBF.out.cell 2
  clear hg2 hka hkr a0 a1 a2 HCK HWZ HKA hwf hwf2
  by_cases h0 : f = 0
  case neg =>
    have hfb : (f != 0) = true := by simp [h0]
    have HQ : Hid (q = (e0, f)) := HF1.out h0
    clear h0
    go_wp2_with fail
    rw [HWF.out]
    exact bodyPost_ret (v := .tuple #[.agg #[.int .i64 0, .int .i64 0, .slice none 0 0], .int .i64 f]) (by simp [results, Tryz.results5, go_sem, q0, q1, q2]) rfl (ediR_none HQ.out HGF.out)
  have hfb : (f != 0) = false := by simp [h0]
  have HZ := Lib.hid h0
  have HNB := Lib.hid (HIN.out h0).2
  clear h0
  go_wp2_with fail
  refine (HFR.out w2).mono ?_
  rintro e w3 ⟨rfl, rfl⟩
  cases tb with
  | false =>
    have HQ : Hid (q = (e0, 1)) := HF2.out HZ.out rfl
    go_wp2_with fail
    rw [HWF.out]
    exact bodyPost_ret (v := .tuple #[.agg #[.int .i64 0, .int .i64 0, .slice none 0 0], .int .i64 1]) (by simp [results, Tryz.results5, go_sem, q0, q1, q2]) rfl (ediR_none HQ.out HGF.out)
  | true =>
    clear hre q0 q1 q2 HWF HBF HGF r0 r1 r2 g0 g1 g2
    obtain ⟨k, hkn⟩ : ∃ k : Nat, (k : Int) = n := ⟨n.toNat, by have := HNB.out; omega⟩
    have hkx : k < xs.length := by rw [HXN.out]; have := HNB.out; omega
    have HC1 := Lib.hid (HCH.out k hkx)
    have HR1 := Lib.hid (HRG.out HZ.out k hkx)
    have HOK : Hid (CliOk w xs[k] ∧ ∀ y ∈ xs, CliOk w y) := ⟨HCO.out _ (List.getElem_mem hkx), HCO.out⟩
    obtain ⟨b, off, hA, hbb, hcs⟩ := cli_at (HXR.out.below HG2.out) (show 0 < xs.length by omega)
    obtain rfl : xA = some ⟨b, off, none⟩ := hA
    obtain ⟨d0, d1, d2, d3, d4, d5, d6⟩ := hcs k hkx
    obtain ⟨Z, hZ⟩ : ∃ X, xs[k] = X := ⟨_, rfl⟩
    rw [hZ] at d0 d1 d2 d3 d4 d5 d6
    simp only [hZ] at HC1 HR1 HOK
    clear hcs hZ HCH HRG
    obtain ⟨xm, xc, xf, xt, xa, xl, ⟨EA, ed, es⟩⟩ := Z
    simp only at d0 d1 d2 d3 d4 d5 d6 HR1
    simp only [CliM.v, Slc.v] at HC1
    obtain ⟨en, hen⟩ : ∃ m : Nat, es.length = m := ⟨_, rfl⟩
    rw [hen] at d6
    simp only [hen, HXN.out] at HC1
    have i0 : (0 : Int) ≤ n := HNB.out.1
    have i1 : n < (xn : Int) := HNB.out.2
    have it : n.toNat = k := by omega
    have HIB : Hid (inI64 (xf + a)) := by
      have h1 := HR1.out
      have h2 := HTB.out rfl
      show _ ≤ _ ∧ _ ≤ _
      omega
    obtain ⟨s, hs⟩ : ∃ s, xf + a = s := ⟨_, rfl⟩
    have hsw : IntKind.i64.wrap (xf + a) = s := by rw [← hs]; have := HIB.out; unfold inI64 at this; exact IntWalk.i64_in _ (by omega)
    have HC3 : Hid (∀ W, Gq w W → Calls Tryz.prog 14 #[.agg #[.int .i64 rt, .int .i64 tk, .slice (some ⟨b, off, none⟩) xn xd], .int .i64 n, .agg #[.string xm, .int .i64 xc, .int .i64 s, .int .i64 xt, .int .i64 xa, .int .i64 xl, .slice EA en ed]] W (fun e w' => Gq W w' ∧ ∃ x : EdtM, e = .returned (.tuple #[x.v, .int .i64 q.2]) ∧ x.x = q.1 ∧ (inI64 x.rate ∧ inI64 x.tracks ∧ x.cs.xs.length ≤ 1000000) ∧ RdT 39 w' x.cs.a (x.cs.xs.flatMap CliM.cs) ∧ ∀ y ∈ x.cs.xs, CliOk w y)) := fun W hW => by
      have := HC1.out W hW HZ.out (by first | rfl | trivial) hkn HIB.out
      rw [hs] at this
      exact this.mono fun e w' ⟨h1, z, h2, h3, h4, h5, h6⟩ => ⟨h1, z, h2, h3, h4, h5, fun y hy => by
        rcases h6 y hy with rfl | h
        · have h7 := HOK.out.1; exact ⟨h7.m, h7.ch, (by rw [← hs]; exact HIB.out), h7.tr, h7.at_, h7.ln, h7.el, h7.er, h7.eo⟩
        · exact HOK.out.2 y h⟩
    clear hs HC1 hen hkn HIB
    obtain ⟨gc, hgc⟩ : ∃ g, w2.heap.size = g := ⟨_, rfl⟩
    obtain ⟨wc1, hwc⟩ : ∃ W, W = w2.alloc (.cells #[.string xm, .int .i64 xc, .int .i64 xf, .int .i64 xt, .int .i64 xa, .int .i64 xl, .slice EA en ed] 39) := ⟨_, rfl⟩
    have hgw : Gq w2 wc1 := by rw [hwc]; exact (Gq.refl _).alloc _
    have HKC : Hid (Blk wc1 gc 39 [.string xm, .int .i64 xc, .int .i64 xf, .int .i64 xt, .int .i64 xa, .int .i64 xl, .slice EA en ed]) := by rw [hwc, ← hgc]; exact Blk.new w2 _ _
    have m2 : wc1.cell? ⟨gc, 2, none⟩ = some (.int .i64 xf) := HKC.out.cell 2
    have fm := HKC.out.frozen 2
    have hk4 := HKC.out.set_ 2 (.int .i64 s)
    obtain ⟨w4, hw4⟩ : ∃ W, W = wc1.setCell ⟨gc, 2, none⟩ (.int .i64 s) := ⟨_, rfl⟩
    rw [← hw4] at hk4
    have HK4 : Hid (Blk w4 gc 39 [.string xm, .int .i64 xc, .int .i64 s, .int .i64 xt, .int .i64 xa, .int .i64 xl, .slice EA en ed]) := hk4
    have HG4 : Hid (Gq w2 w4) := by rw [hw4]; exact hgw.setCell (p := ⟨gc, 2, none⟩) (by show _ ≤ gc; omega) _
    have HWC := Lib.hid hwc
    have HW4 := Lib.hid hw4
    clear hwc hw4 hk4 hgw
    go_upto_region 7 with (fail)
    rw [← HWC.out]
    try simp only [hgc]
    clear d0 d1 d2 d3 d4 d5 d6 i0 i1 it c0 c1 c2
    go_upto_region 8 with (fail)
    rw [← HW4.out]
    clear m2 fm hsw
    have HG5 : Hid (Gq w w4) := HG2.out.trans HG4.out
    have hka := blkq HKA2.out HG4.out
    have hkr := blkq HKR2.out HG4.out
    have c0 : w4.cell? ⟨b0, 0, none⟩ = some (.int .i64 rt) := hka.cell 0
    have c1 : w4.cell? ⟨b0, 1, none⟩ = some (.int .i64 tk) := hka.cell 1
    have c2 : w4.cell? ⟨b0, 2, none⟩ = some (.slice (some ⟨b, off, none⟩) xn xd) := hka.cell 2
    have l0 : w4.cell? ⟨gc, 0, none⟩ = some (.string xm) := HK4.out.cell 0
    have l1 : w4.cell? ⟨gc, 1, none⟩ = some (.int .i64 xc) := HK4.out.cell 1
    have l2 : w4.cell? ⟨gc, 2, none⟩ = some (.int .i64 s) := HK4.out.cell 2
    have l3 : w4.cell? ⟨gc, 3, none⟩ = some (.int .i64 xt) := HK4.out.cell 3
    have l4 : w4.cell? ⟨gc, 4, none⟩ = some (.int .i64 xa) := HK4.out.cell 4
    have l5 : w4.cell? ⟨gc, 5, none⟩ = some (.int .i64 xl) := HK4.out.cell 5
    have l6 : w4.cell? ⟨gc, 6, none⟩ = some (.slice EA en ed) := HK4.out.cell 6
    have HC5 := Lib.hid (HC3.out w4 HG5.out)
    have HKR5 := Lib.hid hkr
    clear hka hkr HKA2 HKR2 HC3 hgc
    go_wp2_with fail
    refine HC5.out.mono ?_
    rintro e w6 ⟨hg6, ⟨zr, zt, ⟨zA, zd, zs⟩⟩, rfl, hz1, hz2, hz3, hz4⟩
    simp only at hz2 hz3 hz4
    obtain ⟨zn, hzn⟩ : ∃ n : Nat, zs.length = n := ⟨_, rfl⟩
    have hzv : (⟨zr, zt, ⟨zA, zd, zs⟩⟩ : EdtM).v = .agg #[.int .i64 zr, .int .i64 zt, .slice zA zn zd] := by rw [← hzn]; rfl
    rw [hzv]
    have HZV := Lib.hid hzv
    have hk6 := blkq HKR5.out hg6
    have e0 : w6.cell? ⟨b0 + 1, 0, none⟩ = some (.int .i64 0) := hk6.cell 0
    have e1 : w6.cell? ⟨b0 + 1, 1, none⟩ = some (.int .i64 0) := hk6.cell 1
    have e2 : w6.cell? ⟨b0 + 1, 2, none⟩ = some (.slice none 0 0) := hk6.cell 2
    have f0 := hk6.frozen 0
    have f1 := hk6.frozen 1
    have f2 := hk6.frozen 2
    have HGF : Hid (Gq w (setN w6 (b0 + 1) 0 [.int .i64 zr, .int .i64 zt, .slice zA zn zd])) := setN_below (by rw [HB0.out]; omega) _ _ _ (HG5.out.trans hg6)
    have HBF : Hid (Blk (setN w6 (b0 + 1) 0 [.int .i64 zr, .int .i64 zt, .slice zA zn zd]) (b0 + 1) 24 [.int .i64 zr, .int .i64 zt, .slice zA zn zd]) := setN_blk _ hk6 rfl
    have HRF : Hid (RdT 39 (setN w6 (b0 + 1) 0 [.int .i64 zr, .int .i64 zt, .slice zA zn zd]) zA (zs.flatMap CliM.cs)) := hz3.kp (setN_kp _ hk6 (by decide) 0)
    obtain ⟨wg, hwg⟩ : ∃ W, setN w6 (b0 + 1) 0 [.int .i64 zr, .int .i64 zt, .slice zA zn zd] = W := ⟨_, rfl⟩
    rw [hwg] at HGF HBF HRF
    have hwg2 : ((w6.setCell ⟨b0 + 1, 0, none⟩ (.int .i64 zr)).setCell ⟨b0 + 1, 1, none⟩ (.int .i64 zt)).setCell ⟨b0 + 1, 2, none⟩ (.slice zA zn zd) = wg := hwg
    have HWG := Lib.hid hwg2
    have HFIN : Hid (EdiR q w (.returned (.tuple #[.agg #[.int .i64 zr, .int .i64 zt, .slice zA zn zd], .int .i64 q.2])) wg) := by
      refine ⟨HGF.out, ⟨zr, zt, ⟨zA, zd, zs⟩⟩, by rw [HZV.out], hz1, hz2.1, hz2.2.1, ?_, HRF.out.rd, fun y hy => (hz4 y hy).below HGF.out⟩
      have := hz2.2.2
      show zs.length ≤ _
      omega
    have q0 : wg.cell? ⟨b0 + 1, 0, none⟩ = some (.int .i64 zr) := HBF.out.cell 0
    have q1 : wg.cell? ⟨b0 + 1, 1, none⟩ = some (.int .i64 zt) := HBF.out.cell 1
    have q2 : wg.cell? ⟨b0 + 1, 2, none⟩ = some (.slice zA zn zd) := HBF.out.cell 2
    clear hk6 hwg hwg2 hz1 hz2 hz3 hz4 hzv hzn hg6
    go_wp2_with fail
    rw [HWG.out]
    exact bodyPost_ret (v := .tuple #[.agg #[.int .i64 zr, .int .i64 zt, .slice zA zn zd], .int .i64 q.2]) (by simp [results, Tryz.results5, go_sem, q0, q1, q2]) rfl HFIN.out
end Go.Proofs.YteaghgbpcpileaaGreatDoor
/- Generated (gen/sto2.py): the reference's MoveTo. -/
namespace Go.Proofs.YteaghgbpcpileaaGreatDoor
open Go.RowKit Go.Dw
attribute [local go_sem ↓] Go.wp_at_zero Go.wp_at_succ

theorem builtEMR : Tryz.prog.built 24 [] = some #[.int .i64 0, .int .i64 0, .slice none 0 0] := by kernel_rfl
theorem runEMR (w : World) : (Instr.build 24 #[]).run Tryz.prog w = .ok (.agg #[.int .i64 0, .int .i64 0, .slice none 0 0]) w := run_build w _ _ _ builtEMR
theorem repL_outMR (n : Int) (G : Cli → Cli) (c : CliM) : ∀ (xs : List CliM) (i : Nat), (∀ k (h : k < xs.length), ((i + k : Nat) : Int) = n → c.x = G (xs[k]).x) → (repL n c xs i).map CliM.x = outL (chgD n G) (xs.map CliM.x) i
  | [], _, _ => rfl
  | x :: xs, i, h => by
    rw [repL, List.map_cons, List.map_cons, outL, repL_outMR n G c xs (i + 1) (fun k hk e => by
      have := h (k + 1) (by simpa using hk) (by rw [← e]; congr 1; omega)
      simpa using this)]
    unfold chgD
    by_cases hi : (i : Int) = n
    · rw [if_pos hi, if_pos hi]
      have := h 0 (by simp) (by simpa using hi)
      simp only [List.getElem_cons_zero] at this
      rw [this]; rfl
    · rw [if_neg hi, if_neg hi]; rfl
/-- what the reference's MoveTo answers -/
def moveE (nm : ByteArray → Bool) (mx : Int) (e : Edt) (n a t : Int) : Edt × Int :=
  if numF nm mx e n ≠ 0 then (e0, numF nm mx e n) else if ¬ (-20000000000000 ≤ a ∧ a ≤ 20000000000000) then (e0, 1) else mkE nm mx ⟨e.rate, e.tracks, srtC (outL (chgD n (mvtC a t)) e.cs 0)⟩
theorem numF_inMR {nm : ByteArray → Bool} {mx : Int} {e : Edt} {n : Int} (h : numF nm mx e n = 0) : ediF nm mx e = 0 ∧ 0 ≤ n ∧ n < (e.cs.length : Int) := by
  unfold numF at h
  split at h
  · rename_i h1; exact absurd h h1
  · rename_i h1
    refine ⟨Decidable.byContradiction fun k => h1 k, ?_⟩
    split at h
    · omega
    · omega
set_option maxRecDepth 100000 in
set_option maxHeartbeats 8000000 in
theorem moveR_any (x : EdtM) (n a t : Int) (w : World) (hx : EdtOk w x) (hp : HasPow w) (ht : inI64 t) :
    Calls Tryz.prog 8 #[x.v, .int .i64 n, .int .i64 a, .int .i64 t] w (EdiR (moveE isNm 1000000 x.x n a t) w) := by
  obtain ⟨q, hq⟩ : ∃ q, moveE isNm 1000000 x.x n a t = q := ⟨_, rfl⟩
  obtain ⟨f, hf⟩ : ∃ f, numF isNm 1000000 x.x n = f := ⟨_, rfl⟩
  obtain ⟨tb, htb⟩ : ∃ b, decide (-20000000000000 ≤ a ∧ a ≤ 20000000000000) = b := ⟨_, rfl⟩
  have HF1 : Hid (f ≠ 0 → q = (e0, f)) := fun h => by rw [← hq]; unfold moveE; rw [hf, if_pos h]
  have HF2 : Hid (f = 0 → tb = false → q = (e0, 1)) := fun h g => by rw [← hq]; unfold moveE; rw [hf, if_neg (fun k => k h), if_pos (of_decide_eq_false (htb.trans g))]
  have HF3 : Hid (f = 0 → tb = true → mkE isNm 1000000 ⟨x.rate, x.tracks, srtC (outL (chgD n (mvtC a t)) x.x.cs 0)⟩ = q) := fun h g => by
    rw [← hq]; unfold moveE
    rw [hf, if_neg (fun k => k h), if_neg (fun k => k (of_decide_eq_true (htb.trans g)))]; rfl
  have HIN : Hid (f = 0 → ediF isNm 1000000 x.x = 0 ∧ 0 ≤ n ∧ n < (x.cs.xs.length : Int)) := fun h => by
    have := numF_inMR (hf.trans h)
    have h2 : (x.x.cs.length : Int) = x.cs.xs.length := by show ((x.cs.xs.map CliM.x).length : Int) = _; rw [List.length_map]
    rw [h2] at this; exact this
  have HTB : Hid (tb = true → -20000000000000 ≤ a ∧ a ≤ 20000000000000) := fun h => of_decide_eq_true (htb.trans h)
  rw [hq]
  obtain ⟨b0, hb0⟩ : ∃ b, w.heap.size = b := ⟨_, rfl⟩
  obtain ⟨wa, hwa⟩ : ∃ wa, wa = w.alloc (.cells #[.int .i64 x.rate, .int .i64 x.tracks, .slice x.cs.a x.cs.xs.length x.cs.c] 24) := ⟨_, rfl⟩
  obtain ⟨wz, hwz⟩ : ∃ wz, wz = wa.alloc (.cells #[.int .i64 0, .int .i64 0, .slice none 0 0] 24) := ⟨_, rfl⟩
  have hga : Gq w wa := by rw [hwa]; exact (Gq.refl _).alloc _
  have hgz : Gq wa wz := by rw [hwz]; exact (Gq.refl _).alloc _
  have hza : wa.heap.size = b0 + 1 := by rw [hwa]; simp; omega
  have HG : Hid (Gq w wz) := hga.trans hgz
  have HKA : Hid (Blk wz b0 24 [.int .i64 x.rate, .int .i64 x.tracks, .slice x.cs.a x.cs.xs.length x.cs.c]) := by
    refine blkq (?_ : Blk wa b0 _ _) hgz; rw [hwa, ← hb0]; exact Blk.new w _ _
  have HKR : Hid (Blk wz (b0 + 1) 24 [.int .i64 0, .int .i64 0, .slice none 0 0]) := by rw [hwz, ← hza]; exact Blk.new wa _ _
  have hck := chosen_any x n wz (hx.below HG.out) (hp.below HG.out)
  rw [hf] at hck
  have HCK := Lib.hid hck
  have HFR : Hid (∀ W, Calls Tryz.prog 13 #[.int .i64 a] W fun e w' => e = .returned (.bool (!tb)) ∧ W = w') := fun W => by
    have := farR_any a W
    rw [htb] at this; exact this
  have HCH : Hid (∀ (k : Nat) (hk : k < x.cs.xs.length) (W : World), Gq w W → f = 0 → tb = true → (k : Int) = n → inI64 ((x.cs.xs[k]).at_ + a) → Calls Tryz.prog 14 #[x.v, .int .i64 n, (⟨(x.cs.xs[k]).m, (x.cs.xs[k]).ch, (x.cs.xs[k]).fr, t, (x.cs.xs[k]).at_ + a, (x.cs.xs[k]).ln, (x.cs.xs[k]).e⟩ : CliM).v] W (EdiT q ⟨(x.cs.xs[k]).m, (x.cs.xs[k]).ch, (x.cs.xs[k]).fr, t, (x.cs.xs[k]).at_ + a, (x.cs.xs[k]).ln, (x.cs.xs[k]).e⟩ x.cs.xs W)) := fun k hk W hW h0 h1 h2 h3 => by
    have he := (HIN.out h0).1
    have l1 : x.cs.xs.length ≤ 300 := by have := (ediF_ok he).l; simpa [EdtM.x] using this
    have hc := (hx.co _ (List.getElem_mem hk)).below hW
    have := changedR_any x n ⟨(x.cs.xs[k]).m, (x.cs.xs[k]).ch, (x.cs.xs[k]).fr, t, (x.cs.xs[k]).at_ + a, (x.cs.xs[k]).ln, (x.cs.xs[k]).e⟩ W (hx.below hW) ⟨hc.m, hc.ch, hc.fr, ht, h3, hc.ln, hc.el, hc.er, hc.eo⟩ l1 (hp.below hW)
    rw [repL_outMR n (mvtC a t) _ x.cs.xs 0 (fun j hj e => by
      have : j = k := by omega
      subst this; rfl)] at this
    rw [show srtC (outL (chgD n (mvtC a t)) (x.cs.xs.map CliM.x) 0) = srtC (outL (chgD n (mvtC a t)) x.x.cs 0) from rfl, HF3.out h0 h1] at this
    exact this
  have HRG : Hid (f = 0 → ∀ (k : Nat) (hk : k < x.cs.xs.length), (0 ≤ (x.cs.xs[k]).fr ∧ (x.cs.xs[k]).fr ≤ 10000000000000) ∧ 0 ≤ (x.cs.xs[k]).at_ ∧ (x.cs.xs[k]).at_ < 100000) := fun h0 k hk => by
    have he := (HIN.out h0).1
    have hr2 := (cliF_ok (ediF_cli he (x.cs.xs[k]).x (List.mem_map_of_mem (List.getElem_mem hk)))).r
    obtain ⟨_, f1, _, a1, _, _⟩ := hr2
    exact ⟨f1, a1⟩
  have HCO : Hid (∀ y ∈ x.cs.xs, CliOk w y) := hx.co
  have HTT := Lib.hid ht
  have HXR : Hid (Rd w x.cs.a (x.cs.xs.flatMap CliM.cs)) := hx.cr
  have a0 : wz.cell? ⟨b0, 0, none⟩ = some (.int .i64 x.rate) := HKA.out.cell 0
  have a1 : wz.cell? ⟨b0, 1, none⟩ = some (.int .i64 x.tracks) := HKA.out.cell 1
  have a2 : wz.cell? ⟨b0, 2, none⟩ = some (.slice x.cs.a x.cs.xs.length x.cs.c) := HKA.out.cell 2
  rw [hwa] at hwz
  have HWZ := Lib.hid hwz
  have HB0 := Lib.hid hb0
  clear hwa hwz hga hgz hza hck hq hf htb hx hp
  obtain ⟨rt, tk, ⟨xA, xd, xs⟩⟩ := x
  simp only [EdtM.v, Slc.v] at HCK HCH HWZ HKA HIN HRG HXR HCO a0 a1 a2 ⊢
  obtain ⟨xn, hxn⟩ : ∃ k : Nat, xs.length = k := ⟨_, rfl⟩
  have HXN := Lib.hid hxn
  simp only [hxn] at HCK HWZ HKA HIN a0 a1 a2 ⊢
  clear hxn HF3
  go_enter Tryz.func8, Tryz.ntmps8
  go_upto_region 1 with (fail)
  rw [← HWZ.out]
  try simp only [hb0]
  clear hb0
  go_wp2_with fail
  refine HCK.out.mono ?_
  rintro e w2 ⟨rfl, hg2⟩
  have HG2 : Hid (Gq w w2) := HG.out.trans hg2
  have hka := blkq HKA.out hg2
  have hkr := blkq HKR.out hg2
  have HKR2 := Lib.hid hkr
  have HKA2 := Lib.hid hka
  have c0 : w2.cell? ⟨b0, 0, none⟩ = some (.int .i64 rt) := hka.cell 0
  have c1 : w2.cell? ⟨b0, 1, none⟩ = some (.int .i64 tk) := hka.cell 1
  have c2 : w2.cell? ⟨b0, 2, none⟩ = some (.slice xA xn xd) := hka.cell 2
  have r0 : w2.cell? ⟨b0 + 1, 0, none⟩ = some (.int .i64 0) := hkr.cell 0
  have r1 : w2.cell? ⟨b0 + 1, 1, none⟩ = some (.int .i64 0) := hkr.cell 1
  have r2 : w2.cell? ⟨b0 + 1, 2, none⟩ = some (.slice none 0 0) := hkr.cell 2
  have g0 := hkr.frozen 0
  have g1 := hkr.frozen 1
  have g2 := hkr.frozen 2
  have hre := runEMR w2
  have HGF : Hid (Gq w (setN w2 (b0 + 1) 0 [.int .i64 0, .int .i64 0, .slice none 0 0])) := setN_below (by rw [HB0.out]; omega) _ _ _ HG2.out
  have HBF : Hid (Blk (setN w2 (b0 + 1) 0 [.int .i64 0, .int .i64 0, .slice none 0 0]) (b0 + 1) 24 [.int .i64 0, .int .i64 0, .slice none 0 0]) := setN_blk _ hkr rfl
  obtain ⟨wf, hwf⟩ : ∃ wf, setN w2 (b0 + 1) 0 [.int .i64 0, .int .i64 0, .slice none 0 0] = wf := ⟨_, rfl⟩
  rw [hwf] at HGF HBF
  have hwf2 : ((w2.setCell ⟨b0 + 1, 0, none⟩ (.int .i64 0)).setCell ⟨b0 + 1, 1, none⟩ (.int .i64 0)).setCell ⟨b0 + 1, 2, none⟩ (.slice none 0 0) = wf := hwf
  have HWF := Lib.hid hwf2
  have q0 : wf.cell? ⟨b0 + 1, 0, none⟩ = some (.int .i64 0) := HBF.out.cell 0
  have q1 : wf.cell? ⟨b0 + 1, 1, none⟩ = some (.int .i64 0) := HBF.out.cell 1
  have q2 : wf.cell? ⟨b0 + 1, 2, none⟩ = some (.slice none 0 0) := HBF.out.cell 2
  clear hg2 hka hkr a0 a1 a2 HCK HWZ HKA hwf hwf2
  by_cases h0 : f = 0
  case neg =>
    have hfb : (f != 0) = true := by simp [h0]
    have HQ : Hid (q = (e0, f)) := HF1.out h0
    clear h0
    go_wp2_with fail
    rw [HWF.out]
    exact bodyPost_ret (v := .tuple #[.agg #[.int .i64 0, .int .i64 0, .slice none 0 0], .int .i64 f]) (by simp [results, Tryz.results8, go_sem, q0, q1, q2]) rfl (ediR_none HQ.out HGF.out)
  have hfb : (f != 0) = false := by simp [h0]
  have HZ := Lib.hid h0
  have HNB := Lib.hid (HIN.out h0).2
  clear h0
  go_wp2_with fail
  refine (HFR.out w2).mono ?_
  rintro e w3 ⟨rfl, rfl⟩
  cases tb with
  | false =>
    have HQ : Hid (q = (e0, 1)) := HF2.out HZ.out rfl
    go_wp2_with fail
    rw [HWF.out]
    exact bodyPost_ret (v := .tuple #[.agg #[.int .i64 0, .int .i64 0, .slice none 0 0], .int .i64 1]) (by simp [results, Tryz.results8, go_sem, q0, q1, q2]) rfl (ediR_none HQ.out HGF.out)
  | true =>
    clear hre q0 q1 q2 HWF HBF HGF r0 r1 r2 g0 g1 g2
    obtain ⟨k, hkn⟩ : ∃ k : Nat, (k : Int) = n := ⟨n.toNat, by have := HNB.out; omega⟩
    have hkx : k < xs.length := by rw [HXN.out]; have := HNB.out; omega
    have HC1 := Lib.hid (HCH.out k hkx)
    have HR1 := Lib.hid (HRG.out HZ.out k hkx)
    have HOK : Hid (CliOk w xs[k] ∧ ∀ y ∈ xs, CliOk w y) := ⟨HCO.out _ (List.getElem_mem hkx), HCO.out⟩
    obtain ⟨b, off, hA, hbb, hcs⟩ := cli_at (HXR.out.below HG2.out) (show 0 < xs.length by omega)
    obtain rfl : xA = some ⟨b, off, none⟩ := hA
    obtain ⟨d0, d1, d2, d3, d4, d5, d6⟩ := hcs k hkx
    obtain ⟨Z, hZ⟩ : ∃ X, xs[k] = X := ⟨_, rfl⟩
    rw [hZ] at d0 d1 d2 d3 d4 d5 d6
    simp only [hZ] at HC1 HR1 HOK
    clear hcs hZ HCH HRG
    obtain ⟨xm, xc, xf, xt, xa, xl, ⟨EA, ed, es⟩⟩ := Z
    simp only at d0 d1 d2 d3 d4 d5 d6 HR1
    simp only [CliM.v, Slc.v] at HC1
    obtain ⟨en, hen⟩ : ∃ m : Nat, es.length = m := ⟨_, rfl⟩
    rw [hen] at d6
    simp only [hen, HXN.out] at HC1
    have i0 : (0 : Int) ≤ n := HNB.out.1
    have i1 : n < (xn : Int) := HNB.out.2
    have it : n.toNat = k := by omega
    have HIB : Hid (inI64 (xa + a)) := by
      have h1 := HR1.out
      have h2 := HTB.out rfl
      show _ ≤ _ ∧ _ ≤ _
      omega
    obtain ⟨s, hs⟩ : ∃ s, xa + a = s := ⟨_, rfl⟩
    have hsw : IntKind.i64.wrap (xa + a) = s := by rw [← hs]; have := HIB.out; unfold inI64 at this; exact IntWalk.i64_in _ (by omega)
    have HC3 : Hid (∀ W, Gq w W → Calls Tryz.prog 14 #[.agg #[.int .i64 rt, .int .i64 tk, .slice (some ⟨b, off, none⟩) xn xd], .int .i64 n, .agg #[.string xm, .int .i64 xc, .int .i64 xf, .int .i64 t, .int .i64 s, .int .i64 xl, .slice EA en ed]] W (fun e w' => Gq W w' ∧ ∃ x : EdtM, e = .returned (.tuple #[x.v, .int .i64 q.2]) ∧ x.x = q.1 ∧ (inI64 x.rate ∧ inI64 x.tracks ∧ x.cs.xs.length ≤ 1000000) ∧ RdT 39 w' x.cs.a (x.cs.xs.flatMap CliM.cs) ∧ ∀ y ∈ x.cs.xs, CliOk w y)) := fun W hW => by
      have := HC1.out W hW HZ.out (by first | rfl | trivial) hkn HIB.out
      rw [hs] at this
      exact this.mono fun e w' ⟨h1, z, h2, h3, h4, h5, h6⟩ => ⟨h1, z, h2, h3, h4, h5, fun y hy => by
        rcases h6 y hy with rfl | h
        · have h7 := HOK.out.1; exact ⟨h7.m, h7.ch, h7.fr, HTT.out, (by rw [← hs]; exact HIB.out), h7.ln, h7.el, h7.er, h7.eo⟩
        · exact HOK.out.2 y h⟩
    clear hs HC1 hen hkn HIB
    obtain ⟨gc, hgc⟩ : ∃ g, w2.heap.size = g := ⟨_, rfl⟩
    obtain ⟨wc1, hwc⟩ : ∃ W, W = w2.alloc (.cells #[.string xm, .int .i64 xc, .int .i64 xf, .int .i64 xt, .int .i64 xa, .int .i64 xl, .slice EA en ed] 39) := ⟨_, rfl⟩
    have hgw : Gq w2 wc1 := by rw [hwc]; exact (Gq.refl _).alloc _
    have HKC : Hid (Blk wc1 gc 39 [.string xm, .int .i64 xc, .int .i64 xf, .int .i64 xt, .int .i64 xa, .int .i64 xl, .slice EA en ed]) := by rw [hwc, ← hgc]; exact Blk.new w2 _ _
    have m4 : wc1.cell? ⟨gc, 4, none⟩ = some (.int .i64 xa) := HKC.out.cell 4
    have fm := HKC.out.frozen 4
    have hk4 := HKC.out.set_ 4 (.int .i64 s)
    obtain ⟨w4, hw4⟩ : ∃ W, W = wc1.setCell ⟨gc, 4, none⟩ (.int .i64 s) := ⟨_, rfl⟩
    rw [← hw4] at hk4
    have HK4 : Hid (Blk w4 gc 39 [.string xm, .int .i64 xc, .int .i64 xf, .int .i64 xt, .int .i64 s, .int .i64 xl, .slice EA en ed]) := hk4
    have HG4 : Hid (Gq w2 w4) := by rw [hw4]; exact hgw.setCell (p := ⟨gc, 4, none⟩) (by show _ ≤ gc; omega) _
    have HWC := Lib.hid hwc
    have HW4 := Lib.hid hw4
    clear hwc hw4 hk4 hgw
    go_upto_region 7 with (fail)
    rw [← HWC.out]
    try simp only [hgc]
    clear d0 d1 d2 d3 d4 d5 d6 i0 i1 it c0 c1 c2
    go_upto_region 8 with (fail)
    rw [← HW4.out]
    clear m4 fm hsw
    have t3 : w4.cell? ⟨gc, 3, none⟩ = some (.int .i64 xt) := HK4.out.cell 3
    have ft := HK4.out.frozen 3
    have hk5 := HK4.out.set_ 3 (.int .i64 t)
    obtain ⟨w5, hw5⟩ : ∃ W, W = w4.setCell ⟨gc, 3, none⟩ (.int .i64 t) := ⟨_, rfl⟩
    rw [← hw5] at hk5
    have HK5 : Hid (Blk w5 gc 39 [.string xm, .int .i64 xc, .int .i64 xf, .int .i64 t, .int .i64 s, .int .i64 xl, .slice EA en ed]) := hk5
    have HG25 : Hid (Gq w2 w5) := by rw [hw5]; exact HG4.out.setCell (p := ⟨gc, 3, none⟩) (by show _ ≤ gc; omega) _
    have HW5 := Lib.hid hw5
    clear hw5 hk5
    go_upto_region 9 with (fail)
    rw [← HW5.out]
    clear t3 ft
    have HG5 : Hid (Gq w w5) := HG2.out.trans HG25.out
    have hka := blkq HKA2.out HG25.out
    have hkr := blkq HKR2.out HG25.out
    have c0 : w5.cell? ⟨b0, 0, none⟩ = some (.int .i64 rt) := hka.cell 0
    have c1 : w5.cell? ⟨b0, 1, none⟩ = some (.int .i64 tk) := hka.cell 1
    have c2 : w5.cell? ⟨b0, 2, none⟩ = some (.slice (some ⟨b, off, none⟩) xn xd) := hka.cell 2
    have l0 : w5.cell? ⟨gc, 0, none⟩ = some (.string xm) := HK5.out.cell 0
    have l1 : w5.cell? ⟨gc, 1, none⟩ = some (.int .i64 xc) := HK5.out.cell 1
    have l2 : w5.cell? ⟨gc, 2, none⟩ = some (.int .i64 xf) := HK5.out.cell 2
    have l3 : w5.cell? ⟨gc, 3, none⟩ = some (.int .i64 t) := HK5.out.cell 3
    have l4 : w5.cell? ⟨gc, 4, none⟩ = some (.int .i64 s) := HK5.out.cell 4
    have l5 : w5.cell? ⟨gc, 5, none⟩ = some (.int .i64 xl) := HK5.out.cell 5
    have l6 : w5.cell? ⟨gc, 6, none⟩ = some (.slice EA en ed) := HK5.out.cell 6
    have HC5 := Lib.hid (HC3.out w5 HG5.out)
    have HKR5 := Lib.hid hkr
    clear hka hkr HKA2 HKR2 HC3 hgc
    go_wp2_with fail
    refine HC5.out.mono ?_
    rintro e w6 ⟨hg6, ⟨zr, zt, ⟨zA, zd, zs⟩⟩, rfl, hz1, hz2, hz3, hz4⟩
    simp only at hz2 hz3 hz4
    obtain ⟨zn, hzn⟩ : ∃ n : Nat, zs.length = n := ⟨_, rfl⟩
    have hzv : (⟨zr, zt, ⟨zA, zd, zs⟩⟩ : EdtM).v = .agg #[.int .i64 zr, .int .i64 zt, .slice zA zn zd] := by rw [← hzn]; rfl
    rw [hzv]
    have HZV := Lib.hid hzv
    have hk6 := blkq HKR5.out hg6
    have e0 : w6.cell? ⟨b0 + 1, 0, none⟩ = some (.int .i64 0) := hk6.cell 0
    have e1 : w6.cell? ⟨b0 + 1, 1, none⟩ = some (.int .i64 0) := hk6.cell 1
    have e2 : w6.cell? ⟨b0 + 1, 2, none⟩ = some (.slice none 0 0) := hk6.cell 2
    have f0 := hk6.frozen 0
    have f1 := hk6.frozen 1
    have f2 := hk6.frozen 2
    have HGF : Hid (Gq w (setN w6 (b0 + 1) 0 [.int .i64 zr, .int .i64 zt, .slice zA zn zd])) := setN_below (by rw [HB0.out]; omega) _ _ _ (HG5.out.trans hg6)
    have HBF : Hid (Blk (setN w6 (b0 + 1) 0 [.int .i64 zr, .int .i64 zt, .slice zA zn zd]) (b0 + 1) 24 [.int .i64 zr, .int .i64 zt, .slice zA zn zd]) := setN_blk _ hk6 rfl
    have HRF : Hid (RdT 39 (setN w6 (b0 + 1) 0 [.int .i64 zr, .int .i64 zt, .slice zA zn zd]) zA (zs.flatMap CliM.cs)) := hz3.kp (setN_kp _ hk6 (by decide) 0)
    obtain ⟨wg, hwg⟩ : ∃ W, setN w6 (b0 + 1) 0 [.int .i64 zr, .int .i64 zt, .slice zA zn zd] = W := ⟨_, rfl⟩
    rw [hwg] at HGF HBF HRF
    have hwg2 : ((w6.setCell ⟨b0 + 1, 0, none⟩ (.int .i64 zr)).setCell ⟨b0 + 1, 1, none⟩ (.int .i64 zt)).setCell ⟨b0 + 1, 2, none⟩ (.slice zA zn zd) = wg := hwg
    have HWG := Lib.hid hwg2
    have HFIN : Hid (EdiR q w (.returned (.tuple #[.agg #[.int .i64 zr, .int .i64 zt, .slice zA zn zd], .int .i64 q.2])) wg) := by
      refine ⟨HGF.out, ⟨zr, zt, ⟨zA, zd, zs⟩⟩, by rw [HZV.out], hz1, hz2.1, hz2.2.1, ?_, HRF.out.rd, fun y hy => (hz4 y hy).below HGF.out⟩
      have := hz2.2.2
      show zs.length ≤ _
      omega
    have q0 : wg.cell? ⟨b0 + 1, 0, none⟩ = some (.int .i64 zr) := HBF.out.cell 0
    have q1 : wg.cell? ⟨b0 + 1, 1, none⟩ = some (.int .i64 zt) := HBF.out.cell 1
    have q2 : wg.cell? ⟨b0 + 1, 2, none⟩ = some (.slice zA zn zd) := HBF.out.cell 2
    clear hk6 hwg hwg2 hz1 hz2 hz3 hz4 hzv hzn hg6
    go_wp2_with fail
    rw [HWG.out]
    exact bodyPost_ret (v := .tuple #[.agg #[.int .i64 zr, .int .i64 zt, .slice zA zn zd], .int .i64 q.2]) (by simp [results, Tryz.results8, go_sem, q0, q1, q2]) rfl HFIN.out
end Go.Proofs.YteaghgbpcpileaaGreatDoor
