/- Several texts laid into one: The contracts of the reference's placed and Sorted; The contract of the reference's Sorted; Generated (gen/made.py): the contract of the reference's made; Generated (gen/two.py): the contract of deadwax/deadwaxref3.pair; Generated (gen/shfr.py): the contract of the reference's shifted; -/
import Derived.Test.YtmknpeoflafaoaaGreatDoorOrdR
import Derived.Test.YtmknpeoflafaoaaGreatDoorSrtP
import Derived.Test.YtmknpeoflafaoaaGreatDoorApdZ
import Derived.Test.YtmknpeoflafaoaaGreatDoorNumB
import Derived.Test.YtmknpeoflafaoaaGreatDoorEdtZ
import Derived.Deep.RegionHeld3
import Derived.Deep.DrawnRows
import Derived.Deep.CutBlock
import Derived.Deep.DeepCutAuto
import Derived.Test.YtmknpeoflafaoaaGreatDoorCrrZ
import Derived.Test.YtmknpeoflafaoaaGreatDoorEdiR
import Derived.Test.YtmknpeoflafaoaaGreatDoorJmP
/- The contracts of the reference's placed and Sorted. -/
namespace Go.Proofs.YtmknpeoflafaoaaGreatDoor
open Go.RowKit Go.Dw
attribute [local go_sem ↓] Go.wp_at_zero Go.wp_at_succ

theorem infoClP : (Tryz.prog.info? 37).map (fun i => (i.zero, i.size, i.bytes)) = some (some (.agg #[.string ⟨#[]⟩, .int .i64 0, .int .i64 0, .int .i64 0, .int .i64 0, .int .i64 0, .slice none 0 0]), 7, 80) := by kernel_rfl
theorem cli_oneP (l : List CliM) : ∀ u ∈ l.flatMap CliM.cs, u.oneCell' = true := fun u hu => by
  obtain ⟨p, _, hp⟩ := List.mem_flatMap.1 hu
  simp [CliM.cs] at hp
  rcases hp with rfl | rfl | rfl | rfl | rfl | rfl | rfl <;> rfl
theorem gq_none {w w' : World} (h : w.grownBy w' (Value.slice none 0 0).ownBlock) : Gq w w' := ⟨h.os, h.tape, h.output, h.size, fun j hj => h.block j hj (by intro h; cases h)⟩
set_option maxRecDepth 100000 in
set_option maxHeartbeats 8000000 in
theorem placed_any (A : Option Addr) (c : Nat) (xs : List CliM) (y : CliM) (w : World) (hc : xs.length ≤ c) (h : Rd w A (xs.flatMap CliM.cs)) (hl : xs.length ≤ 1000000000) :
    Calls Tryz.prog 41 #[.slice A xs.length c, y.v] w fun e w' => ∃ A' c', e = .returned (.slice A' (xs.length + 1) c') ∧ w'.ownsRow w.heap.size 37 7 (.slice A' (xs.length + 1) c') (xs.length + 1) ((plc CliM.x xs y).flatMap CliM.cs) ∧ Gq w w' := by
  obtain ⟨Y, hY⟩ : ∃ Y, y = Y := ⟨_, rfl⟩
  have HOR : Hid (∀ (x : CliM) W, Calls Tryz.prog 40 #[x.v, Y.v] W fun e w' => e = .returned (.int .i64 (cmpK x.x Y.x)) ∧ Gq W w') := fun x W => order_any x Y W
  rw [hY]
  obtain ⟨ym, yc, yf, yt, ya, yl, ⟨YA, yd, yes⟩⟩ := y
  obtain ⟨yn, hyn⟩ : ∃ n, yes.length = n := ⟨_, rfl⟩
  have HYV : Hid (Y.v = .agg #[.string ym, .int .i64 yc, .int .i64 yf, .int .i64 yt, .int .i64 ya, .int .i64 yl, .slice YA yn yd]) := by show _ = _; rw [← hY, ← hyn]; rfl
  have HYC : Hid (Y.cs = [.string ym, .int .i64 yc, .int .i64 yf, .int .i64 yt, .int .i64 ya, .int .i64 yl, .slice YA yn yd]) := by show _ = _; rw [← hY, ← hyn]; rfl
  rw [HYV.out] at HOR ⊢
  clear hY hyn
  obtain ⟨w1, hw1⟩ : ∃ w1, w1 = w.alloc (.cells #[.string ym, .int .i64 yc, .int .i64 yf, .int .i64 yt, .int .i64 ya, .int .i64 yl, .slice YA yn yd] 37) := ⟨_, rfl⟩
  have HG1 : Hid (Gq w w1) := by rw [hw1]; exact (Gq.refl _).alloc _
  have HKY : Hid (Blk w1 w.heap.size 37 [.string ym, .int .i64 yc, .int .i64 yf, .int .i64 yt, .int .i64 ya, .int .i64 yl, .slice YA yn yd]) := by rw [hw1]; exact Blk.new w _ _
  have HCY : Hid (∀ W, Gq w1 W → W.cell? ⟨w.heap.size, 0, none⟩ = some (.string ym) ∧ W.cell? ⟨w.heap.size, 1, none⟩ = some (.int .i64 yc) ∧ W.cell? ⟨w.heap.size, 2, none⟩ = some (.int .i64 yf) ∧ W.cell? ⟨w.heap.size, 3, none⟩ = some (.int .i64 yt) ∧ W.cell? ⟨w.heap.size, 4, none⟩ = some (.int .i64 ya) ∧ W.cell? ⟨w.heap.size, 5, none⟩ = some (.int .i64 yl) ∧ W.cell? ⟨w.heap.size, 6, none⟩ = some (.slice YA yn yd)) := fun W hW => by
    have k1 := blkq HKY.out hW
    exact ⟨k1.cell 0, k1.cell 1, k1.cell 2, k1.cell 3, k1.cell 4, k1.cell 5, k1.cell 6⟩
  have HRD : Hid (Rd w1 A (xs.flatMap CliM.cs)) := h.below HG1.out
  have HRD0 : Hid (Rd w A (xs.flatMap CliM.cs)) := h
  have HCC : Hid (xs.length ≤ c) := hc
  obtain ⟨ii, hii, hzi0, hzi1, hzi2⟩ := info_parts infoClP
  have HII := Lib.hid (And.intro hii (And.intro hzi0 (And.intro hzi1 hzi2)))
  have HW1 := Lib.hid hw1
  clear hw1 h hc hii hzi0 hzi1 hzi2
  go_enter Tryz.func41, Tryz.ntmps41
  go_upto_region 1 with (fail)
  rw [← HW1.out]
  go_wp2_with fail
  go_loopw [5] (fun kv wq => ∃ (k : Nat), k ≤ xs.length ∧ kv = .int .i64 (k : Int) ∧ Hid (∀ j (hj : j < xs.length), k ≤ j → 0 < cmpK xs[j].x Y.x) ∧ Hid (Gq w1 wq)) (fun kv _ => (intOf kv).toNat)
  case atStart => exact ⟨xs.length, Nat.le_refl _, rfl, fun j hj hk => absurd hk (by omega), Gq.refl _⟩
  case round =>
    obtain ⟨k, hk, rfl, HHI, HGR⟩ := hrel
    obtain ⟨bb, hbb⟩ : ∃ bb : Bool, bb = if h : 0 < k then decide (0 < cmpK (xs[k - 1]'(by omega)).x Y.x) else false := ⟨_, rfl⟩
    have HBB := Lib.hid hbb
    clear hbb
    go_upto_region 2 with (fail)
    go_cut [20] (fun v wq => v = .bool bb ∧ Hid (Gq w1 wq))
    case first =>
      as_aux_lemma =>
      by_cases hk0 : 0 < k
      case neg =>
        have HB0 : Hid (bb = false) := by show _ = _; rw [HBB.out, dif_neg hk0]
        have hd0 : decide (0 < k) = false := by simpa using hk0
        go_wp2_with fail
        go_quiet (fail)
        all_goals
          go_wp2_with fail
          go_meet
          case rel => exact ⟨by rw [HB0.out], by first | exact HGR | exact Gq.drew HGR.out | exact below_drewN HGR.out _⟩
      have HB0 : Hid (bb = decide (0 < cmpK (xs[k - 1]'(by omega)).x Y.x)) := by show _ = _; rw [HBB.out, dif_pos hk0]
      have hd0 : decide (0 < k) = true := by simpa using hk0
      obtain ⟨q, hq⟩ : ∃ q, k - 1 = q := ⟨_, rfl⟩
      obtain ⟨b, off, hA2, hbl, hcs⟩ := cli_at (HRD.out.below HGR.out) (show 0 < xs.length by omega)
      subst hA2
      obtain ⟨p0, p1, p2, p3, p4, p5, p6⟩ := hcs q (by omega)
      have hw1 : IntKind.i64.wrap ((k : Int) - 1) = (q : Int) := by rw [IntKind.wrap_i64]; omega
      simp only [hq] at HB0
      obtain ⟨Z, hZ⟩ : ∃ X, xs[q] = X := ⟨_, rfl⟩
      rw [hZ] at p0 p1 p2 p3 p4 p5 p6 HB0
      have HOC := Lib.hid (fun W => HOR.out Z W)
      have HBR : Hid (∀ W, Gq wr W → b < wr.heap.size) := fun _ _ => hbl
      clear hZ hcs HBB HHI
      obtain ⟨cv, hcv⟩ : ∃ cv, cmpK Z.x Y.x = cv := ⟨_, rfl⟩
      rw [hcv] at HB0 HOC
      clear hcv
      obtain ⟨xm, xc, xf, xt, xa, xl, ⟨EA, ed, es⟩⟩ := Z
      simp only [CliM.v, Slc.v] at p0 p1 p2 p3 p4 p5 p6 HOC
      generalize (es.length : Nat) = en at *
      obtain ⟨y0, y1, y2, y3, y4, y5, y6⟩ := HCY.out wr HGR.out
      have HCB : Hid (∀ W, Gq wr W → W.cell? ⟨b, off + q * 7, none⟩ = some (.string xm) ∧ W.cell? ⟨b, off + q * 7 + 1, none⟩ = some (.int .i64 xc) ∧ W.cell? ⟨b, off + q * 7 + 2, none⟩ = some (.int .i64 xf) ∧ W.cell? ⟨b, off + q * 7 + 3, none⟩ = some (.int .i64 xt) ∧ W.cell? ⟨b, off + q * 7 + 4, none⟩ = some (.int .i64 xa) ∧ W.cell? ⟨b, off + q * 7 + 5, none⟩ = some (.int .i64 xl) ∧ W.cell? ⟨b, off + q * 7 + 6, none⟩ = some (.slice EA en ed) ∧ W.cell? ⟨w.heap.size, 0, none⟩ = some (.string ym) ∧ W.cell? ⟨w.heap.size, 1, none⟩ = some (.int .i64 yc) ∧ W.cell? ⟨w.heap.size, 2, none⟩ = some (.int .i64 yf) ∧ W.cell? ⟨w.heap.size, 3, none⟩ = some (.int .i64 yt) ∧ W.cell? ⟨w.heap.size, 4, none⟩ = some (.int .i64 ya) ∧ W.cell? ⟨w.heap.size, 5, none⟩ = some (.int .i64 yl) ∧ W.cell? ⟨w.heap.size, 6, none⟩ = some (.slice YA yn yd)) := fun W hW => by
        have g : ∀ o v, wr.cell? ⟨b, o, none⟩ = some v → W.cell? ⟨b, o, none⟩ = some v := fun o v hv => by rw [Below.cell hW (by exact hbl)]; exact hv
        obtain ⟨z0, z1, z2, z3, z4, z5, z6⟩ := HCY.out W (HGR.out.trans hW)
        exact ⟨g _ _ p0, g _ _ p1, g _ _ p2, g _ _ p3, g _ _ p4, g _ _ p5, g _ _ p6, z0, z1, z2, z3, z4, z5, z6⟩
      have i0 : (0 : Int) ≤ (q : Int) := by omega
      have i1 : (q : Int) < (xs.length : Int) := by omega
      have hBD : Gq wr wr.drew := (Gq.refl _).drew
      clear hbl hq
      go_wp2_with fail
      go_region_held3 (fun W => W.cell? ⟨b, off + q * 7, none⟩ = some (.string xm) ∧ W.cell? ⟨b, off + q * 7 + 1, none⟩ = some (.int .i64 xc) ∧ W.cell? ⟨b, off + q * 7 + 2, none⟩ = some (.int .i64 xf) ∧ W.cell? ⟨b, off + q * 7 + 3, none⟩ = some (.int .i64 xt) ∧ W.cell? ⟨b, off + q * 7 + 4, none⟩ = some (.int .i64 xa) ∧ W.cell? ⟨b, off + q * 7 + 5, none⟩ = some (.int .i64 xl) ∧ W.cell? ⟨b, off + q * 7 + 6, none⟩ = some (.slice EA en ed) ∧ W.cell? ⟨w.heap.size, 0, none⟩ = some (.string ym) ∧ W.cell? ⟨w.heap.size, 1, none⟩ = some (.int .i64 yc) ∧ W.cell? ⟨w.heap.size, 2, none⟩ = some (.int .i64 yf) ∧ W.cell? ⟨w.heap.size, 3, none⟩ = some (.int .i64 yt) ∧ W.cell? ⟨w.heap.size, 4, none⟩ = some (.int .i64 ya) ∧ W.cell? ⟨w.heap.size, 5, none⟩ = some (.int .i64 yl) ∧ W.cell? ⟨w.heap.size, 6, none⟩ = some (.slice YA yn yd))
        (first | exact HCB.out _ hBD | exact HCB.out _ hqB)
        (first | (go_at_call 40; refine (HOC.out _).mono ?_; rintro e wB ⟨rfl, hgB⟩; have hqB : Gq wr wB := by first | exact hBD.trans hgB | exact Gq.trans (below_drewN (Gq.refl _) _) hgB))
      all_goals
        have HGB : Hid (Gq w1 wB) := HGR.out.trans hqB
        clear hqB
        go_wp2_with fail
        go_meet
        case rel => exact ⟨by rw [HB0.out], HGB⟩
    case rest =>
    obtain ⟨rfl, HGC⟩ := hcut
    cases bb with
    | true =>
      have hk0 : 0 < k := by
        by_cases h : 0 < k
        · exact h
        · have h1 := HBB.out; rw [dif_neg h] at h1; cases h1
      obtain ⟨q, hq⟩ : ∃ q, k - 1 = q := ⟨_, rfl⟩
      have HHJ : Hid (∀ j (hj : j < xs.length), q ≤ j → 0 < cmpK xs[j].x Y.x) := fun j hj hqj => by
        by_cases h : k ≤ j
        · exact HHI.out j hj h
        · have h1 := HBB.out
          rw [dif_pos hk0] at h1
          have : j = k - 1 := by omega
          subst this
          exact of_decide_eq_true h1.symm
      have hw1 : IntKind.i64.wrap ((k : Int) - 1) = (q : Int) := by rw [IntKind.wrap_i64]; omega
      have hq2 : q < k := by omega
      clear hq HHI HBB HGR hk0
      go_wp2_with fail
      go_roundw
      case rel => exact ⟨q, by omega, by go_num, HHJ, HGC⟩
      case measure => simp [intOf]; omega
    | false =>
      have HPK : Hid (plcK CliM.x Y.x xs = k) := plcK_of hk HHI.out (fun j hj e => by
        subst e
        have h1 := HBB.out
        rw [dif_pos (by omega)] at h1
        exact of_decide_eq_false h1.symm)
      clear HHI HBB HGR
      have i0 : (0 : Int) ≤ (k : Int) := by omega
      have i1 : (k : Int) ≤ (c : Int) := by have := HCC.out; omega
      have i2 : (k : Int) ≤ (xs.length : Int) := by omega
      obtain ⟨T, hT⟩ : ∃ T, xs.take k = T := ⟨_, rfl⟩
      obtain ⟨D, hD⟩ : ∃ D, xs.drop k = D := ⟨_, rfl⟩
      have HTD : Hid (xs = T ++ D ∧ T.length = k ∧ D.length = xs.length - k) := by rw [← hT, ← hD]; exact ⟨(List.take_append_drop k xs).symm, by rw [List.length_take]; omega, by rw [List.length_drop]⟩
      have HPL : Hid (plc CliM.x xs Y = T ++ Y :: D) := by show _ = _; unfold plc; rw [HPK.out, hT, hD]
      have HRX : Hid (Rd wc A (T.flatMap CliM.cs ++ D.flatMap CliM.cs)) := by
        have := HRD.out.below HGC.out
        rw [HTD.out.1, List.flatMap_append] at this; exact this
      have HRT : Hid (Rd wc A (T.flatMap CliM.cs)) := Rd.left HRX.out
      have HTL : Hid ((T.flatMap CliM.cs).length = k * 7) := by show _ = _; rw [flat_len CliM.cs 7 (fun _ => rfl), HTD.out.2.1]
      have HSZ : Hid (w.heap.size ≤ wc.heap.size) := Below.size (HG1.out.trans HGC.out)
      clear hT hD HPK
      go_upto_region 6 with (at_builtin; refine wpList_append_rd (by rfl) (.tmp 23) (.tmp 26) 22 (by rfl) w.heap.size 37 ii _ 7 80 Tryz.underlying22 HII.out.1 HII.out.2.1 HII.out.2.2.1 HII.out.2.2.2 rfl (by decide) (.slice none 0 0) 0 [] (by rfl) (World.ownsRow_nil _ _ _ _) A k c (T.flatMap CliM.cs) (by rfl) HTL.out HRT.out (cli_oneP T) (by unfold maxLen; omega) (by omega) HSZ.out ?_; intro v5 w5 hown5 hg5; obtain ⟨y0, y1, y2, y3, y4, y5, y6⟩ := HCY.out w5 (HGC.out.trans (gq_none hg5)))
      have HO5 : Hid (w5.ownsRow w.heap.size 37 7 v5 k (T.flatMap CliM.cs)) := by
        have h1 := hown5
        rw [Nat.zero_add, List.nil_append] at h1; exact h1
      have HG5 : Hid (Gq wc w5) := ⟨hg5.os, hg5.tape, hg5.output, hg5.size, fun j hj => hg5.block j hj (by intro h; cases h)⟩
      obtain ⟨A5, c5, rfl⟩ := slice_of_own HO5.out
      have HGW5 : Hid (Gq w1 w5) := HGC.out.trans HG5.out
      have HSZ5 : Hid (w.heap.size ≤ w5.heap.size) := Nat.le_trans HSZ.out (Below.size HG5.out)
      clear hown5 hg5 HSZ
      go_upto_region 7 with (at_builtin; (refine wpList_append_lies _ rfl _ _ 22 rfl w.heap.size 37 ii _ 7 80 Tryz.underlying22 HII.out.1 HII.out.2.1 HII.out.2.2.1 HII.out.2.2.2 rfl (by decide) _ _ _ rfl (HO5.out.alloc _) ⟨w5.heap.size, 0, none⟩ 1 1 [.string ym, .int .i64 yc, .int .i64 yf, .int .i64 yt, .int .i64 ya, .int .i64 yl, .slice YA yn yd] (by rfl) (by rfl) (World.news_of_block (cs := #[.string ym, .int .i64 yc, .int .i64 yf, .int .i64 yt, .int .i64 ya, .int .i64 yl, .slice YA yn yd]) (t := 37) (fr := (0, 0)) (by exact heap_alloc_new w5 _)) (by simp [Value.oneCell']) (by decide) (by unfold maxLen; omega) (by omega) (by have := HSZ5.out; simp; omega) _ rfl ?_); intro g6 cap6 w6 hown6 hgrow6 hat6 hg6)
      have HO6 : Hid (w6.ownsRow w.heap.size 37 7 (.slice (some ⟨g6, 0, none⟩) (k + 1) cap6) (k + 1) (T.flatMap CliM.cs ++ Y.cs)) := by rw [HYC.out]; exact hown6
      clear hown6 y0 y1 y2 y3 y4 y5 y6
      have hgA : (w5.alloc (.cells #[.string ym, .int .i64 yc, .int .i64 yf, .int .i64 yt, .int .i64 ya, .int .i64 yl, .slice YA yn yd] 37)).grownBy w6 (Value.slice A5 k c5).ownBlock := hgrow6
      have hbl : Below w.heap.size w5 w6 := ((Below.refl _ w5).alloc HSZ5.out _).grown hgA (by have := HSZ5.out; simp; omega) (fun j hj => (HO5.out.lt j hj).1)
      have HG6 : Hid (Gq w w6) := Below.trans (HG1.out.trans HGW5.out) hbl
      have HRD6 : Hid (Rd w6 (if c = k then A else Option.map (fun x => x.add (k * 7)) A) (D.flatMap CliM.cs)) := by
        refine Rd.tail_ (xs := T.flatMap CliM.cs) ?_ HTL.out (fun e => ?_)
        · have h1 := HRD0.out
          rw [HTD.out.1, List.flatMap_append] at h1
          exact h1.below HG6.out
        · have h1 := HTD.out.2.2
          have h2 := HCC.out
          have : D = [] := List.eq_nil_of_length_eq_zero (by omega)
          rw [this]; rfl
      have HDL : Hid ((D.flatMap CliM.cs).length = (xs.length - k) * 7) := by show _ = _; rw [flat_len CliM.cs 7 (fun _ => rfl), HTD.out.2.2]
      have HSZ6 : Hid (w.heap.size ≤ w6.heap.size) := Below.size HG6.out
      have HK1 : Hid (k + 1 + (xs.length - k) = xs.length + 1) := by show _ = _; omega
      clear hgA hbl hgrow6 hat6 hg6 HG5 HGW5
      go_wp2_with (at_builtin; refine wpList_append_rd (by rfl) (.tmp 32) (.tmp 35) 22 (by rfl) w.heap.size 37 ii _ 7 80 Tryz.underlying22 HII.out.1 HII.out.2.1 HII.out.2.2.1 HII.out.2.2.2 rfl (by decide) (.slice (some ⟨g6, 0, none⟩) (k + 1) cap6) (k + 1) (T.flatMap CliM.cs ++ Y.cs) (by rfl) HO6.out (if c = k then A else Option.map (fun x => x.add (k * 7)) A) (xs.length - k) (c - k) (D.flatMap CliM.cs) (by rfl) HDL.out HRD6.out (cli_oneP D) (by unfold maxLen; omega) (by omega) HSZ6.out ?_; intro v7 w7 hown7 hg7)
      all_goals
        have HO7 : Hid (w7.ownsRow w.heap.size 37 7 v7 (xs.length + 1) ((plc CliM.x xs Y).flatMap CliM.cs)) := by
          have h1 := hown7
          rw [HK1.out] at h1
          rw [HPL.out, List.flatMap_append, List.flatMap_cons, ← List.append_assoc]; exact h1
        obtain ⟨A7, c7, rfl⟩ := slice_of_own HO7.out
        have HG7 : Hid (Gq w w7) := HG6.out.grown hg7 HSZ6.out (fun j hj => (HO6.out.lt j hj).1)
        clear hown7 hg7
        go_wp2_with fail
        go_ret
        exact ⟨A7, c7, rfl, HO7.out, HG7.out⟩
end Go.Proofs.YtmknpeoflafaoaaGreatDoor
/- The contract of the reference's Sorted. -/
namespace Go.Proofs.YtmknpeoflafaoaaGreatDoor
open Go.RowKit Go.Dw
attribute [local go_sem ↓] Go.wp_at_zero Go.wp_at_succ

theorem srtF_len (l : List CliM) : (srtF CliM.x l).length = l.length := (srt_perm CliM.x l).length_eq
set_option maxRecDepth 100000 in
set_option maxHeartbeats 8000000 in
theorem sortedR_any (A : Option Addr) (c : Nat) (xs : List CliM) (w : World) (h : Rd w A (xs.flatMap CliM.cs)) (hl : xs.length ≤ 1000000) :
    Calls Tryz.prog 28 #[.slice A xs.length c] w fun e w' => ∃ A' c', e = .returned (.slice A' xs.length c') ∧ w'.ownsRow w.heap.size 37 7 (.slice A' xs.length c') xs.length ((srtF CliM.x xs).flatMap CliM.cs) ∧ Gq w w' := by
  have HRD := Lib.hid h
  clear h
  go_enter Tryz.func28, Tryz.ntmps28
  go_wp2_with fail
  go_loopw [3, 4] (fun ov kv wq => ∃ (k : Nat) (AO : Option Addr) (cO : Nat), k ≤ xs.length ∧ kv = .int .i64 (k : Int) ∧ ov = .slice AO k cO ∧ Hid (wq.ownsRow w.heap.size 37 7 (.slice AO k cO) k ((srtF CliM.x (xs.take k)).flatMap CliM.cs)) ∧ Hid (Gq w wq)) (fun _ kv _ => xs.length - (intOf kv).toNat)
  case atStart => exact ⟨0, none, 0, Nat.zero_le _, rfl, rfl, by show World.ownsRow _ _ _ _ _ _ _; rw [List.take_zero]; exact World.ownsRow_nil _ _ _ _, Gq.refl _⟩
  case round =>
    obtain ⟨k, AO, cO, hk, rfl, rfl, HOW, HG⟩ := hrel
    by_cases hlt : k < xs.length
    case neg =>
      have hd0 : decide (k < xs.length) = false := by simpa using hlt
      have hke : k = xs.length := by omega
      subst hke
      have HO2 : Hid (wr.ownsRow w.heap.size 37 7 (.slice AO xs.length cO) xs.length ((srtF CliM.x xs).flatMap CliM.cs)) := by
        have h1 := HOW.out
        rw [List.take_length] at h1; exact h1
      clear HOW
      go_wp2_with fail
      go_ret
      exact ⟨AO, cO, rfl, HO2.out, HG.out⟩
    have hd0 : decide (k < xs.length) = true := by simpa using hlt
    have i0 : (0 : Int) ≤ (k : Int) := by omega
    have i1 : (k : Int) < (xs.length : Int) := by omega
    have hlen : (srtF CliM.x (xs.take k)).length = k := by rw [srtF_len, List.length_take]; omega
    have HNX : Hid (srtF CliM.x (xs.take (k + 1)) = plc CliM.x (srtF CliM.x (xs.take k)) xs[k]) := by
      show _ = _; rw [List.take_succ_eq_append_getElem hlt, srt_snoc]
    obtain ⟨b, off, rfl, hbb, hcs⟩ := cli_at (HRD.out.below HG.out) (show 0 < xs.length by omega)
    obtain ⟨p0, p1, p2, p3, p4, p5, p6⟩ := hcs k hlt
    have HPL : Hid (Calls Tryz.prog 41 #[.slice AO k cO, xs[k].v] wr fun e w' => ∃ A' c', e = .returned (.slice A' (k + 1) c') ∧ w'.ownsRow wr.heap.size 37 7 (.slice A' (k + 1) c') (k + 1) ((srtF CliM.x (xs.take (k + 1))).flatMap CliM.cs) ∧ Gq wr w') := by
      have hcap := own_cap HOW.out
      have := placed_any AO cO (srtF CliM.x (xs.take k)) xs[k] wr (by rw [hlen]; exact hcap.1) (Rd.of_own HOW.out) (by omega)
      rw [hlen, ← HNX.out] at this
      exact this
    have HSZ : Hid (w.heap.size ≤ wr.heap.size) := Below.size HG.out
    clear hcs hlen HNX
    obtain ⟨Z, hZ⟩ : ∃ X, xs[k] = X := ⟨_, rfl⟩
    rw [hZ] at p0 p1 p2 p3 p4 p5 p6 HPL
    clear hZ
    obtain ⟨xm, xc, xf, xt, xa, xl, ⟨EA, ed, es⟩⟩ := Z
    simp only [CliM.v, Slc.v] at p0 p1 p2 p3 p4 p5 p6 HPL
    generalize (es.length : Nat) = en at *
    go_wp2_with fail
    refine HPL.out.mono ?_
    rintro e w2 ⟨A', c', rfl, hown, hg⟩
    have HO2 : Hid (w2.ownsRow w.heap.size 37 7 (.slice A' (k + 1) c') (k + 1) ((srtF CliM.x (xs.take (k + 1))).flatMap CliM.cs)) := own_base hown HSZ.out
    have HG2 : Hid (Gq w w2) := HG.out.trans hg
    clear hown hg p0 p1 p2 p3 p4 p5 p6 HPL
    go_wp2_with fail
    go_roundw
    case rel => exact ⟨k + 1, A', c', hlt, by go_num, rfl, HO2, HG2⟩
    case measure => simp [intOf]; omega
end Go.Proofs.YtmknpeoflafaoaaGreatDoor
/- Generated (gen/made.py): the contract of the reference's made. -/
namespace Go.Proofs.YtmknpeoflafaoaaGreatDoor
open Go.RowKit Go.Dw
attribute [local go_sem ↓] Go.wp_at_zero Go.wp_at_succ
attribute [local go_sem] Go.Dwo.Oper.tame

theorem builtEd (rt tk : Int) (A : Option Addr) (n c : Nat) : Tryz.prog.built 24 [(0, .int .i64 rt), (1, .int .i64 tk), (2, .slice A n c)] = some #[.int .i64 rt, .int .i64 tk, .slice A n c] := by kernel_rfl
theorem builtEd0 : Tryz.prog.built 24 [] = some #[.int .i64 0, .int .i64 0, .slice none 0 0] := by kernel_rfl
theorem runEd0 (w : World) : (Instr.build 24 #[]).run Tryz.prog w = .ok (.agg #[.int .i64 0, .int .i64 0, .slice none 0 0]) w := run_build w _ _ _ builtEd0
def madF (w1 : World) (gp : Nat) (rt tk : Int) (P0 : Option Addr) (pn pc : Nat) (B : Option Addr) (m cB : Nat) (L : List Value) : List Go.Dwo.Fact := [
  ⟨[], [], fun _ W => Gq w1 W⟩,
  ⟨[], [], fun _ W => Blk W gp 24 [.int .i64 rt, .int .i64 tk, .slice P0 pn pc]⟩,
  ⟨[0], [], fun vs _ => vs 0 = .pointer (some ⟨gp, 0, none⟩)⟩,
  ⟨[1], [], fun vs _ => vs 1 = .int .i64 rt⟩,
  ⟨[2], [], fun vs _ => vs 2 = .pointer (some ⟨gp, 1, none⟩)⟩,
  ⟨[3], [], fun vs _ => vs 3 = .int .i64 tk⟩,
  ⟨[4], [], fun vs _ => vs 4 = .slice B m cB⟩,
  ⟨[5], [], fun vs W => ∃ A c, vs 5 = .slice A m c ∧ RdT 37 W A L⟩,
  ⟨[5, 6], [], fun vs _ => vs 6 = .agg #[.int .i64 rt, .int .i64 tk, vs 5]⟩,
  ⟨[7], [8], fun vs W => ∃ g, vs 7 = .pointer (some ⟨g, 0, none⟩) ∧ w1.heap.size ≤ g ∧ Blk W g 24 [.int .i64 0, .int .i64 0, .slice none 0 0]⟩,
  ⟨[5, 7, 8], [], fun vs W => ∃ g A c, vs 7 = .pointer (some ⟨g, 0, none⟩) ∧ vs 5 = .slice A m c ∧ w1.heap.size ≤ g ∧ Blk W g 24 [.int .i64 rt, .int .i64 tk, .slice A m c] ∧ RdT 37 W A L⟩]
theorem madK (w1 : World) (gp : Nat) (rt tk : Int) (P0 : Option Addr) (pn pc : Nat) (B : Option Addr) (m cB : Nat) (L : List Value) : ∀ f ∈ madF w1 gp rt tk P0 pn pc B m cB L, ∀ vs w w', Gq w w' → f.says vs w → f.says vs w' :=
  Go.Dwo.fa_cons (fun _ _ _ hg h => h.trans hg) <|
  Go.Dwo.fa_cons (fun _ _ _ hg h => blkq h hg) <|
  Go.Dwo.fa_cons (fun _ _ _ _ h => h) <|
  Go.Dwo.fa_cons (fun _ _ _ _ h => h) <|
  Go.Dwo.fa_cons (fun _ _ _ _ h => h) <|
  Go.Dwo.fa_cons (fun _ _ _ _ h => h) <|
  Go.Dwo.fa_cons (fun _ _ _ _ h => h) <|
  Go.Dwo.fa_cons (fun _ _ _ hg h => (by obtain ⟨A, c, h1, h2⟩ := h; exact ⟨A, c, h1, h2.below hg⟩)) <|
  Go.Dwo.fa_cons (fun _ _ _ _ h => h) <|
  Go.Dwo.fa_cons (fun _ _ _ hg h => (by obtain ⟨g, h1, h2, h3⟩ := h; exact ⟨g, h1, h2, blkq h3 hg⟩)) <|
  Go.Dwo.fa_cons (fun _ _ _ hg h => (by obtain ⟨g, A, c, h1, h2, h3, h4, h5⟩ := h; exact ⟨g, A, c, h1, h2, h3, blkq h4 hg, h5.below hg⟩)) <|
  Go.Dwo.fa_nil _
set_option maxRecDepth 100000 in
set_option maxHeartbeats 8000000 in
theorem madeR_any (rt tk : Int) (P0 : Option Addr) (pn pc : Nat) (B : Option Addr) (cB : Nat) (xs : List CliM) (w : World) (hrt : inI64 rt) (htk : inI64 tk) (h : Rd w B (xs.flatMap CliM.cs)) (hok : ∀ c ∈ xs, CliOk w c) (hl : xs.length ≤ 1000000) (hp : HasPow w) :
    Calls Tryz.prog 18 #[.agg #[.int .i64 rt, .int .i64 tk, .slice P0 pn pc], .slice B xs.length cB] w fun e w' => ∃ A' c', e = .returned (.tuple #[ckV (ediF isNm 1000000 ⟨rt, tk, srtC (xs.map CliM.x)⟩) (.agg #[.int .i64 rt, .int .i64 tk, .slice A' xs.length c']), .int .i64 (ediF isNm 1000000 ⟨rt, tk, srtC (xs.map CliM.x)⟩)]) ∧ RdT 37 w' A' ((srtF CliM.x xs).flatMap CliM.cs) ∧ Gq w w' := by
  obtain ⟨f, hf⟩ : ∃ f, ediF isNm 1000000 ⟨rt, tk, srtC (xs.map CliM.x)⟩ = f := ⟨_, rfl⟩
  obtain ⟨m, hm⟩ : ∃ m, xs.length = m := ⟨_, rfl⟩
  obtain ⟨L, hL⟩ : ∃ L, (srtF CliM.x xs).flatMap CliM.cs = L := ⟨_, rfl⟩
  have HSO' : Hid (∀ W, Gq w W → Calls Tryz.prog 28 #[.slice B m cB] W fun e w' => ∃ A' c', e = .returned (.slice A' m c') ∧ RdT 37 w' A' L ∧ Gq W w') := fun W hW => by
    have := sortedR_any B cB xs W (h.below hW) hl
    rw [hm, hL] at this
    exact this.mono fun e w' ⟨A', c', h1, h2, h3⟩ => ⟨A', c', h1, RdT.of_own h2, h3⟩
  have HCE' : Hid (∀ A c W, Gq w W → RdT 37 W A L → Calls Tryz.prog 27 #[.agg #[.int .i64 rt, .int .i64 tk, .slice A m c]] W fun e w' => e = .returned (.int .i64 f) ∧ Gq W w') := fun A c W hW hr => by
    have hlen : (srtF CliM.x xs).length = m := by rw [srtF_len]; exact hm
    have := checkR_any ⟨rt, tk, ⟨A, c, srtF CliM.x xs⟩⟩ W ⟨hrt, htk, by show (srtF CliM.x xs).length ≤ _; omega, by show Rd _ _ _; rw [hL]; exact hr.rd, fun z hz => (hok z ((srt_perm CliM.x xs).mem_iff.1 hz)).below hW⟩ (hp.below hW)
    have he : EdtM.x ⟨rt, tk, ⟨A, c, srtF CliM.x xs⟩⟩ = ⟨rt, tk, srtC (xs.map CliM.x)⟩ := by
      have hm : (srtF CliM.x xs).map CliM.x = srtC (xs.map CliM.x) := srt_map id CliM.x xs
      show Edt.mk rt tk ((srtF CliM.x xs).map CliM.x) = _
      rw [hm]
    rw [he, hf] at this
    simp only [EdtM.v, Slc.v] at this
    rw [hlen] at this
    exact this
  rw [hf, hm, hL]
  clear hf hm hL h hok hl hrt htk hp
  obtain ⟨w0, hw0⟩ : ∃ w0, w0 = w := ⟨_, rfl⟩
  obtain ⟨wa, hwa⟩ : ∃ wa, wa = w.alloc (.cells #[.int .i64 rt, .int .i64 tk, .slice P0 pn pc] 24) := ⟨_, rfl⟩
  obtain ⟨w1, hw1⟩ : ∃ w1, w1 = wa.alloc (.cells #[.int .i64 0, .int .i64 0, .slice none 0 0] 24) := ⟨_, rfl⟩
  have hz : wa.heap.size = w.heap.size + 1 := by rw [hwa]; simp
  have hga : Gq w wa := by rw [hwa]; exact (Gq.refl _).alloc _
  have hgb : Gq wa w1 := by rw [hw1]; exact (Gq.refl _).alloc _
  have HG01 : Hid (Gq w0 w1) := by rw [hw0]; exact hga.trans hgb
  have HSO : Hid (∀ W, Gq w1 W → Calls Tryz.prog 28 #[.slice B m cB] W fun e w' => ∃ A' c', e = .returned (.slice A' m c') ∧ RdT 37 w' A' L ∧ Gq W w') := fun W hW => HSO'.out W (hga.trans (hgb.trans hW))
  have HCE : Hid (∀ A c W, Gq w1 W → RdT 37 W A L → Calls Tryz.prog 27 #[.agg #[.int .i64 rt, .int .i64 tk, .slice A m c]] W fun e w' => e = .returned (.int .i64 f) ∧ Gq W w') := fun A c W hW hr => HCE'.out A c W (hga.trans (hgb.trans hW)) hr
  have hkp : Blk w1 w.heap.size 24 [.int .i64 rt, .int .i64 tk, .slice P0 pn pc] := by
    refine blkq (?_ : Blk wa w.heap.size _ _) hgb; rw [hwa]; exact Blk.new w _ _
  have hkr : Blk w1 (w.heap.size + 1) 24 [.int .i64 0, .int .i64 0, .slice none 0 0] := by rw [hw1, ← hz]; exact Blk.new wa _ _
  have hz1 : w1.heap.size = w.heap.size + 2 := by rw [hw1]; simp; omega
  rw [hwa] at hw1
  have HW1 := Lib.hid hw1
  clear hwa hga hgb HSO' HCE' hz hw1
  go_enter Tryz.func18, Tryz.ntmps18
  go_upto_region 1 with (fail)
  rw [← HW1.out]
  subst hw0
  obtain ⟨gp, hgp⟩ : ∃ g, w0.heap.size = g := ⟨_, rfl⟩
  have HBASE : Hid (Gq w1 w1.drew) := (Gq.refl _).drew
  have HBP : Hid (Blk w1.drew gp 24 [.int .i64 rt, .int .i64 tk, .slice P0 pn pc]) := by rw [← hgp]; exact hkp
  have HBR : Hid (Blk w1 (gp + 1) 24 [.int .i64 0, .int .i64 0, .slice none 0 0]) := by rw [← hgp]; exact hkr
  have HGP : Hid (∀ g, w1.heap.size ≤ g → gp ≠ g) := fun g hg => by omega
  have HGR : Hid (w0.heap.size ≤ gp + 1) := by show _ ≤ _; omega
  simp only [hgp]
  clear hgp hkp hkr hz1 HW1
  refine Go.Dwo.wp_region_factsK _ (by kernel_rfl) [[], [0], [], [2], [], [4], [0, 1, 2, 3, 4, 5], [], [0, 1, 2, 3, 4, 5, 6, 7]] (by kernel_rfl) (by kernel_rfl) [some 8, some 9, some 10, some 11, some 12, some 13, some 14, some 6, none] (by kernel_rfl) (fun vs => by simp only [Go.Dwo.putA, Go.Dwo.putL, if_true, Act.put, List.setIfInBounds_toArray, List.set_cons_zero, List.set_cons_succ]; rfl) (madF w1 gp rt tk P0 pn pc B m cB L) (by kernel_rfl) ?_ ⟨?_, ?_, ?_, ?_, ?_, ?_, ?_, ?_, ?_, trivial⟩ ?_
  · exact Go.Dwo.fa_zero [0, 1] (by kernel_rfl) <| Go.Dwo.fa_cons (HBASE.out) <| Go.Dwo.fa_cons (HBP.out) <| Go.Dwo.fa_nil _
  · -- 0: Op.fieldAddr 24 t2 0
    intro Ls vs w Kk H hu hD hK
    replace hu : ∀ k ∈ ([] : List Nat), Ls k = true := hu
    replace hD : ∀ k ∈ ([0, 1, 6, 8] : List Nat), Ls k = false := Go.Dwo.fa_cons (hD 0 (.inl rfl)) <| Go.Dwo.fa_cons (hD 1 (.inr (by decide))) <| Go.Dwo.fa_cons (hD 6 (.inr (by decide))) <| Go.Dwo.fa_cons (hD 8 (.inr (by decide))) <| Go.Dwo.fa_nil _
    simp only [Go.Dwo.actOf, List.getD_cons_zero]
    have h0 : Gq w1 w := H.up hu hD 0 rfl rfl rfl
    have bP : Blk w gp 24 [.int .i64 rt, .int .i64 tk, .slice P0 pn pc] := H.up hu hD 1 rfl rfl rfl
    have hKK := Lib.hid hK
    clear hK H hu hD
    go_simp
    refine hKK.out _ _ (fun f _ _ _ _ h => h) ?_
    exact Go.Dwo.fa_pick [2] (by kernel_rfl) <| Go.Dwo.fa_cons (fun _ => rfl) <| Go.Dwo.fa_nil _
  · -- 1: Op.load 3 t8
    intro Ls vs w Kk H hu hD hK
    replace hu : ∀ k ∈ ([0] : List Nat), Ls k = true := hu
    replace hD : ∀ k ∈ ([1, 6, 8] : List Nat), Ls k = false := Go.Dwo.fa_cons (hD 1 (.inl rfl)) <| Go.Dwo.fa_cons (hD 6 (.inr (by decide))) <| Go.Dwo.fa_cons (hD 8 (.inr (by decide))) <| Go.Dwo.fa_nil _
    simp only [Go.Dwo.actOf, List.getD_cons_succ, List.getD_cons_zero]
    have h0 : Gq w1 w := H.up hu hD 0 rfl rfl rfl
    have bP : Blk w gp 24 [.int .i64 rt, .int .i64 tk, .slice P0 pn pc] := H.up hu hD 1 rfl rfl rfl
    have f0 : vs 0 = .pointer (some ⟨gp, 0, none⟩) := H.up hu hD 2 rfl rfl rfl
    have d0 : w.cell? ⟨gp, 0, none⟩ = _ := bP.cell 0
    simp only [List.getElem?_cons_zero] at d0
    have hKK := Lib.hid hK
    clear hK H hu hD
    go_simp
    refine hKK.out _ _ (fun f _ _ _ _ h => h) ?_
    exact Go.Dwo.fa_pick [3] (by kernel_rfl) <| Go.Dwo.fa_cons (fun _ => rfl) <| Go.Dwo.fa_nil _
  · -- 2: Op.fieldAddr 24 t2 1
    intro Ls vs w Kk H hu hD hK
    replace hu : ∀ k ∈ ([] : List Nat), Ls k = true := hu
    replace hD : ∀ k ∈ ([2, 3, 6, 8] : List Nat), Ls k = false := Go.Dwo.fa_cons (hD 2 (.inl rfl)) <| Go.Dwo.fa_cons (hD 3 (.inr (by decide))) <| Go.Dwo.fa_cons (hD 6 (.inr (by decide))) <| Go.Dwo.fa_cons (hD 8 (.inr (by decide))) <| Go.Dwo.fa_nil _
    simp only [Go.Dwo.actOf, List.getD_cons_succ, List.getD_cons_zero]
    have h0 : Gq w1 w := H.up hu hD 0 rfl rfl rfl
    have bP : Blk w gp 24 [.int .i64 rt, .int .i64 tk, .slice P0 pn pc] := H.up hu hD 1 rfl rfl rfl
    have hKK := Lib.hid hK
    clear hK H hu hD
    go_simp
    refine hKK.out _ _ (fun f _ _ _ _ h => h) ?_
    exact Go.Dwo.fa_pick [4] (by kernel_rfl) <| Go.Dwo.fa_cons (fun _ => rfl) <| Go.Dwo.fa_nil _
  · -- 3: Op.load 3 t10
    intro Ls vs w Kk H hu hD hK
    replace hu : ∀ k ∈ ([2] : List Nat), Ls k = true := hu
    replace hD : ∀ k ∈ ([3, 6, 8] : List Nat), Ls k = false := Go.Dwo.fa_cons (hD 3 (.inl rfl)) <| Go.Dwo.fa_cons (hD 6 (.inr (by decide))) <| Go.Dwo.fa_cons (hD 8 (.inr (by decide))) <| Go.Dwo.fa_nil _
    simp only [Go.Dwo.actOf, List.getD_cons_succ, List.getD_cons_zero]
    have h0 : Gq w1 w := H.up hu hD 0 rfl rfl rfl
    have bP : Blk w gp 24 [.int .i64 rt, .int .i64 tk, .slice P0 pn pc] := H.up hu hD 1 rfl rfl rfl
    have f2 : vs 2 = .pointer (some ⟨gp, 1, none⟩) := H.up hu hD 4 rfl rfl rfl
    have d1 : w.cell? ⟨gp, 1, none⟩ = _ := bP.cell 1
    simp only [List.getElem?_cons_zero, List.getElem?_cons_succ] at d1
    have hKK := Lib.hid hK
    clear hK H hu hD
    go_simp
    refine hKK.out _ _ (fun f _ _ _ _ h => h) ?_
    exact Go.Dwo.fa_pick [5] (by kernel_rfl) <| Go.Dwo.fa_cons (fun _ => rfl) <| Go.Dwo.fa_nil _
  · -- 4: Op.move t1
    intro Ls vs w Kk H hu hD hK
    replace hu : ∀ k ∈ ([] : List Nat), Ls k = true := hu
    replace hD : ∀ k ∈ ([4, 5, 6, 8] : List Nat), Ls k = false := Go.Dwo.fa_cons (hD 4 (.inl rfl)) <| Go.Dwo.fa_cons (hD 5 (.inr (by decide))) <| Go.Dwo.fa_cons (hD 6 (.inr (by decide))) <| Go.Dwo.fa_cons (hD 8 (.inr (by decide))) <| Go.Dwo.fa_nil _
    simp only [Go.Dwo.actOf, List.getD_cons_succ, List.getD_cons_zero]
    have h0 : Gq w1 w := H.up hu hD 0 rfl rfl rfl
    have bP : Blk w gp 24 [.int .i64 rt, .int .i64 tk, .slice P0 pn pc] := H.up hu hD 1 rfl rfl rfl
    have hKK := Lib.hid hK
    clear hK H hu hD
    go_simp
    refine hKK.out _ _ (fun f _ _ _ _ h => h) ?_
    exact Go.Dwo.fa_pick [6] (by kernel_rfl) <| Go.Dwo.fa_cons (fun _ => rfl) <| Go.Dwo.fa_nil _
  · -- 5: Op.call { value (Operand.func 93), args := #[t12], argTypes := #[22] }
    intro Ls vs w Kk H hu hD hK
    replace hu : ∀ k ∈ ([4] : List Nat), Ls k = true := hu
    replace hD : ∀ k ∈ ([5, 6, 8] : List Nat), Ls k = false := Go.Dwo.fa_cons (hD 5 (.inl rfl)) <| Go.Dwo.fa_cons (hD 6 (.inr (by decide))) <| Go.Dwo.fa_cons (hD 8 (.inr (by decide))) <| Go.Dwo.fa_nil _
    simp only [Go.Dwo.actOf, List.getD_cons_succ, List.getD_cons_zero]
    have h0 : Gq w1 w := H.up hu hD 0 rfl rfl rfl
    have bP : Blk w gp 24 [.int .i64 rt, .int .i64 tk, .slice P0 pn pc] := H.up hu hD 1 rfl rfl rfl
    have f4 : vs 4 = .slice B m cB := H.up hu hD 6 rfl rfl rfl
    have hKK := Lib.hid hK
    clear hK H hu hD
    go_simp
    refine (HSO.out w h0).mono ?_
    rintro e w' ⟨A', c', rfl, hr, hb⟩
    refine ⟨_, rfl, hKK.out _ _ (fun f hf _ _ _ h => madK w1 gp rt tk P0 pn pc B m cB L f hf _ _ _ hb h) ?_⟩
    exact Go.Dwo.fa_pick [7, 8, 10] (by kernel_rfl) <| Go.Dwo.fa_cons (fun _ => ⟨A', c', rfl, hr⟩) <|
        Go.Dwo.fa_cons (fun hL => absurd (show (5 : Nat) ∈ ([0, 1, 2, 3, 4, 5] : List Nat) from by decide) (hL 6 (show (6 : Nat) ∈ ([5, 6] : List Nat) from by decide) (show (6 : Nat) ≠ 5 from by decide)).2) <|
        Go.Dwo.fa_cons (fun hL => absurd (show (5 : Nat) ∈ ([0, 1, 2, 3, 4, 5, 6, 7] : List Nat) from by decide) (hL 8 (show (8 : Nat) ∈ ([5, 7, 8] : List Nat) from by decide) (show (8 : Nat) ≠ 5 from by decide)).2) <| Go.Dwo.fa_nil _
  · -- 6: Op.build 24 #[(0, t9), (1, t11), (2, t13)]
    intro Ls vs w Kk H hu hD hK
    replace hu : ∀ k ∈ ([0, 1, 2, 3, 4, 5] : List Nat), Ls k = true := hu
    replace hD : ∀ k ∈ ([6, 8] : List Nat), Ls k = false := Go.Dwo.fa_cons (hD 6 (.inl rfl)) <| Go.Dwo.fa_cons (hD 8 (.inr (by decide))) <| Go.Dwo.fa_nil _
    simp only [Go.Dwo.actOf, List.getD_cons_succ, List.getD_cons_zero]
    have h0 : Gq w1 w := H.up hu hD 0 rfl rfl rfl
    have bP : Blk w gp 24 [.int .i64 rt, .int .i64 tk, .slice P0 pn pc] := H.up hu hD 1 rfl rfl rfl
    have f1 : vs 1 = .int .i64 rt := H.up hu hD 3 rfl rfl rfl
    have f3 : vs 3 = .int .i64 tk := H.up hu hD 5 rfl rfl rfl
    have qn5 : ∃ A c, vs 5 = .slice A m c ∧ RdT 37 w A L := H.up hu hD 7 rfl rfl rfl
    obtain ⟨A5, c5, e5, r5⟩ := qn5
    have hKK := Lib.hid hK
    clear hK H hu hD
    simp only [Nat.zero_add, Nat.reduceAdd, f1, f3, e5]
    refine Eq.mpr (if_pos rfl) ?_
    refine Go.Dwo.tame_build _ _ rfl _ (by simp [Act.eval]; exact builtEd rt tk A5 m c5) ?_
    refine hKK.out _ _ (fun f _ _ _ _ h => h) ?_
    exact Go.Dwo.fa_pick [8] (by kernel_rfl) <| Go.Dwo.fa_cons (fun _ => by rw [← e5]; rfl) <| Go.Dwo.fa_nil _
  · -- 7: Op.alloc 24
    intro Ls vs w Kk H hu hD hK
    replace hu : ∀ k ∈ ([] : List Nat), Ls k = true := hu
    replace hD : ∀ k ∈ ([7, 8] : List Nat), Ls k = false := Go.Dwo.fa_cons (hD 7 (.inl rfl)) <| Go.Dwo.fa_cons (hD 8 (.inr (by decide))) <| Go.Dwo.fa_nil _
    simp only [Go.Dwo.actOf, List.getD_cons_succ, List.getD_cons_zero]
    have h0 : Gq w1 w := H.up hu hD 0 rfl rfl rfl
    have bP : Blk w gp 24 [.int .i64 rt, .int .i64 tk, .slice P0 pn pc] := H.up hu hD 1 rfl rfl rfl
    have hKK := Lib.hid hK
    clear hK H hu hD
    go_simp
    refine hKK.out _ _ (fun f hf _ _ _ h => madK w1 gp rt tk P0 pn pc B m cB L f hf _ _ _ (Gq.alloc (Gq.refl _) _) h) ?_
    exact Go.Dwo.fa_pick [9, 10] (by kernel_rfl) <| Go.Dwo.fa_cons (fun _ => ⟨_, rfl, Below.size h0, Blk.new w 24 [.int .i64 0, .int .i64 0, .slice none 0 0]⟩) <|
        Go.Dwo.fa_cons (fun hL => absurd (show (7 : Nat) ∈ ([0, 1, 2, 3, 4, 5, 6, 7] : List Nat) from by decide) (hL 8 (show (8 : Nat) ∈ ([5, 7, 8] : List Nat) from by decide) (show (8 : Nat) ≠ 7 from by decide)).2) <| Go.Dwo.fa_nil _
  · -- 8: Op.store 24 t6 t14
    intro Ls vs w Kk H hu hD hK
    replace hu : ∀ k ∈ ([0, 1, 2, 3, 4, 5, 6, 7] : List Nat), Ls k = true := hu
    replace hD : ∀ k ∈ ([8] : List Nat), Ls k = false := Go.Dwo.fa_cons (hD 8 (.inl rfl)) <| Go.Dwo.fa_nil _
    simp only [Go.Dwo.actOf, List.getD_cons_succ, List.getD_cons_zero]
    have h0 : Gq w1 w := H.up hu hD 0 rfl rfl rfl
    have bP : Blk w gp 24 [.int .i64 rt, .int .i64 tk, .slice P0 pn pc] := H.up hu hD 1 rfl rfl rfl
    have qn5 : ∃ A c, vs 5 = .slice A m c ∧ RdT 37 w A L := H.up hu hD 7 rfl rfl rfl
    obtain ⟨A5, c5, e5, r5⟩ := qn5
    have f6 : vs 6 = .agg #[.int .i64 rt, .int .i64 tk, vs 5] := H.up hu hD 8 rfl rfl rfl
    have qb7 : ∃ g, vs 7 = .pointer (some ⟨g, 0, none⟩) ∧ w1.heap.size ≤ g ∧ Blk w g 24 [.int .i64 0, .int .i64 0, .slice none 0 0] := H.up hu hD 9 rfl rfl rfl
    obtain ⟨g7, e7, l7, k7⟩ := qb7
    have HDD := Lib.hid hD
    have HH := Lib.hid H
    rw [e5] at f6
    have d0 : w.cell? ⟨g7, 0, none⟩ = _ := k7.cell 0
    have z0 := k7.frozen 0
    have d1 : w.cell? ⟨g7, 1, none⟩ = _ := k7.cell 1
    have z1 := k7.frozen 1
    have d2 : w.cell? ⟨g7, 2, none⟩ = _ := k7.cell 2
    have z2 := k7.frozen 2
    simp only [List.getElem?_cons_zero, List.getElem?_cons_succ] at d0 d1 d2
    have hKK := Lib.hid hK
    clear hK H hu hD
    go_simp
    have HST := Lib.hid (setN_blk [.int .i64 rt, .int .i64 tk, .slice A5 m c5] k7 rfl)
    refine hKK.out _ _ (Go.Dwo.fa_cons (fun _ _ _ h => setN_below l7 [.int .i64 rt, .int .i64 tk, .slice A5 m c5] w 0 h) <|
        Go.Dwo.fa_cons (fun _ _ _ h => (setN_heap [.int .i64 rt, .int .i64 tk, .slice A5 m c5] w 0 gp (HGP.out g7 l7)).trans h) <|
        Go.Dwo.fa_cons (fun _ _ _ h => h) <|
        Go.Dwo.fa_cons (fun _ _ _ h => h) <|
        Go.Dwo.fa_cons (fun _ _ _ h => h) <|
        Go.Dwo.fa_cons (fun _ _ _ h => h) <|
        Go.Dwo.fa_cons (fun _ _ _ h => h) <|
        Go.Dwo.fa_cons (fun _ _ _ h => (by obtain ⟨A, c, h1, h2⟩ := h; exact ⟨A, c, h1, h2.kp (setN_kp [.int .i64 rt, .int .i64 tk, .slice A5 m c5] k7 (by decide) 0)⟩)) <|
        Go.Dwo.fa_cons (fun _ _ _ h => h) <|
        Go.Dwo.fa_cons (fun _ hn _ _ => absurd (show (8 : Nat) ∈ ([8] : List Nat) from by decide) hn) <|
        Go.Dwo.fa_cons (fun hn _ _ _ => absurd (show (8 : Nat) ∈ ([5, 7, 8] : List Nat) from by decide) hn) <| Go.Dwo.fa_nil _) ?_
    exact Go.Dwo.fa_pick [10] (by kernel_rfl) <| Go.Dwo.fa_cons (fun _ => ⟨g7, A5, c5, e7, e5, l7, HST.out, r5.kp (setN_kp [.int .i64 rt, .int .i64 tk, .slice A5 m c5] k7 (by decide) 0)⟩) <| Go.Dwo.fa_nil _
  · intro vs w H
    have h0 : Gq w1 w := Go.Dwo.fa_at H 0 rfl rfl
    have bP : Blk w gp 24 [.int .i64 rt, .int .i64 tk, .slice P0 pn pc] := Go.Dwo.fa_at H 1 rfl rfl
    have f0 : vs 0 = .pointer (some ⟨gp, 0, none⟩) := Go.Dwo.fa_at H 2 rfl rfl
    have f1 : vs 1 = .int .i64 rt := Go.Dwo.fa_at H 3 rfl rfl
    have f2 : vs 2 = .pointer (some ⟨gp, 1, none⟩) := Go.Dwo.fa_at H 4 rfl rfl
    have f3 : vs 3 = .int .i64 tk := Go.Dwo.fa_at H 5 rfl rfl
    have f4 : vs 4 = .slice B m cB := Go.Dwo.fa_at H 6 rfl rfl
    have qn5 : ∃ A c, vs 5 = .slice A m c ∧ RdT 37 w A L := Go.Dwo.fa_at H 7 rfl rfl
    obtain ⟨A5, c5, e5, r5⟩ := qn5
    have f6 : vs 6 = .agg #[.int .i64 rt, .int .i64 tk, vs 5] := Go.Dwo.fa_at H 8 rfl rfl
    have qn8 : ∃ g A c, vs 7 = .pointer (some ⟨g, 0, none⟩) ∧ vs 5 = .slice A m c ∧ w1.heap.size ≤ g ∧ Blk w g 24 [.int .i64 rt, .int .i64 tk, .slice A m c] ∧ RdT 37 w A L := Go.Dwo.fa_at H 10 rfl rfl
    obtain ⟨g8, A8, c8, e8, e8b, l8, k8, r8⟩ := qn8
    clear H
    simp only [Nat.zero_add, Nat.reduceAdd]
    have HG2 : Hid (Gq w1 w) := h0
    have HK8 : Hid (Blk w g8 24 [.int .i64 rt, .int .i64 tk, .slice A8 m c8]) := k8
    have HR8 : Hid (RdT 37 w A8 L) := r8
    have c0 : w.cell? ⟨g8, 0, none⟩ = some (.int .i64 rt) := HK8.out.cell 0
    have c1 : w.cell? ⟨g8, 1, none⟩ = some (.int .i64 tk) := HK8.out.cell 1
    have c2 : w.cell? ⟨g8, 2, none⟩ = some (.slice A8 m c8) := HK8.out.cell 2
    rw [e8b] at f6
    simp only [f0, f1, f2, f3, f4, f6, e8, e8b]
    clear f0 f1 f2 f3 f4 f6 e8 e8b h0 bP k8 r8 e5 r5 A5 c5
    have HCK := Lib.hid (HCE.out A8 c8 w HG2.out HR8.out)
    go_wp2_with fail
    refine HCK.out.mono ?_
    rintro e w3 ⟨rfl, hg3⟩
    have HG3 : Hid (Gq w w3) := hg3
    have HG13 : Hid (Gq w1 w3) := HG2.out.trans hg3
    have hkr := blkq HBR.out HG13.out
    have HKR := Lib.hid hkr
    have z0 := hkr.frozen 0
    have z1 := hkr.frozen 1
    have z2 := hkr.frozen 2
    have y0 : w3.cell? ⟨gp + 1, 0, none⟩ = some (.int .i64 0) := hkr.cell 0
    have y1 : w3.cell? ⟨gp + 1, 1, none⟩ = some (.int .i64 0) := hkr.cell 1
    have y2 : w3.cell? ⟨gp + 1, 2, none⟩ = some (.slice none 0 0) := hkr.cell 2
    have hk8 := blkq HK8.out hg3
    have d0 : w3.cell? ⟨g8, 0, none⟩ = some (.int .i64 rt) := hk8.cell 0
    have d1 : w3.cell? ⟨g8, 1, none⟩ = some (.int .i64 tk) := hk8.cell 1
    have d2 : w3.cell? ⟨g8, 2, none⟩ = some (.slice A8 m c8) := hk8.cell 2
    have HEND : Hid (∀ a b c : Value, ((((w3.setCell ⟨gp + 1, 0, none⟩ a).setCell ⟨gp + 1, 1, none⟩ b).setCell ⟨gp + 1, 2, none⟩ c).cell? ⟨gp + 1, 0, none⟩ = some a ∧ (((w3.setCell ⟨gp + 1, 0, none⟩ a).setCell ⟨gp + 1, 1, none⟩ b).setCell ⟨gp + 1, 2, none⟩ c).cell? ⟨gp + 1, 1, none⟩ = some b ∧ (((w3.setCell ⟨gp + 1, 0, none⟩ a).setCell ⟨gp + 1, 1, none⟩ b).setCell ⟨gp + 1, 2, none⟩ c).cell? ⟨gp + 1, 2, none⟩ = some c) ∧ Gq w0 (((w3.setCell ⟨gp + 1, 0, none⟩ a).setCell ⟨gp + 1, 1, none⟩ b).setCell ⟨gp + 1, 2, none⟩ c) ∧ RdT 37 (((w3.setCell ⟨gp + 1, 0, none⟩ a).setCell ⟨gp + 1, 1, none⟩ b).setCell ⟨gp + 1, 2, none⟩ c) A8 L) := fun a b c => by
      have h1 := setN_blk [a, b, c] HKR.out rfl
      exact ⟨⟨h1.cell 0, h1.cell 1, h1.cell 2⟩, setN_below HGR.out [a, b, c] w3 0 (HG01.out.trans HG13.out), (HR8.out.below HG3.out).kp (setN_kp [a, b, c] HKR.out (by decide) 0)⟩
    have hrun := runEd0 w3
    clear hg3 hkr hk8 c0 c1 c2 HCK
    by_cases hf0 : f = 0
    · subst hf0
      have hfb : ((0 : Int) != 0) = false := rfl
      obtain ⟨⟨x0, x1, x2⟩, hge, hrd⟩ := HEND.out (.int .i64 rt) (.int .i64 tk) (.slice A8 m c8)
      have HGE := Lib.hid hge
      have HRE := Lib.hid hrd
      clear hge hrd
      go_wp2_with fail
      show bodyPost Tryz.prog Tryz.f18 _ _ _ _
      exact bodyPost_ret (v := .tuple #[.agg #[.int .i64 rt, .int .i64 tk, .slice A8 m c8], .int .i64 0]) (by simp [results, Tryz.results18, go_sem, x0, x1, x2]) rfl ⟨A8, c8, by rw [ckV_ok], HRE.out, HGE.out⟩
    · have hfb : (f != 0) = true := by simpa using hf0
      have HV := Lib.hid (ckV_bad hf0 (.agg #[.int .i64 rt, .int .i64 tk, .slice A8 m c8]))
      obtain ⟨⟨x0, x1, x2⟩, hge, hrd⟩ := HEND.out (.int .i64 0) (.int .i64 0) (.slice none 0 0)
      have HGE := Lib.hid hge
      have HRE := Lib.hid hrd
      clear hge hrd hf0
      go_wp2_with fail
      show bodyPost Tryz.prog Tryz.f18 _ _ _ _
      exact bodyPost_ret (v := .tuple #[.agg #[.int .i64 0, .int .i64 0, .slice none 0 0], .int .i64 f]) (by simp [results, Tryz.results18, go_sem, x0, x1, x2]) rfl ⟨A8, c8, by rw [HV.out], HRE.out, HGE.out⟩
end Go.Proofs.YtmknpeoflafaoaaGreatDoor
/- Generated (gen/two.py): the contract of deadwax/deadwaxref3.pair. -/
namespace Go.Proofs.YtmknpeoflafaoaaGreatDoor
open Go.RowKit Go.Dw
attribute [local go_sem ↓] Go.wp_at_zero Go.wp_at_succ

set_option maxRecDepth 100000 in
set_option maxHeartbeats 8000000 in
theorem pairR_any (x y : EdtM) (al : Bool) (w : World) (hx : EdtOk w x) (hy : EdtOk w y) (hp : HasPow w) : Calls Tryz.prog 15 #[x.v, y.v, .bool al] w fun e w' => e = .returned (.int .i64 (twoF isNm 1000000 al x.x y.x)) ∧ Gq w w' := by
  obtain ⟨f, hf⟩ : ∃ f, ediF isNm 1000000 x.x = f := ⟨_, rfl⟩
  obtain ⟨g, hg⟩ : ∃ f, ediF isNm 1000000 y.x = f := ⟨_, rfl⟩
  have HCX : Hid (∀ W, Gq w W → Calls Tryz.prog 27 #[x.v] W fun e w' => e = .returned (.int .i64 f) ∧ Gq W w') := fun W hW => by rw [← hf]; exact checkR_any x W (hx.below hW) (hp.below hW)
  have HCY : Hid (∀ W, Gq w W → Calls Tryz.prog 27 #[y.v] W fun e w' => e = .returned (.int .i64 g) ∧ Gq W w') := fun W hW => by rw [← hg]; exact checkR_any y W (hy.below hW) (hp.below hW)
  obtain ⟨r, hr⟩ : ∃ r, twoF isNm 1000000 al x.x y.x = r := ⟨_, rfl⟩
  have H1 : Hid (f ≠ 0 → r = f) := fun hn => by rw [← hr, ← hf] at *; exact twoF_1 hn
  have H2 : Hid (f = 0 → g ≠ 0 → r = g) := fun h0 hn => by rw [← hr, ← hf, ← hg] at *; exact twoF_2 h0 hn
  have H3 : Hid (f = 0 → g = 0 → r = if x.x.rate ≠ y.x.rate ∨ (al = false ∧ x.x.tracks ≠ y.x.tracks) then 6 else 0) := fun h0 h1 => by rw [← hr]; exact twoF_3 (by rw [hf]; exact h0) (by rw [hg]; exact h1)
  rw [hr]
  clear hf hg hr hx hy hp
  obtain ⟨xr, xt, ⟨xA, xd, xs⟩⟩ := x
  obtain ⟨yr, yt, ⟨yA, yd, ys⟩⟩ := y
  have H3 : Hid (f = 0 → g = 0 → r = if xr ≠ yr ∨ (al = false ∧ xt ≠ yt) then 6 else 0) := H3
  simp only [EdtM.v, Slc.v] at HCX HCY ⊢
  generalize (xs.length : Nat) = xn at *
  generalize (ys.length : Nat) = yn at *
  obtain ⟨wa, hwa⟩ : ∃ wa, wa = w.alloc (.cells #[.int .i64 xr, .int .i64 xt, .slice xA xn xd] 24) := ⟨_, rfl⟩
  obtain ⟨wb, hwb⟩ : ∃ wb, wb = wa.alloc (.cells #[.int .i64 yr, .int .i64 yt, .slice yA yn yd] 24) := ⟨_, rfl⟩
  have hz : wa.heap.size = w.heap.size + 1 := by rw [hwa]; simp
  have hga : Gq w wa := by rw [hwa]; exact (Gq.refl _).alloc _
  have hgb : Gq wa wb := by rw [hwb]; exact (Gq.refl _).alloc _
  have HG : Hid (Gq w wb) := hga.trans hgb
  have HKA : Hid (Blk wb w.heap.size 24 [.int .i64 xr, .int .i64 xt, .slice xA xn xd]) := by
    refine blkq (?_ : Blk wa w.heap.size _ _) hgb; rw [hwa]; exact Blk.new w _ _
  have HKB : Hid (Blk wb (w.heap.size + 1) 24 [.int .i64 yr, .int .i64 yt, .slice yA yn yd]) := by rw [hwb, ← hz]; exact Blk.new wa _ _
  have HCE : Hid (∀ W, Gq wb W → W.cell? ⟨w.heap.size, 0, none⟩ = some (.int .i64 xr) ∧ W.cell? ⟨w.heap.size, 1, none⟩ = some (.int .i64 xt) ∧ W.cell? ⟨w.heap.size, 2, none⟩ = some (.slice xA xn xd) ∧ W.cell? ⟨w.heap.size + 1, 0, none⟩ = some (.int .i64 yr) ∧ W.cell? ⟨w.heap.size + 1, 1, none⟩ = some (.int .i64 yt) ∧ W.cell? ⟨w.heap.size + 1, 2, none⟩ = some (.slice yA yn yd)) := fun W hW => by
    have k1 := blkq HKA.out hW
    have k2 := blkq HKB.out hW
    exact ⟨k1.cell 0, k1.cell 1, k1.cell 2, k2.cell 0, k2.cell 1, k2.cell 2⟩
  obtain ⟨c0, c1, c2, c3, c4, c5⟩ := HCE.out wb (Gq.refl _)
  have HC1 := Lib.hid (HCX.out wb HG.out)
  rw [hwa] at hwb
  have HWB := Lib.hid hwb
  clear hwa hwb hga hgb HCX
  go_enter Tryz.func15, Tryz.ntmps15
  go_upto_region 1 with (fail)
  rw [← HWB.out]
  go_wp2_with fail
  refine HC1.out.mono ?_
  rintro e w2 ⟨rfl, hg2⟩
  have HG2 : Hid (Gq wb w2) := hg2
  obtain ⟨d0, d1, d2, d3, d4, d5⟩ := HCE.out w2 hg2
  have HC2 := Lib.hid (HCY.out w2 (HG.out.trans hg2))
  clear hg2 c0 c1 c2 c3 c4 c5 HC1 HCY
  by_cases hf0 : f = 0
  case neg =>
    have HR := Lib.hid (H1.out hf0)
    have hfb : (f != 0) = true := by simpa using hf0
    clear hf0
    go_wp2_with fail
    go_ret
    exact ⟨by rw [HR.out]; rfl, HG.out.trans HG2.out⟩
  subst hf0
  have hfb : ((0 : Int) != 0) = false := rfl
  go_wp2_with fail
  refine HC2.out.mono ?_
  rintro e w3 ⟨rfl, hg3⟩
  have HG3 : Hid (Gq wb w3) := HG2.out.trans hg3
  obtain ⟨b0, b1, b2, b3, b4, b5⟩ := HCE.out w3 HG3.out
  clear hg3 d0 d1 d2 d3 d4 d5 HC2
  by_cases hg0 : g = 0
  case neg =>
    have HR := Lib.hid (H2.out (by simp) hg0)
    have hgb : (g != 0) = true := by simpa using hg0
    clear hg0
    go_wp2_with fail
    go_ret
    exact ⟨by rw [HR.out]; rfl, HG.out.trans HG3.out⟩
  subst hg0
  have HR := Lib.hid (H3.out (by simp) (by simp))
  clear H1 H2 H3
  by_cases h1 : xr = yr
  case neg =>
    have HR2 : Hid (r = 6) := by show _ = _; rw [HR.out, if_pos (.inl h1)]
    have q1 : (xr != yr) = true := by simpa using h1
    clear h1
    go_wp2_with fail
    go_ret
    exact ⟨by rw [HR2.out]; rfl, HG.out.trans HG3.out⟩
  have q1 : (xr != yr) = false := by simpa using h1
  cases al with
  | true =>
    have HR2 : Hid (r = 0) := by show _ = _; rw [HR.out, if_neg (fun h => by rcases h with h | h; exact h h1; exact absurd h.1 (by decide))]
    clear h1
    go_wp2_with fail
    go_ret
    exact ⟨by rw [HR2.out]; rfl, HG.out.trans HG3.out⟩
  | false =>
    by_cases h2 : xt = yt
    case neg =>
      have HR2 : Hid (r = 6) := by show _ = _; rw [HR.out, if_pos (.inr ⟨by simp, h2⟩)]
      have q2 : (xt != yt) = true := by simpa using h2
      clear h1 h2
      go_wp2_with fail
      go_ret
      exact ⟨by rw [HR2.out]; rfl, HG.out.trans HG3.out⟩
    have HR2 : Hid (r = 0) := by show _ = _; rw [HR.out, if_neg (fun h => by rcases h with h | h; exact h h1; exact h.2 h2)]
    have q2 : (xt != yt) = false := by simpa using h2
    clear h1 h2
    go_wp2_with fail
    go_ret
    exact ⟨by rw [HR2.out]; rfl, HG.out.trans HG3.out⟩
end Go.Proofs.YtmknpeoflafaoaaGreatDoor
/- Generated (gen/shfr.py): the contract of the reference's shifted. -/
namespace Go.Proofs.YtmknpeoflafaoaaGreatDoor
open Go.RowKit Go.Dw
attribute [local go_sem ↓] Go.wp_at_zero Go.wp_at_succ

/-- a clip from a position on is moved -/
def shfM (at_ by_ : Int) (c : CliM) : CliM := if at_ ≤ c.at_ then ⟨c.m, c.ch, c.fr, c.tr, c.at_ + by_, c.ln, c.e⟩ else c
theorem shfM_x (at_ by_ : Int) (c : CliM) : (shfM at_ by_ c).x = shfC at_ by_ c.x := by
  unfold shfM shfC
  show _ = if at_ ≤ c.at_ then _ else _
  split <;> rfl
theorem shfM_ok {w : World} {at_ by_ : Int} {c : CliM} (h : CliOk w c) (hi : at_ ≤ c.at_ → inI64 (c.at_ + by_)) : CliOk w (shfM at_ by_ c) := by
  unfold shfM
  split
  · rename_i hh; exact ⟨h.m, h.ch, h.fr, h.tr, hi hh, h.ln, h.el, h.er, h.eo⟩
  · exact h
set_option maxRecDepth 100000 in
set_option maxHeartbeats 8000000 in
theorem shiftedR_any (A : Option Addr) (c : Nat) (xs : List CliM) (at_ by_ : Int) (w : World) (h : Rd w A (xs.flatMap CliM.cs)) (hi : ∀ x ∈ xs, at_ ≤ x.at_ → inI64 (x.at_ + by_)) (hl : xs.length ≤ 1000000) :
    Calls Tryz.prog 19 #[.slice A xs.length c, .int .i64 at_, .int .i64 by_] w fun e w' => ∃ A' c', e = .returned (.slice A' xs.length c') ∧ w'.ownsRow w.heap.size 37 7 (.slice A' xs.length c') xs.length ((xs.map (shfM at_ by_)).flatMap CliM.cs) ∧ Gq w w' := by
  have HRD := Lib.hid h
  have HI := Lib.hid hi
  obtain ⟨ii, hii, hzi0, hzi1, hzi2⟩ := info_parts infoClP
  have HII := Lib.hid (And.intro hii (And.intro hzi0 (And.intro hzi1 hzi2)))
  clear h hi hii hzi0 hzi1 hzi2
  go_enter Tryz.func19, Tryz.ntmps19
  go_wp2_with fail
  go_loopw [7, 8] (fun ov kv wq => ∃ (k : Nat) (AO : Option Addr) (cO : Nat), k ≤ xs.length ∧ kv = .int .i64 (k : Int) ∧ ov = .slice AO k cO ∧ Hid (wq.ownsRow w.heap.size 37 7 (.slice AO k cO) k (((xs.take k).map (shfM at_ by_)).flatMap CliM.cs)) ∧ Hid (Gq w wq)) (fun _ kv _ => xs.length - (intOf kv).toNat)
  case atStart => exact ⟨0, none, 0, Nat.zero_le _, rfl, rfl, World.ownsRow_nil _ _ _ _, Gq.refl _⟩
  case round =>
    obtain ⟨k, AO, cO, hk, rfl, rfl, HOW, HG⟩ := hrel
    by_cases hlt : k < xs.length
    case neg =>
      have hd0 : decide (k < xs.length) = false := by simpa using hlt
      have hke : k = xs.length := by omega
      subst hke
      have HO2 : Hid (wr.ownsRow w.heap.size 37 7 (.slice AO xs.length cO) xs.length ((xs.map (shfM at_ by_)).flatMap CliM.cs)) := by
        have h1 := HOW.out
        rw [List.take_length] at h1; exact h1
      clear HOW
      go_wp2_with fail
      go_ret
      exact ⟨AO, cO, rfl, HO2.out, HG.out⟩
    have hd0 : decide (k < xs.length) = true := by simpa using hlt
    have i0 : (0 : Int) ≤ (k : Int) := by omega
    have i1 : (k : Int) < (xs.length : Int) := by omega
    obtain ⟨b, off, rfl, hbb, hcs⟩ := cli_at (HRD.out.below HG.out) (show 0 < xs.length by omega)
    obtain ⟨p0, p1, p2, p3, p4, p5, p6⟩ := hcs k hlt
    have HTK : Hid ((xs.take (k + 1)).map (shfM at_ by_) = (xs.take k).map (shfM at_ by_) ++ [shfM at_ by_ xs[k]]) := by
      show _ = _; rw [List.take_succ_eq_append_getElem hlt, List.map_append]; rfl
    have HIK : Hid (at_ ≤ xs[k].at_ → inI64 (xs[k].at_ + by_)) := HI.out _ (List.getElem_mem _)
    clear hcs
    obtain ⟨Z, hZ⟩ : ∃ X, xs[k] = X := ⟨_, rfl⟩
    rw [hZ] at p0 p1 p2 p3 p4 p5 p6 HTK HIK
    clear hZ
    have HZ1 : Hid (at_ ≤ Z.at_ → (shfM at_ by_ Z).cs = [.string Z.m, .int .i64 Z.ch, .int .i64 Z.fr, .int .i64 Z.tr, .int .i64 (Z.at_ + by_), .int .i64 Z.ln, .slice Z.e.a Z.e.xs.length Z.e.c]) := fun hh => by unfold shfM; rw [if_pos hh]; rfl
    have HZ2 : Hid (¬ at_ ≤ Z.at_ → (shfM at_ by_ Z).cs = [.string Z.m, .int .i64 Z.ch, .int .i64 Z.fr, .int .i64 Z.tr, .int .i64 Z.at_, .int .i64 Z.ln, .slice Z.e.a Z.e.xs.length Z.e.c]) := fun hh => by unfold shfM; rw [if_neg hh]; rfl
    obtain ⟨S, hS⟩ : ∃ S, shfM at_ by_ Z = S := ⟨_, rfl⟩
    rw [hS] at HZ1 HZ2 HTK
    clear hS
    obtain ⟨xm, xc, xf, xt, xa, xl, ⟨EA, ed, es⟩⟩ := Z
    simp only at p0 p1 p2 p3 p4 p5 p6 HZ1 HZ2 HIK
    generalize (es.length : Nat) = en at *
    obtain ⟨wa, hwa⟩ : ∃ wa, wa = wr.alloc (.cells #[.string xm, .int .i64 xc, .int .i64 xf, .int .i64 xt, .int .i64 xa, .int .i64 xl, .slice EA en ed] 37) := ⟨_, rfl⟩
    have HKC : Hid (Blk wa wr.heap.size 37 [.string xm, .int .i64 xc, .int .i64 xf, .int .i64 xt, .int .i64 xa, .int .i64 xl, .slice EA en ed]) := by rw [hwa]; exact Blk.new wr _ _
    have HGA : Hid (Gq wr wa) := by rw [hwa]; exact (Gq.refl _).alloc _
    have a4 : wa.cell? ⟨wr.heap.size, 4, none⟩ = some (.int .i64 xa) := HKC.out.cell 4
    have f4 := HKC.out.frozen 4
    have HWA := Lib.hid hwa
    clear hwa
    go_upto_region 6 with (fail)
    rw [← HWA.out]
    by_cases hat : at_ ≤ xa
    · have hda : decide (at_ ≤ xa) = true := decide_eq_true hat
      have hwx : IntKind.i64.wrap (xa + by_) = xa + by_ := IntWalk.i64_in _ (HIK.out hat)
      have HZC := Lib.hid (HZ1.out hat)
      obtain ⟨wd, hwd'⟩ : ∃ wd, wd = wa.setCell ⟨wr.heap.size, 4, none⟩ (.int .i64 (xa + by_)) := ⟨_, rfl⟩
      have HKD : Hid (Blk wd wr.heap.size 37 [.string xm, .int .i64 xc, .int .i64 xf, .int .i64 xt, .int .i64 (xa + by_), .int .i64 xl, .slice EA en ed]) := by rw [hwd']; exact HKC.out.set_ 4 (.int .i64 (xa + by_))
      have HGD : Hid (Gq wr wd) := by rw [hwd']; exact HGA.out.setCell (p := ⟨wr.heap.size, 4, none⟩) (Nat.le_refl _) _
      have HO8 : Hid (wd.ownsRow w.heap.size 37 7 (.slice AO k cO) k (((xs.take k).map (shfM at_ by_)).flatMap CliM.cs)) := own_belowL HOW.out HGD.out
      have HG8 : Hid (Gq w wd) := HG.out.trans HGD.out
      have HZ8 : Hid (w.heap.size ≤ wd.heap.size) := Below.size HG8.out
      have b0 : wd.cell? ⟨wr.heap.size, 0, none⟩ = some (.string xm) := HKD.out.cell 0
      have b1 : wd.cell? ⟨wr.heap.size, 1, none⟩ = some (.int .i64 xc) := HKD.out.cell 1
      have b2 : wd.cell? ⟨wr.heap.size, 2, none⟩ = some (.int .i64 xf) := HKD.out.cell 2
      have b3 : wd.cell? ⟨wr.heap.size, 3, none⟩ = some (.int .i64 xt) := HKD.out.cell 3
      have b4 : wd.cell? ⟨wr.heap.size, 4, none⟩ = some (.int .i64 (xa + by_)) := HKD.out.cell 4
      have b5 : wd.cell? ⟨wr.heap.size, 5, none⟩ = some (.int .i64 xl) := HKD.out.cell 5
      have b6 : wd.cell? ⟨wr.heap.size, 6, none⟩ = some (.slice EA en ed) := HKD.out.cell 6
      have HWD := Lib.hid hwd'
      clear hwd' p0 p1 p2 p3 p4 p5 p6 HOW hat HZ1 HZ2 HIK
      go_upto_region 8 with (fail)
      rw [← HWD.out]
      clear a4 f4
      go_wp2_with (at_builtin; (refine wpList_append_lies _ rfl _ _ 22 rfl w.heap.size 37 ii _ 7 80 Tryz.underlying22 HII.out.1 HII.out.2.1 HII.out.2.2.1 HII.out.2.2.2 rfl (by decide) _ _ _ rfl (HO8.out.alloc _) ⟨wd.heap.size, 0, none⟩ 1 1 [.string xm, .int .i64 xc, .int .i64 xf, .int .i64 xt, .int .i64 (xa + by_), .int .i64 xl, .slice EA en ed] (by rfl) (by rfl) (World.news_of_block (cs := #[.string xm, .int .i64 xc, .int .i64 xf, .int .i64 xt, .int .i64 (xa + by_), .int .i64 xl, .slice EA en ed]) (t := 37) (fr := (0, 0)) (by exact heap_alloc_new wd _)) (by simp [Value.oneCell']) (by decide) (by unfold maxLen; omega) (by omega) (by have := HZ8.out; simp; omega) _ rfl ?_); intro g9 cap9 w9 hown9 hgrow9 hat9 hg9)
      have hgA : (wd.alloc (.cells #[.string xm, .int .i64 xc, .int .i64 xf, .int .i64 xt, .int .i64 (xa + by_), .int .i64 xl, .slice EA en ed] 37)).grownBy w9 (Value.slice AO k cO).ownBlock := hgrow9
      have HG9 : Hid (Gq w w9) := by
        refine Below.trans HG8.out (((Below.refl _ wd).alloc HZ8.out _).grown hgA (by have := HZ8.out; simp; omega) (fun j hj => (HO8.out.lt j hj).1))
      have HO9 : Hid (w9.ownsRow w.heap.size 37 7 (.slice (some ⟨g9, 0, none⟩) (k + 1) cap9) (k + 1) (((xs.take (k + 1)).map (shfM at_ by_)).flatMap CliM.cs)) := by
        show World.ownsRow _ _ _ _ _ _ _
        rw [HTK.out, flat_snoc, HZC.out]; exact hown9
      clear hgA hown9 hgrow9 hat9 hg9
      go_wp2_with fail
      go_roundw
      case rel => exact ⟨k + 1, _, _, hlt, by go_num, rfl, HO9, HG9⟩
      case measure => simp [intOf]; omega
    · have hda : decide (at_ ≤ xa) = false := decide_eq_false hat
      have HZC := Lib.hid (HZ2.out hat)
      obtain ⟨wd, hwd'⟩ : ∃ wd, wd = wa := ⟨_, rfl⟩
      have HKD : Hid (Blk wd wr.heap.size 37 [.string xm, .int .i64 xc, .int .i64 xf, .int .i64 xt, .int .i64 xa, .int .i64 xl, .slice EA en ed]) := by rw [hwd']; exact HKC.out
      have HGD : Hid (Gq wr wd) := by rw [hwd']; exact HGA.out
      have HO8 : Hid (wd.ownsRow w.heap.size 37 7 (.slice AO k cO) k (((xs.take k).map (shfM at_ by_)).flatMap CliM.cs)) := own_belowL HOW.out HGD.out
      have HG8 : Hid (Gq w wd) := HG.out.trans HGD.out
      have HZ8 : Hid (w.heap.size ≤ wd.heap.size) := Below.size HG8.out
      clear hat HZ1 HZ2 HIK
      go_upto_region 8 with (fail)
      rw [← hwd']
      have b0 : wd.cell? ⟨wr.heap.size, 0, none⟩ = some (.string xm) := HKD.out.cell 0
      have b1 : wd.cell? ⟨wr.heap.size, 1, none⟩ = some (.int .i64 xc) := HKD.out.cell 1
      have b2 : wd.cell? ⟨wr.heap.size, 2, none⟩ = some (.int .i64 xf) := HKD.out.cell 2
      have b3 : wd.cell? ⟨wr.heap.size, 3, none⟩ = some (.int .i64 xt) := HKD.out.cell 3
      have b4 : wd.cell? ⟨wr.heap.size, 4, none⟩ = some (.int .i64 xa) := HKD.out.cell 4
      have b5 : wd.cell? ⟨wr.heap.size, 5, none⟩ = some (.int .i64 xl) := HKD.out.cell 5
      have b6 : wd.cell? ⟨wr.heap.size, 6, none⟩ = some (.slice EA en ed) := HKD.out.cell 6
      clear hwd' p0 p1 p2 p3 p4 p5 p6 HOW a4 f4
      go_wp2_with (at_builtin; (refine wpList_append_lies _ rfl _ _ 22 rfl w.heap.size 37 ii _ 7 80 Tryz.underlying22 HII.out.1 HII.out.2.1 HII.out.2.2.1 HII.out.2.2.2 rfl (by decide) _ _ _ rfl (HO8.out.alloc _) ⟨wd.heap.size, 0, none⟩ 1 1 [.string xm, .int .i64 xc, .int .i64 xf, .int .i64 xt, .int .i64 xa, .int .i64 xl, .slice EA en ed] (by rfl) (by rfl) (World.news_of_block (cs := #[.string xm, .int .i64 xc, .int .i64 xf, .int .i64 xt, .int .i64 xa, .int .i64 xl, .slice EA en ed]) (t := 37) (fr := (0, 0)) (by exact heap_alloc_new wd _)) (by simp [Value.oneCell']) (by decide) (by unfold maxLen; omega) (by omega) (by have := HZ8.out; simp; omega) _ rfl ?_); intro g9 cap9 w9 hown9 hgrow9 hat9 hg9)
      have hgA : (wd.alloc (.cells #[.string xm, .int .i64 xc, .int .i64 xf, .int .i64 xt, .int .i64 xa, .int .i64 xl, .slice EA en ed] 37)).grownBy w9 (Value.slice AO k cO).ownBlock := hgrow9
      have HG9 : Hid (Gq w w9) := by
        refine Below.trans HG8.out (((Below.refl _ wd).alloc HZ8.out _).grown hgA (by have := HZ8.out; simp; omega) (fun j hj => (HO8.out.lt j hj).1))
      have HO9 : Hid (w9.ownsRow w.heap.size 37 7 (.slice (some ⟨g9, 0, none⟩) (k + 1) cap9) (k + 1) (((xs.take (k + 1)).map (shfM at_ by_)).flatMap CliM.cs)) := by
        show World.ownsRow _ _ _ _ _ _ _
        rw [HTK.out, flat_snoc, HZC.out]; exact hown9
      clear hgA hown9 hgrow9 hat9 hg9
      go_wp2_with fail
      go_roundw
      case rel => exact ⟨k + 1, _, _, hlt, by go_num, rfl, HO9, HG9⟩
      case measure => simp [intOf]; omega
end Go.Proofs.YtmknpeoflafaoaaGreatDoor
