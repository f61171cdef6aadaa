/- Several texts laid into one: The contracts of the reference's placed and Sorted; The contract of the reference's Sorted; -/
import Derived.Test.YtmppccnioiodgabGreatDoorOrdR
import Derived.Test.YtmppccnioiodgabGreatDoorSrtP
import Derived.Test.YtmppccnioiodgabGreatDoorApdZ
import Derived.Test.YtmppccnioiodgabGreatDoorNumB
import Derived.Test.YtmppccnioiodgabGreatDoorEdtZ
import Derived.Deep.RegionHeld3
import Derived.Deep.DrawnRows
import Derived.Deep.CutBlock
import Derived.Deep.DeepCutAuto
/- The contracts of the reference's placed and Sorted. -/
namespace Go.Proofs.YtmppccnioiodgabGreatDoor
open Go.RowKit Go.Dw
attribute [local go_sem ↓] Go.wp_at_zero Go.wp_at_succ

theorem infoClP : (Tryz.prog.info? 52).map (fun i => (i.zero, i.size, i.bytes)) = some (some (.agg #[.string ⟨#[]⟩, .int .i64 0, .int .i64 0, .int .i64 0, .int .i64 0, .int .i64 0, .slice none 0 0]), 7, 80) := by kernel_rfl
theorem cli_oneP (l : List CliM) : ∀ u ∈ l.flatMap CliM.cs, u.oneCell' = true := fun u hu => by
  obtain ⟨p, _, hp⟩ := List.mem_flatMap.1 hu
  simp [CliM.cs] at hp
  rcases hp with rfl | rfl | rfl | rfl | rfl | rfl | rfl <;> rfl
theorem gq_none {w w' : World} (h : w.grownBy w' (Value.slice none 0 0).ownBlock) : Gq w w' := ⟨h.os, h.tape, h.output, h.size, fun j hj => h.block j hj (by intro h; cases h)⟩
set_option maxRecDepth 100000 in
set_option maxHeartbeats 8000000 in
theorem placed_any (A : Option Addr) (c : Nat) (xs : List CliM) (y : CliM) (w : World) (hc : xs.length ≤ c) (h : Rd w A (xs.flatMap CliM.cs)) (hl : xs.length ≤ 1000000000) :
    Calls Tryz.prog 41 #[.slice A xs.length c, y.v] w fun e w' => ∃ A' c', e = .returned (.slice A' (xs.length + 1) c') ∧ w'.ownsRow w.heap.size 52 7 (.slice A' (xs.length + 1) c') (xs.length + 1) ((plc CliM.x xs y).flatMap CliM.cs) ∧ Gq w w' := by
  obtain ⟨Y, hY⟩ : ∃ Y, y = Y := ⟨_, rfl⟩
  have HOR : Hid (∀ (x : CliM) W, Calls Tryz.prog 24 #[x.v, Y.v] W fun e w' => e = .returned (.int .i64 (cmpK x.x Y.x)) ∧ Gq W w') := fun x W => order_any x Y W
  rw [hY]
  obtain ⟨ym, yc, yf, yt, ya, yl, ⟨YA, yd, yes⟩⟩ := y
  obtain ⟨yn, hyn⟩ : ∃ n, yes.length = n := ⟨_, rfl⟩
  have HYV : Hid (Y.v = .agg #[.string ym, .int .i64 yc, .int .i64 yf, .int .i64 yt, .int .i64 ya, .int .i64 yl, .slice YA yn yd]) := by show _ = _; rw [← hY, ← hyn]; rfl
  have HYC : Hid (Y.cs = [.string ym, .int .i64 yc, .int .i64 yf, .int .i64 yt, .int .i64 ya, .int .i64 yl, .slice YA yn yd]) := by show _ = _; rw [← hY, ← hyn]; rfl
  rw [HYV.out] at HOR ⊢
  clear hY hyn
  obtain ⟨w1, hw1⟩ : ∃ w1, w1 = w.alloc (.cells #[.string ym, .int .i64 yc, .int .i64 yf, .int .i64 yt, .int .i64 ya, .int .i64 yl, .slice YA yn yd] 52) := ⟨_, rfl⟩
  have HG1 : Hid (Gq w w1) := by rw [hw1]; exact (Gq.refl _).alloc _
  have HKY : Hid (Blk w1 w.heap.size 52 [.string ym, .int .i64 yc, .int .i64 yf, .int .i64 yt, .int .i64 ya, .int .i64 yl, .slice YA yn yd]) := by rw [hw1]; exact Blk.new w _ _
  have HCY : Hid (∀ W, Gq w1 W → W.cell? ⟨w.heap.size, 0, none⟩ = some (.string ym) ∧ W.cell? ⟨w.heap.size, 1, none⟩ = some (.int .i64 yc) ∧ W.cell? ⟨w.heap.size, 2, none⟩ = some (.int .i64 yf) ∧ W.cell? ⟨w.heap.size, 3, none⟩ = some (.int .i64 yt) ∧ W.cell? ⟨w.heap.size, 4, none⟩ = some (.int .i64 ya) ∧ W.cell? ⟨w.heap.size, 5, none⟩ = some (.int .i64 yl) ∧ W.cell? ⟨w.heap.size, 6, none⟩ = some (.slice YA yn yd)) := fun W hW => by
    have k1 := blkq HKY.out hW
    exact ⟨k1.cell 0, k1.cell 1, k1.cell 2, k1.cell 3, k1.cell 4, k1.cell 5, k1.cell 6⟩
  have HRD : Hid (Rd w1 A (xs.flatMap CliM.cs)) := h.below HG1.out
  have HRD0 : Hid (Rd w A (xs.flatMap CliM.cs)) := h
  have HCC : Hid (xs.length ≤ c) := hc
  obtain ⟨ii, hii, hzi0, hzi1, hzi2⟩ := info_parts infoClP
  have HII := Lib.hid (And.intro hii (And.intro hzi0 (And.intro hzi1 hzi2)))
  have HW1 := Lib.hid hw1
  clear hw1 h hc hii hzi0 hzi1 hzi2
  go_enter Tryz.func41, Tryz.ntmps41
  go_upto_region 1 with (fail)
  rw [← HW1.out]
  go_wp2_with fail
  go_loopw [5] (fun kv wq => ∃ (k : Nat), k ≤ xs.length ∧ kv = .int .i64 (k : Int) ∧ Hid (∀ j (hj : j < xs.length), k ≤ j → 0 < cmpK xs[j].x Y.x) ∧ Hid (Gq w1 wq)) (fun kv _ => (intOf kv).toNat)
  case atStart => exact ⟨xs.length, Nat.le_refl _, rfl, fun j hj hk => absurd hk (by omega), Gq.refl _⟩
  case round =>
    obtain ⟨k, hk, rfl, HHI, HGR⟩ := hrel
    obtain ⟨bb, hbb⟩ : ∃ bb : Bool, bb = if h : 0 < k then decide (0 < cmpK (xs[k - 1]'(by omega)).x Y.x) else false := ⟨_, rfl⟩
    have HBB := Lib.hid hbb
    clear hbb
    go_upto_region 2 with (fail)
    go_cut [20] (fun v wq => v = .bool bb ∧ Hid (Gq w1 wq))
    case first =>
      as_aux_lemma =>
      by_cases hk0 : 0 < k
      case neg =>
        have HB0 : Hid (bb = false) := by show _ = _; rw [HBB.out, dif_neg hk0]
        have hd0 : decide (0 < k) = false := by simpa using hk0
        go_wp2_with fail
        go_quiet (fail)
        all_goals
          go_wp2_with fail
          go_meet
          case rel => exact ⟨by rw [HB0.out], by first | exact HGR | exact Gq.drew HGR.out | exact below_drewN HGR.out _⟩
      have HB0 : Hid (bb = decide (0 < cmpK (xs[k - 1]'(by omega)).x Y.x)) := by show _ = _; rw [HBB.out, dif_pos hk0]
      have hd0 : decide (0 < k) = true := by simpa using hk0
      obtain ⟨q, hq⟩ : ∃ q, k - 1 = q := ⟨_, rfl⟩
      obtain ⟨b, off, hA2, hbl, hcs⟩ := cli_at (HRD.out.below HGR.out) (show 0 < xs.length by omega)
      subst hA2
      obtain ⟨p0, p1, p2, p3, p4, p5, p6⟩ := hcs q (by omega)
      have hw1 : IntKind.i64.wrap ((k : Int) - 1) = (q : Int) := by rw [IntKind.wrap_i64]; omega
      simp only [hq] at HB0
      obtain ⟨Z, hZ⟩ : ∃ X, xs[q] = X := ⟨_, rfl⟩
      rw [hZ] at p0 p1 p2 p3 p4 p5 p6 HB0
      have HOC := Lib.hid (fun W => HOR.out Z W)
      have HBR : Hid (∀ W, Gq wr W → b < wr.heap.size) := fun _ _ => hbl
      clear hZ hcs HBB HHI
      obtain ⟨cv, hcv⟩ : ∃ cv, cmpK Z.x Y.x = cv := ⟨_, rfl⟩
      rw [hcv] at HB0 HOC
      clear hcv
      obtain ⟨xm, xc, xf, xt, xa, xl, ⟨EA, ed, es⟩⟩ := Z
      simp only [CliM.v, Slc.v] at p0 p1 p2 p3 p4 p5 p6 HOC
      generalize (es.length : Nat) = en at *
      obtain ⟨y0, y1, y2, y3, y4, y5, y6⟩ := HCY.out wr HGR.out
      have HCB : Hid (∀ W, Gq wr W → W.cell? ⟨b, off + q * 7, none⟩ = some (.string xm) ∧ W.cell? ⟨b, off + q * 7 + 1, none⟩ = some (.int .i64 xc) ∧ W.cell? ⟨b, off + q * 7 + 2, none⟩ = some (.int .i64 xf) ∧ W.cell? ⟨b, off + q * 7 + 3, none⟩ = some (.int .i64 xt) ∧ W.cell? ⟨b, off + q * 7 + 4, none⟩ = some (.int .i64 xa) ∧ W.cell? ⟨b, off + q * 7 + 5, none⟩ = some (.int .i64 xl) ∧ W.cell? ⟨b, off + q * 7 + 6, none⟩ = some (.slice EA en ed) ∧ W.cell? ⟨w.heap.size, 0, none⟩ = some (.string ym) ∧ W.cell? ⟨w.heap.size, 1, none⟩ = some (.int .i64 yc) ∧ W.cell? ⟨w.heap.size, 2, none⟩ = some (.int .i64 yf) ∧ W.cell? ⟨w.heap.size, 3, none⟩ = some (.int .i64 yt) ∧ W.cell? ⟨w.heap.size, 4, none⟩ = some (.int .i64 ya) ∧ W.cell? ⟨w.heap.size, 5, none⟩ = some (.int .i64 yl) ∧ W.cell? ⟨w.heap.size, 6, none⟩ = some (.slice YA yn yd)) := fun W hW => by
        have g : ∀ o v, wr.cell? ⟨b, o, none⟩ = some v → W.cell? ⟨b, o, none⟩ = some v := fun o v hv => by rw [Below.cell hW (by exact hbl)]; exact hv
        obtain ⟨z0, z1, z2, z3, z4, z5, z6⟩ := HCY.out W (HGR.out.trans hW)
        exact ⟨g _ _ p0, g _ _ p1, g _ _ p2, g _ _ p3, g _ _ p4, g _ _ p5, g _ _ p6, z0, z1, z2, z3, z4, z5, z6⟩
      have i0 : (0 : Int) ≤ (q : Int) := by omega
      have i1 : (q : Int) < (xs.length : Int) := by omega
      have hBD : Gq wr wr.drew := (Gq.refl _).drew
      clear hbl hq
      go_wp2_with fail
      go_region_held3 (fun W => W.cell? ⟨b, off + q * 7, none⟩ = some (.string xm) ∧ W.cell? ⟨b, off + q * 7 + 1, none⟩ = some (.int .i64 xc) ∧ W.cell? ⟨b, off + q * 7 + 2, none⟩ = some (.int .i64 xf) ∧ W.cell? ⟨b, off + q * 7 + 3, none⟩ = some (.int .i64 xt) ∧ W.cell? ⟨b, off + q * 7 + 4, none⟩ = some (.int .i64 xa) ∧ W.cell? ⟨b, off + q * 7 + 5, none⟩ = some (.int .i64 xl) ∧ W.cell? ⟨b, off + q * 7 + 6, none⟩ = some (.slice EA en ed) ∧ W.cell? ⟨w.heap.size, 0, none⟩ = some (.string ym) ∧ W.cell? ⟨w.heap.size, 1, none⟩ = some (.int .i64 yc) ∧ W.cell? ⟨w.heap.size, 2, none⟩ = some (.int .i64 yf) ∧ W.cell? ⟨w.heap.size, 3, none⟩ = some (.int .i64 yt) ∧ W.cell? ⟨w.heap.size, 4, none⟩ = some (.int .i64 ya) ∧ W.cell? ⟨w.heap.size, 5, none⟩ = some (.int .i64 yl) ∧ W.cell? ⟨w.heap.size, 6, none⟩ = some (.slice YA yn yd))
        (first | exact HCB.out _ hBD | exact HCB.out _ hqB)
        (first | (go_at_call 24; refine (HOC.out _).mono ?_; rintro e wB ⟨rfl, hgB⟩; have hqB : Gq wr wB := by first | exact hBD.trans hgB | exact Gq.trans (below_drewN (Gq.refl _) _) hgB))
      all_goals
        have HGB : Hid (Gq w1 wB) := HGR.out.trans hqB
        clear hqB
        go_wp2_with fail
        go_meet
        case rel => exact ⟨by rw [HB0.out], HGB⟩
    case rest =>
    obtain ⟨rfl, HGC⟩ := hcut
    cases bb with
    | true =>
      have hk0 : 0 < k := by
        by_cases h : 0 < k
        · exact h
        · have h1 := HBB.out; rw [dif_neg h] at h1; cases h1
      obtain ⟨q, hq⟩ : ∃ q, k - 1 = q := ⟨_, rfl⟩
      have HHJ : Hid (∀ j (hj : j < xs.length), q ≤ j → 0 < cmpK xs[j].x Y.x) := fun j hj hqj => by
        by_cases h : k ≤ j
        · exact HHI.out j hj h
        · have h1 := HBB.out
          rw [dif_pos hk0] at h1
          have : j = k - 1 := by omega
          subst this
          exact of_decide_eq_true h1.symm
      have hw1 : IntKind.i64.wrap ((k : Int) - 1) = (q : Int) := by rw [IntKind.wrap_i64]; omega
      have hq2 : q < k := by omega
      clear hq HHI HBB HGR hk0
      go_wp2_with fail
      go_roundw
      case rel => exact ⟨q, by omega, by go_num, HHJ, HGC⟩
      case measure => simp [intOf]; omega
    | false =>
      have HPK : Hid (plcK CliM.x Y.x xs = k) := plcK_of hk HHI.out (fun j hj e => by
        subst e
        have h1 := HBB.out
        rw [dif_pos (by omega)] at h1
        exact of_decide_eq_false h1.symm)
      clear HHI HBB HGR
      have i0 : (0 : Int) ≤ (k : Int) := by omega
      have i1 : (k : Int) ≤ (c : Int) := by have := HCC.out; omega
      have i2 : (k : Int) ≤ (xs.length : Int) := by omega
      obtain ⟨T, hT⟩ : ∃ T, xs.take k = T := ⟨_, rfl⟩
      obtain ⟨D, hD⟩ : ∃ D, xs.drop k = D := ⟨_, rfl⟩
      have HTD : Hid (xs = T ++ D ∧ T.length = k ∧ D.length = xs.length - k) := by rw [← hT, ← hD]; exact ⟨(List.take_append_drop k xs).symm, by rw [List.length_take]; omega, by rw [List.length_drop]⟩
      have HPL : Hid (plc CliM.x xs Y = T ++ Y :: D) := by show _ = _; unfold plc; rw [HPK.out, hT, hD]
      have HRX : Hid (Rd wc A (T.flatMap CliM.cs ++ D.flatMap CliM.cs)) := by
        have := HRD.out.below HGC.out
        rw [HTD.out.1, List.flatMap_append] at this; exact this
      have HRT : Hid (Rd wc A (T.flatMap CliM.cs)) := Rd.left HRX.out
      have HTL : Hid ((T.flatMap CliM.cs).length = k * 7) := by show _ = _; rw [flat_len CliM.cs 7 (fun _ => rfl), HTD.out.2.1]
      have HSZ : Hid (w.heap.size ≤ wc.heap.size) := Below.size (HG1.out.trans HGC.out)
      clear hT hD HPK
      go_upto_region 6 with (at_builtin; refine wpList_append_rd (by rfl) (.tmp 23) (.tmp 26) 22 (by rfl) w.heap.size 52 ii _ 7 80 Tryz.underlying22 HII.out.1 HII.out.2.1 HII.out.2.2.1 HII.out.2.2.2 rfl (by decide) (.slice none 0 0) 0 [] (by rfl) (World.ownsRow_nil _ _ _ _) A k c (T.flatMap CliM.cs) (by rfl) HTL.out HRT.out (cli_oneP T) (by unfold maxLen; omega) (by omega) HSZ.out ?_; intro v5 w5 hown5 hg5; obtain ⟨y0, y1, y2, y3, y4, y5, y6⟩ := HCY.out w5 (HGC.out.trans (gq_none hg5)))
      have HO5 : Hid (w5.ownsRow w.heap.size 52 7 v5 k (T.flatMap CliM.cs)) := by
        have h1 := hown5
        rw [Nat.zero_add, List.nil_append] at h1; exact h1
      have HG5 : Hid (Gq wc w5) := ⟨hg5.os, hg5.tape, hg5.output, hg5.size, fun j hj => hg5.block j hj (by intro h; cases h)⟩
      obtain ⟨A5, c5, rfl⟩ := slice_of_own HO5.out
      have HGW5 : Hid (Gq w1 w5) := HGC.out.trans HG5.out
      have HSZ5 : Hid (w.heap.size ≤ w5.heap.size) := Nat.le_trans HSZ.out (Below.size HG5.out)
      clear hown5 hg5 HSZ
      go_upto_region 7 with (at_builtin; (refine wpList_append_lies _ rfl _ _ 22 rfl w.heap.size 52 ii _ 7 80 Tryz.underlying22 HII.out.1 HII.out.2.1 HII.out.2.2.1 HII.out.2.2.2 rfl (by decide) _ _ _ rfl (HO5.out.alloc _) ⟨w5.heap.size, 0, none⟩ 1 1 [.string ym, .int .i64 yc, .int .i64 yf, .int .i64 yt, .int .i64 ya, .int .i64 yl, .slice YA yn yd] (by rfl) (by rfl) (World.news_of_block (cs := #[.string ym, .int .i64 yc, .int .i64 yf, .int .i64 yt, .int .i64 ya, .int .i64 yl, .slice YA yn yd]) (t := 52) (fr := (0, 0)) (by exact heap_alloc_new w5 _)) (by simp [Value.oneCell']) (by decide) (by unfold maxLen; omega) (by omega) (by have := HSZ5.out; simp; omega) _ rfl ?_); intro g6 cap6 w6 hown6 hgrow6 hat6 hg6)
      have HO6 : Hid (w6.ownsRow w.heap.size 52 7 (.slice (some ⟨g6, 0, none⟩) (k + 1) cap6) (k + 1) (T.flatMap CliM.cs ++ Y.cs)) := by rw [HYC.out]; exact hown6
      clear hown6 y0 y1 y2 y3 y4 y5 y6
      have hgA : (w5.alloc (.cells #[.string ym, .int .i64 yc, .int .i64 yf, .int .i64 yt, .int .i64 ya, .int .i64 yl, .slice YA yn yd] 52)).grownBy w6 (Value.slice A5 k c5).ownBlock := hgrow6
      have hbl : Below w.heap.size w5 w6 := ((Below.refl _ w5).alloc HSZ5.out _).grown hgA (by have := HSZ5.out; simp; omega) (fun j hj => (HO5.out.lt j hj).1)
      have HG6 : Hid (Gq w w6) := Below.trans (HG1.out.trans HGW5.out) hbl
      have HRD6 : Hid (Rd w6 (if c = k then A else Option.map (fun x => x.add (k * 7)) A) (D.flatMap CliM.cs)) := by
        refine Rd.tail_ (xs := T.flatMap CliM.cs) ?_ HTL.out (fun e => ?_)
        · have h1 := HRD0.out
          rw [HTD.out.1, List.flatMap_append] at h1
          exact h1.below HG6.out
        · have h1 := HTD.out.2.2
          have h2 := HCC.out
          have : D = [] := List.eq_nil_of_length_eq_zero (by omega)
          rw [this]; rfl
      have HDL : Hid ((D.flatMap CliM.cs).length = (xs.length - k) * 7) := by show _ = _; rw [flat_len CliM.cs 7 (fun _ => rfl), HTD.out.2.2]
      have HSZ6 : Hid (w.heap.size ≤ w6.heap.size) := Below.size HG6.out
      have HK1 : Hid (k + 1 + (xs.length - k) = xs.length + 1) := by show _ = _; omega
      clear hgA hbl hgrow6 hat6 hg6 HG5 HGW5
      go_wp2_with (at_builtin; refine wpList_append_rd (by rfl) (.tmp 32) (.tmp 35) 22 (by rfl) w.heap.size 52 ii _ 7 80 Tryz.underlying22 HII.out.1 HII.out.2.1 HII.out.2.2.1 HII.out.2.2.2 rfl (by decide) (.slice (some ⟨g6, 0, none⟩) (k + 1) cap6) (k + 1) (T.flatMap CliM.cs ++ Y.cs) (by rfl) HO6.out (if c = k then A else Option.map (fun x => x.add (k * 7)) A) (xs.length - k) (c - k) (D.flatMap CliM.cs) (by rfl) HDL.out HRD6.out (cli_oneP D) (by unfold maxLen; omega) (by omega) HSZ6.out ?_; intro v7 w7 hown7 hg7)
      all_goals
        have HO7 : Hid (w7.ownsRow w.heap.size 52 7 v7 (xs.length + 1) ((plc CliM.x xs Y).flatMap CliM.cs)) := by
          have h1 := hown7
          rw [HK1.out] at h1
          rw [HPL.out, List.flatMap_append, List.flatMap_cons, ← List.append_assoc]; exact h1
        obtain ⟨A7, c7, rfl⟩ := slice_of_own HO7.out
        have HG7 : Hid (Gq w w7) := HG6.out.grown hg7 HSZ6.out (fun j hj => (HO6.out.lt j hj).1)
        clear hown7 hg7
        go_wp2_with fail
        go_ret
        exact ⟨A7, c7, rfl, HO7.out, HG7.out⟩
end Go.Proofs.YtmppccnioiodgabGreatDoor
/- The contract of the reference's Sorted. -/
namespace Go.Proofs.YtmppccnioiodgabGreatDoor
open Go.RowKit Go.Dw
attribute [local go_sem ↓] Go.wp_at_zero Go.wp_at_succ

theorem srtF_len (l : List CliM) : (srtF CliM.x l).length = l.length := (srt_perm CliM.x l).length_eq
set_option maxRecDepth 100000 in
set_option maxHeartbeats 8000000 in
theorem sortedR_any (A : Option Addr) (c : Nat) (xs : List CliM) (w : World) (h : Rd w A (xs.flatMap CliM.cs)) (hl : xs.length ≤ 1000000) :
    Calls Tryz.prog 44 #[.slice A xs.length c] w fun e w' => ∃ A' c', e = .returned (.slice A' xs.length c') ∧ w'.ownsRow w.heap.size 52 7 (.slice A' xs.length c') xs.length ((srtF CliM.x xs).flatMap CliM.cs) ∧ Gq w w' := by
  have HRD := Lib.hid h
  clear h
  go_enter Tryz.func44, Tryz.ntmps44
  go_wp2_with fail
  go_loopw [3, 4] (fun ov kv wq => ∃ (k : Nat) (AO : Option Addr) (cO : Nat), k ≤ xs.length ∧ kv = .int .i64 (k : Int) ∧ ov = .slice AO k cO ∧ Hid (wq.ownsRow w.heap.size 52 7 (.slice AO k cO) k ((srtF CliM.x (xs.take k)).flatMap CliM.cs)) ∧ Hid (Gq w wq)) (fun _ kv _ => xs.length - (intOf kv).toNat)
  case atStart => exact ⟨0, none, 0, Nat.zero_le _, rfl, rfl, by show World.ownsRow _ _ _ _ _ _ _; rw [List.take_zero]; exact World.ownsRow_nil _ _ _ _, Gq.refl _⟩
  case round =>
    obtain ⟨k, AO, cO, hk, rfl, rfl, HOW, HG⟩ := hrel
    by_cases hlt : k < xs.length
    case neg =>
      have hd0 : decide (k < xs.length) = false := by simpa using hlt
      have hke : k = xs.length := by omega
      subst hke
      have HO2 : Hid (wr.ownsRow w.heap.size 52 7 (.slice AO xs.length cO) xs.length ((srtF CliM.x xs).flatMap CliM.cs)) := by
        have h1 := HOW.out
        rw [List.take_length] at h1; exact h1
      clear HOW
      go_wp2_with fail
      go_ret
      exact ⟨AO, cO, rfl, HO2.out, HG.out⟩
    have hd0 : decide (k < xs.length) = true := by simpa using hlt
    have i0 : (0 : Int) ≤ (k : Int) := by omega
    have i1 : (k : Int) < (xs.length : Int) := by omega
    have hlen : (srtF CliM.x (xs.take k)).length = k := by rw [srtF_len, List.length_take]; omega
    have HNX : Hid (srtF CliM.x (xs.take (k + 1)) = plc CliM.x (srtF CliM.x (xs.take k)) xs[k]) := by
      show _ = _; rw [List.take_succ_eq_append_getElem hlt, srt_snoc]
    obtain ⟨b, off, rfl, hbb, hcs⟩ := cli_at (HRD.out.below HG.out) (show 0 < xs.length by omega)
    obtain ⟨p0, p1, p2, p3, p4, p5, p6⟩ := hcs k hlt
    have HPL : Hid (Calls Tryz.prog 41 #[.slice AO k cO, xs[k].v] wr fun e w' => ∃ A' c', e = .returned (.slice A' (k + 1) c') ∧ w'.ownsRow wr.heap.size 52 7 (.slice A' (k + 1) c') (k + 1) ((srtF CliM.x (xs.take (k + 1))).flatMap CliM.cs) ∧ Gq wr w') := by
      have hcap := own_cap HOW.out
      have := placed_any AO cO (srtF CliM.x (xs.take k)) xs[k] wr (by rw [hlen]; exact hcap.1) (Rd.of_own HOW.out) (by omega)
      rw [hlen, ← HNX.out] at this
      exact this
    have HSZ : Hid (w.heap.size ≤ wr.heap.size) := Below.size HG.out
    clear hcs hlen HNX
    obtain ⟨Z, hZ⟩ : ∃ X, xs[k] = X := ⟨_, rfl⟩
    rw [hZ] at p0 p1 p2 p3 p4 p5 p6 HPL
    clear hZ
    obtain ⟨xm, xc, xf, xt, xa, xl, ⟨EA, ed, es⟩⟩ := Z
    simp only [CliM.v, Slc.v] at p0 p1 p2 p3 p4 p5 p6 HPL
    generalize (es.length : Nat) = en at *
    go_wp2_with fail
    refine HPL.out.mono ?_
    rintro e w2 ⟨A', c', rfl, hown, hg⟩
    have HO2 : Hid (w2.ownsRow w.heap.size 52 7 (.slice A' (k + 1) c') (k + 1) ((srtF CliM.x (xs.take (k + 1))).flatMap CliM.cs)) := own_base hown HSZ.out
    have HG2 : Hid (Gq w w2) := HG.out.trans hg
    clear hown hg p0 p1 p2 p3 p4 p5 p6 HPL
    go_wp2_with fail
    go_roundw
    case rel => exact ⟨k + 1, A', c', hlt, by go_num, rfl, HO2, HG2⟩
    case measure => simp [intOf]; omega
end Go.Proofs.YtmppccnioiodgabGreatDoor
