/- The contract of the reference's without. -/
import Derived.Test.YtmppccnioiodgabGreatDoorRefJ
import Derived.Test.YtmppccnioiodgabGreatDoorSmcZ
import Derived.Test.YtmppccnioiodgabGreatDoorStpZ
namespace Go.Proofs.YtmppccnioiodgabGreatDoor
open Go.RowKit Go.Dw
attribute [local go_sem ↓] Go.wp_at_zero Go.wp_at_succ

set_option maxRecDepth 100000 in
set_option maxHeartbeats 8000000 in
theorem without_any (A : Option Addr) (c : Nat) (xs : List CliM) (y : CliM) (w : World) (hc : xs.length ≤ c) (h : Rd w A (xs.flatMap CliM.cs)) (hx : ∀ x ∈ xs, CliOk w x) (hy : CliOk w y) (hl : xs.length ≤ 1000000000) :
    Calls Tryz.prog 42 #[.slice A xs.length c, y.v] w fun e w' => Gq w w' ∧ ((remF CliM.x y.x xs = none ∧ e = .returned (.tuple #[.slice none 0 0, .bool false])) ∨ ∃ m A' c', remF CliM.x y.x xs = some m ∧ e = .returned (.tuple #[.slice A' (xs.length - 1) c', .bool true]) ∧ w'.ownsRow w.heap.size 52 7 (.slice A' (xs.length - 1) c') (xs.length - 1) (m.flatMap CliM.cs)) := by
  obtain ⟨Y, hY⟩ : ∃ Y, y = Y := ⟨_, rfl⟩
  have HSC : Hid (∀ x ∈ xs, ∀ W, Gq w W → Calls Tryz.prog 60 #[x.v, Y.v] W fun e w' => e = .returned (.bool (decide (x.x = Y.x))) ∧ Gq W w') := fun x hxm W hW => sameClip_any x Y _ decide_eq_true_iff W ((hx x hxm).below hW) (by rw [← hY]; exact hy.below hW)
  rw [hY]
  obtain ⟨ym, yc, yf, yt, ya, yl, ⟨YA, yd, yes⟩⟩ := y
  obtain ⟨yn, hyn⟩ : ∃ n, yes.length = n := ⟨_, rfl⟩
  have HYV : Hid (Y.v = .agg #[.string ym, .int .i64 yc, .int .i64 yf, .int .i64 yt, .int .i64 ya, .int .i64 yl, .slice YA yn yd]) := by show _ = _; rw [← hY, ← hyn]; rfl
  rw [HYV.out] at HSC ⊢
  clear hY hyn hx hy
  obtain ⟨w1, hw1⟩ : ∃ w1, w1 = w.alloc (.cells #[.string ym, .int .i64 yc, .int .i64 yf, .int .i64 yt, .int .i64 ya, .int .i64 yl, .slice YA yn yd] 52) := ⟨_, rfl⟩
  have HG1 : Hid (Gq w w1) := by rw [hw1]; exact (Gq.refl _).alloc _
  have HKY : Hid (Blk w1 w.heap.size 52 [.string ym, .int .i64 yc, .int .i64 yf, .int .i64 yt, .int .i64 ya, .int .i64 yl, .slice YA yn yd]) := by rw [hw1]; exact Blk.new w _ _
  have HCY : Hid (∀ W, Gq w1 W → W.cell? ⟨w.heap.size, 0, none⟩ = some (.string ym) ∧ W.cell? ⟨w.heap.size, 1, none⟩ = some (.int .i64 yc) ∧ W.cell? ⟨w.heap.size, 2, none⟩ = some (.int .i64 yf) ∧ W.cell? ⟨w.heap.size, 3, none⟩ = some (.int .i64 yt) ∧ W.cell? ⟨w.heap.size, 4, none⟩ = some (.int .i64 ya) ∧ W.cell? ⟨w.heap.size, 5, none⟩ = some (.int .i64 yl) ∧ W.cell? ⟨w.heap.size, 6, none⟩ = some (.slice YA yn yd)) := fun W hW => by
    have k1 := blkq HKY.out hW
    exact ⟨k1.cell 0, k1.cell 1, k1.cell 2, k1.cell 3, k1.cell 4, k1.cell 5, k1.cell 6⟩
  have HRD : Hid (Rd w1 A (xs.flatMap CliM.cs)) := h.below HG1.out
  have HCC : Hid (xs.length ≤ c) := hc
  obtain ⟨ii, hii, hzi0, hzi1, hzi2⟩ := info_parts infoClP
  have HII := Lib.hid (And.intro hii (And.intro hzi0 (And.intro hzi1 hzi2)))
  have HW1 := Lib.hid hw1
  clear hw1 h hc hii hzi0 hzi1 hzi2
  go_enter Tryz.func42, Tryz.ntmps42
  go_upto_region 1 with (fail)
  rw [← HW1.out]
  go_wp2_with fail
  go_loopw [6] (fun kv wr => ∃ k : Nat, k ≤ xs.length ∧ kv = .int .i64 (k : Int) ∧ Hid (∀ j (_hj : j < k) (hl : j < xs.length), xs[j].x ≠ Y.x) ∧ Hid (Gq w1 wr)) (fun kv _ => xs.length - (intOf kv).toNat)
  case atStart => exact ⟨0, Nat.zero_le _, rfl, fun j hj => absurd hj (Nat.not_lt_zero _), Gq.refl _⟩
  case round =>
    obtain ⟨k, hk, rfl, HN, HGR⟩ := hrel
    have HGW : Hid (Gq w wr) := HG1.out.trans HGR.out
    by_cases hlt : k < xs.length
    case neg =>
      have hd : decide (k < xs.length) = false := by simpa using hlt
      have HE : Hid (remF CliM.x Y.x xs = none) := remF_none _ _ _ fun z hz => by
        obtain ⟨j, hj, rfl⟩ := List.getElem_of_mem hz
        exact HN.out j (by omega) hj
      clear hlt
      go_wp2_with fail
      go_ret2
      exact ⟨HGW.out, .inl ⟨HE.out, rfl⟩⟩
    have hd : decide (k < xs.length) = true := by simpa using hlt
    obtain ⟨q, hq⟩ : ∃ q : Bool, decide (xs[k].x = Y.x) = q := ⟨_, rfl⟩
    have HSK : Hid (∀ W, Gq wr W → Calls Tryz.prog 60 #[xs[k].v, .agg #[.string ym, .int .i64 yc, .int .i64 yf, .int .i64 yt, .int .i64 ya, .int .i64 yl, .slice YA yn yd]] W fun e w' => e = .returned (.bool q) ∧ Gq wr w') := fun W hW => by
      have := HSC.out xs[k] (List.getElem_mem hlt) W (HGW.out.trans hW)
      rw [hq] at this
      exact this.mono fun _ _ h => ⟨h.1, hW.trans h.2⟩
    have HQT : Hid (q = true → remF CliM.x Y.x xs = some (xs.take k ++ xs.drop (k + 1))) := fun h => by
      rw [← hq] at h
      exact remF_at _ _ _ k hlt (fun j hj => HN.out j hj (by omega)) (of_decide_eq_true h)
    have HQF : Hid (q = false → ∀ j (_hj : j < k + 1) (hl : j < xs.length), xs[j].x ≠ Y.x) := fun h j hj hl e => by
      by_cases hjk : j = k
      · subst hjk; rw [← hq] at h; exact of_decide_eq_false h e
      · exact HN.out j (by omega) hl e
    obtain ⟨b, off, hA, hb, hc⟩ := cli_at (HRD.out.below HGR.out) (by omega)
    obtain rfl : A = some ⟨b, off, none⟩ := hA
    obtain ⟨x0, x1, x2, x3, x4, x5, x6⟩ := hc k hlt
    obtain ⟨y0, y1, y2, y3, y4, y5, y6⟩ := HCY.out wr HGR.out
    obtain ⟨xi, hxi⟩ : ∃ xi, xs[k] = xi := ⟨_, rfl⟩
    rw [hxi] at x0 x1 x2 x3 x4 x5 x6 HSK
    clear hxi hq hc
    obtain ⟨xm, xc, xf, xt, xa, xl, ⟨xA, xd, xe⟩⟩ := xi
    simp only [CliM.v, Slc.v] at HSK x0 x1 x2 x3 x4 x5 x6
    generalize (xe.length : Nat) = xn at HSK x6
    have hcut0 : Gq wr wr.drew := (Gq.refl _).drew
    have hcut1 : Gq wr wr := Gq.refl _
    have HS : Hid (∀ W, Gq wr W → W.cell? ⟨b, off + k * 7, none⟩ = some (.string xm) ∧ W.cell? ⟨b, off + k * 7 + 1, none⟩ = some (.int .i64 xc) ∧ W.cell? ⟨b, off + k * 7 + 2, none⟩ = some (.int .i64 xf) ∧ W.cell? ⟨b, off + k * 7 + 3, none⟩ = some (.int .i64 xt) ∧ W.cell? ⟨b, off + k * 7 + 4, none⟩ = some (.int .i64 xa) ∧ W.cell? ⟨b, off + k * 7 + 5, none⟩ = some (.int .i64 xl) ∧ W.cell? ⟨b, off + k * 7 + 6, none⟩ = some (.slice xA xn xd) ∧ W.cell? ⟨w.heap.size, 0, none⟩ = some (.string ym) ∧ W.cell? ⟨w.heap.size, 1, none⟩ = some (.int .i64 yc) ∧ W.cell? ⟨w.heap.size, 2, none⟩ = some (.int .i64 yf) ∧ W.cell? ⟨w.heap.size, 3, none⟩ = some (.int .i64 yt) ∧ W.cell? ⟨w.heap.size, 4, none⟩ = some (.int .i64 ya) ∧ W.cell? ⟨w.heap.size, 5, none⟩ = some (.int .i64 yl) ∧ W.cell? ⟨w.heap.size, 6, none⟩ = some (.slice YA yn yd) ∧ Gq wr W) := fun W hW => by
      have qx := fun i (u : Value) (hu : wr.cell? ⟨b, i, none⟩ = some u) => (Below.cell hW (p := ⟨b, i, none⟩) (by exact hb)).trans hu
      obtain ⟨z0, z1, z2, z3, z4, z5, z6⟩ := HCY.out W (HGR.out.trans hW)
      exact ⟨qx _ _ x0, qx _ _ x1, qx _ _ x2, qx _ _ x3, qx _ _ x4, qx _ _ x5, qx _ _ x6, z0, z1, z2, z3, z4, z5, z6, hW⟩
    clear x0 x1 x2 x3 x4 x5 x6 y0 y1 y2 y3 y4 y5 y6
    go_upto_region 4 with (fail)
    go_cut [19] (fun v wx => v = .bool q ∧ Hid (Gq wr wx))
    case first =>
      go_wp2_with fail
      go_region_held3 (fun W => W.cell? ⟨b, off + k * 7, none⟩ = some (.string xm) ∧ W.cell? ⟨b, off + k * 7 + 1, none⟩ = some (.int .i64 xc) ∧ W.cell? ⟨b, off + k * 7 + 2, none⟩ = some (.int .i64 xf) ∧ W.cell? ⟨b, off + k * 7 + 3, none⟩ = some (.int .i64 xt) ∧ W.cell? ⟨b, off + k * 7 + 4, none⟩ = some (.int .i64 xa) ∧ W.cell? ⟨b, off + k * 7 + 5, none⟩ = some (.int .i64 xl) ∧ W.cell? ⟨b, off + k * 7 + 6, none⟩ = some (.slice xA xn xd) ∧ W.cell? ⟨w.heap.size, 0, none⟩ = some (.string ym) ∧ W.cell? ⟨w.heap.size, 1, none⟩ = some (.int .i64 yc) ∧ W.cell? ⟨w.heap.size, 2, none⟩ = some (.int .i64 yf) ∧ W.cell? ⟨w.heap.size, 3, none⟩ = some (.int .i64 yt) ∧ W.cell? ⟨w.heap.size, 4, none⟩ = some (.int .i64 ya) ∧ W.cell? ⟨w.heap.size, 5, none⟩ = some (.int .i64 yl) ∧ W.cell? ⟨w.heap.size, 6, none⟩ = some (.slice YA yn yd) ∧ Gq wr W)
        (first | exact HS.out _ hcut0 | exact HS.out _ hcut1 | exact HS.out _ (Gq.trans hcut0 (by assumption)) | exact HS.out _ (Gq.trans hcut1 (by assumption)))
        (first | (go_at_call 60; with_reducible refine (HSK.out _ (by first | assumption | (go_split_ands; assumption))).mono ?_; rintro e wB ⟨rfl, hqB⟩))
      all_goals
        go_wp2_with fail
        go_meet
        case rel => exact ⟨rfl, by first | assumption | (show Gq _ _; assumption)⟩
    case rest =>
      obtain ⟨rfl, HGC⟩ := hcut
      have HGC2 : Hid (Gq w1 wc) := HGR.out.trans HGC.out
      cases q with
      | false =>
        have HN2 := Lib.hid (HQF.out rfl)
        go_wp2_with fail
        go_roundw
        case rel => exact ⟨k + 1, by omega, by go_num, HN2.out, HGC2⟩
        case measure => simp [intOf]; omega
      | true =>
        have HE := Lib.hid (HQT.out rfl)
        obtain ⟨T, hT⟩ : ∃ T, xs.take k = T := ⟨_, rfl⟩
        obtain ⟨D, hD⟩ : ∃ D, xs.drop (k + 1) = D := ⟨_, rfl⟩
        have HTL : Hid ((T.flatMap CliM.cs).length = k * 7) := by show _ = _; rw [flat_len CliM.cs 7 (fun _ => rfl), ← hT, List.length_take]; congr 1; omega
        have HDL : Hid ((D.flatMap CliM.cs).length = (xs.length - (k + 1)) * 7) := by show _ = _; rw [flat_len CliM.cs 7 (fun _ => rfl), ← hD, List.length_drop]
        have HALL : Hid (xs.flatMap CliM.cs = T.flatMap CliM.cs ++ (xs[k].cs ++ D.flatMap CliM.cs)) := by
          show _ = _
          rw [← hT, ← hD, ← List.flatMap_cons, ← List.drop_eq_getElem_cons hlt, ← List.flatMap_append, List.take_append_drop]
        have HRX : Hid (Rd wc (some ⟨b, off, none⟩) (xs.flatMap CliM.cs)) := HRD.out.below HGC2
        have HRT : Hid (Rd wc (some ⟨b, off, none⟩) (T.flatMap CliM.cs)) := by
          have h1 := HRX.out
          rw [HALL.out] at h1
          exact Rd.left h1
        obtain ⟨A2, hA2⟩ : ∃ A2, (if c = k + 1 then some (⟨b, off, none⟩ : Addr) else some ⟨b, off + (k + 1) * 7, none⟩) = A2 := ⟨_, rfl⟩
        have HRD2 : Hid (∀ W, Gq wc W → Rd W A2 (D.flatMap CliM.cs)) := fun W hW => by
          have h1 := HRX.out.below hW
          rw [HALL.out, ← List.append_assoc] at h1
          have hl7 : (T.flatMap CliM.cs ++ xs[k].cs).length = (k + 1) * 7 := by rw [List.length_append, HTL.out, Nat.add_mul]; rfl
          by_cases h2 : c = k + 1
          · have h3 := HCC.out
            have h4 : D = [] := by rw [← hD]; exact List.drop_eq_nil_of_le (by omega)
            rw [h4]; exact .inl rfl
          · rw [← hA2, if_neg h2, ← hl7]
            have := Rd.part (zs := []) (by rw [List.append_nil]; exact h1)
            exact this
        have HSZ : Hid (w.heap.size ≤ wc.heap.size) := Below.size (HG1.out.trans HGC2)
        have hk1 : (0 : Int) ≤ (k : Int) + 1 := by omega
        have hk2 : (k : Int) + 1 ≤ (xs.length : Int) := by omega
        have hkc : k + 1 ≤ c := by have := HCC.out; omega
        have W1 : IntKind.i64.wrap ((k : Int) + 1) = (k : Int) + 1 := IntWalk.i64_in _ (by omega)
        have HMM : Hid ((xs.take k ++ xs.drop (k + 1)).flatMap CliM.cs = T.flatMap CliM.cs ++ D.flatMap CliM.cs) := by show _ = _; rw [hT, hD, List.flatMap_append]
        have HK1 : Hid (k + (xs.length - (k + 1)) = xs.length - 1) := by show _ = _; omega
        clear hT hD HALL
        go_upto_region 7 with (at_builtin; refine wpList_append_rd (by rfl) (.tmp 20) (.tmp 23) 22 (by rfl) w.heap.size 52 ii _ 7 80 Tryz.underlying22 HII.out.1 HII.out.2.1 HII.out.2.2.1 HII.out.2.2.2 rfl (by decide) (.slice none 0 0) 0 [] (by rfl) (World.ownsRow_nil _ _ _ _) (some ⟨b, off, none⟩) k c (T.flatMap CliM.cs) (by rfl) HTL.out HRT.out (cli_oneP T) (by unfold maxLen; omega) (by omega) HSZ.out ?_; intro v5 w5 hown5 hg5)
        have HO5 : Hid (w5.ownsRow w.heap.size 52 7 v5 k (T.flatMap CliM.cs)) := by
          have h1 := hown5
          rw [Nat.zero_add, List.nil_append] at h1; exact h1
        have HG5 : Hid (Gq wc w5) := gq_none hg5
        have HGW5 : Hid (Gq w w5) := HG1.out.trans (HGC2.trans HG5.out)
        obtain ⟨A5, q5, rfl⟩ := slice_of_own HO5.out
        have HR5 := Lib.hid (HRD2.out w5 HG5.out)
        have HSZ5 : Hid (w.heap.size ≤ w5.heap.size) := Below.size HGW5.out
        clear hown5 hg5 HRD2 HRX HRT
        go_wp2_with (at_builtin; refine wpList_append_rd (by rfl) (.tmp 25) (.tmp 29) 22 (by rfl) w.heap.size 52 ii _ 7 80 Tryz.underlying22 HII.out.1 HII.out.2.1 HII.out.2.2.1 HII.out.2.2.2 rfl (by decide) (.slice A5 k q5) k (T.flatMap CliM.cs) (by rfl) HO5.out A2 (xs.length - (k + 1)) (c - (k + 1)) (D.flatMap CliM.cs) (by rfl) HDL.out HR5.out (cli_oneP D) (by unfold maxLen; omega) (by omega) HSZ5.out ?_; intro v7 w7 hown7 hg7)
        have HO7 : Hid (w7.ownsRow w.heap.size 52 7 v7 (xs.length - 1) ((xs.take k ++ xs.drop (k + 1)).flatMap CliM.cs)) := by
          have h1 := hown7
          rw [HK1.out] at h1
          rw [HMM.out]; exact h1
        obtain ⟨A7, c7, rfl⟩ := slice_of_own HO7.out
        have HG7 : Hid (Gq w w7) := HGW5.out.grown hg7 HSZ5.out (fun j hj => (HO5.out.lt j hj).1)
        clear hown7 hg7
        go_wp2_with fail
        go_ret2
        exact ⟨HG7.out, .inr (by first | exact ⟨_, HE.out, A7, c7, rfl, HO7.out⟩ | exact ⟨_, A7, c7, HE.out, rfl, HO7.out⟩)⟩
end Go.Proofs.YtmppccnioiodgabGreatDoor
