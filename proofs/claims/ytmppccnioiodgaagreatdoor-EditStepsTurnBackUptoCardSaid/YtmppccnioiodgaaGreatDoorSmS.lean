/- The law's sameSteps at two lists that read alike. -/
import Derived.Test.YtmppccnioiodgaaGreatDoorStpZ
import Derived.Test.YtmppccnioiodgaaGreatDoorOrdR
import Derived.Test.YtmppccnioiodgaaGreatDoorEqPn
import Derived.Test.YtmppccnioiodgaaGreatDoorSam
import Derived.Test.YtmppccnioiodgaaGreatDoorSrtP
import Derived.Test.YtmppccnioiodgaaGreatDoorApdZ
import Derived.Deep.RegionHeld3
import Derived.Deep.DrawnRows
import Derived.Deep.DeepCutAuto
import Derived.Deep.CutBlock
import Derived.BigRegion
namespace Go.Proofs.YtmppccnioiodgaaGreatDoor
open Go.RowKit Go.Dw
attribute [local go_sem ↓] Go.wp_at_zero Go.wp_at_succ

theorem two_gq (w : World) (a b : Obj) : Gq w ((w.alloc a).alloc b).drew := ((Gq.refl w).alloc a |>.trans ((Gq.refl _).alloc b)).drew
theorem two_a (w : World) {T : TypeId} (cs : List Value) (b : Obj) : Blk ((w.alloc (.cells cs.toArray T)).alloc b).drew w.heap.size T cs := blkq (Blk.new w T cs) ((Gq.refl _).alloc b).drew
theorem two_b (w : World) {T : TypeId} (a : Obj) (cs : List Value) : Blk ((w.alloc a).alloc (.cells cs.toArray T)).drew (w.heap.size + 1) T cs := by
  have h := Blk.new (w.alloc a) T cs
  rw [World.size_alloc] at h; exact h
theorem cmpK_refl (a : Cli) : cmpK a a = 0 := by have := cmpK_neg a a; omega
set_option maxRecDepth 100000 in
set_option maxHeartbeats 8000000 in
theorem sameSteps_any (x y : Slc StpM) (w : World) (he : x.xs.map StpM.x = y.xs.map StpM.x) (hx : StsB 1048576 w x) (hy : StsB 1048576 w y) (hl : x.xs.length ≤ 1048576) :
    Calls Tryz.prog 8 #[x.v, y.v] w fun e w' => e = .returned (.bool true) ∧ Gq w w' := by
  obtain ⟨xA, xc, xs⟩ := x
  obtain ⟨yA, yc, ys⟩ := y
  have hln : xs.length = ys.length := by
    have := congrArg List.length he
    rw [List.length_map, List.length_map] at this; exact this
  have HEK : Hid (∀ k (h1 : k < xs.length) (h2 : k < ys.length), xs[k].kd = ys[k].kd ∧ xs[k].at_ = ys[k].at_ ∧ xs[k].by_ = ys[k].by_ ∧ xs[k].cs.xs.map CliM.x = ys[k].cs.xs.map CliM.x) := fun k h1 h2 => by
    have h3 : (xs.map StpM.x)[k]'(by rw [List.length_map]; exact h1) = (ys.map StpM.x)[k]'(by rw [List.length_map]; exact h2) := List.getElem_of_eq he _
    rw [List.getElem_map, List.getElem_map] at h3
    exact ⟨congrArg Stp.kd h3, congrArg Stp.at_ h3, congrArg Stp.by_ h3, congrArg Stp.cs h3⟩
  simp only [Slc.v]
  obtain ⟨n, hn⟩ : ∃ n, xs.length = n := ⟨_, rfl⟩
  rw [← hln, hn]
  have HLN : Hid (xs.length = n ∧ ys.length = n) := ⟨hn, by omega⟩
  have HX := Lib.hid hx
  have HY := Lib.hid hy
  have hn1 : n ≤ 1048576 := by rw [← hn]; exact hl
  have hd0 : ((n : Int) != (n : Int)) = false := by simp
  clear hx hy he hln hn hl
  go_enter Tryz.func8, Tryz.ntmps8
  go_wp2_with fail
  go_loopw [5] (fun kv wr => ∃ k : Nat, k ≤ n ∧ kv = .int .i64 (k : Int) ∧ Hid (Gq w wr)) (fun kv _ => n - (intOf kv).toNat)
  case atStart => exact ⟨0, Nat.zero_le _, rfl, Gq.refl _⟩
  case round =>
    obtain ⟨k, hk, rfl, HG⟩ := hrel
    by_cases hlt : k < n
    case neg =>
      have hd : decide (k < n) = false := by simpa using hlt
      go_wp2_with fail
      go_ret
      exact ⟨rfl, HG.out⟩
    have hd : decide (k < n) = true := by simpa using hlt
    have h1 : k < xs.length := by rw [HLN.out.1]; exact hlt
    have h2 : k < ys.length := by rw [HLN.out.2]; exact hlt
    obtain ⟨b, off, hA, hb, hc⟩ := stp_at (HX.out.r.below HG.out) (show 0 < xs.length by omega)
    obtain rfl : xA = some ⟨b, off, none⟩ := hA
    obtain ⟨b', off', hA', hb', hc'⟩ := stp_at (HY.out.r.below HG.out) (show 0 < ys.length by omega)
    obtain rfl : yA = some ⟨b', off', none⟩ := hA'
    obtain ⟨p0, p1, p2, p3⟩ := hc k h1
    obtain ⟨r0, r1, r2, r3⟩ := hc' k h2
    have HSX := Lib.hid (HX.out.o xs[k] (List.getElem_mem h1))
    have HSY := Lib.hid (HY.out.o ys[k] (List.getElem_mem h2))
    have HEE := Lib.hid (HEK.out k h1 h2)
    clear hc hc'
    obtain ⟨X, hX⟩ : ∃ X, xs[k] = X := ⟨_, rfl⟩
    obtain ⟨Y, hY⟩ : ∃ Y, ys[k] = Y := ⟨_, rfl⟩
    simp only [hX, hY] at p0 p1 p2 p3 r0 r1 r2 r3 HSX HSY HEE
    clear hX hY h1 h2
    obtain ⟨sk, ⟨sA, sc, sx⟩, sa, sb⟩ := X
    obtain ⟨sk', ⟨tA, tc, tx⟩, sa', sb'⟩ := Y
    obtain ⟨e1, e2, e3, e4⟩ := HEE.out
    obtain rfl : sk = sk' := e1
    obtain rfl : sa = sa' := e2
    obtain rfl : sb = sb' := e3
    have HCM : Hid (sx.map CliM.x = tx.map CliM.x) := e4
    obtain ⟨m, hm⟩ : ∃ m, sx.length = m := ⟨_, rfl⟩
    have hm2 : tx.length = m := by
      have := congrArg List.length e4
      rw [List.length_map, List.length_map] at this
      show tx.length = m
      have h : sx.length = tx.length := this
      omega
    have HMM : Hid (sx.length = m ∧ tx.length = m) := ⟨hm, hm2⟩
    simp only at p0 p1 p2 p3 r0 r1 r2 r3
    rw [hm] at p1
    rw [hm2] at r1
    clear HEE e4 hm hm2
    have i0 : (0 : Int) ≤ (k : Int) := by omega
    have i1 : (k : Int) < (n : Int) := by omega
    have it : ((k : Int)).toNat = k := by omega
    go_upto_region 6 with (fail)
    go_cut [6, 7] (fun u v wx => ∃ g1 g2 : Nat, u = .pointer (some ⟨g1, 0, none⟩) ∧ v = .pointer (some ⟨g2, 0, none⟩) ∧ Hid (Gq wr wx) ∧ Hid (Blk wx g1 38 [.int .i64 sk, .slice sA m sc, .int .i64 sa, .int .i64 sb]) ∧ Hid (Blk wx g2 38 [.int .i64 sk, .slice tA m tc, .int .i64 sa, .int .i64 sb]))
    case first =>
      go_wp2_with fail
      go_region
      all_goals
        go_wp2_with fail
        go_meet
        case rel => first | exact ⟨wr.heap.size, wr.heap.size + 1, rfl, rfl, two_gq wr _ _, two_a wr _ _, two_b wr _ _⟩ | exact ⟨wr.heap.size + 1, wr.heap.size, rfl, rfl, two_gq wr _ _, two_b wr _ _, two_a wr _ _⟩
    case rest =>
      obtain ⟨g1, g2, rfl, rfl, HGC, HK1, HK2⟩ := hcut
      clear p0 p1 p2 p3 r0 r1 r2 r3 i0 i1 it hb hb'
      have HGW : Hid (Gq w wc) := HG.out.trans HGC.out
      clear HG HGC
      have HCE : Hid (∀ W, Gq wc W → (W.cell? ⟨g1, 0, none⟩ = some (.int .i64 sk) ∧ W.cell? ⟨g1, 1, none⟩ = some (.slice sA m sc) ∧ W.cell? ⟨g1, 2, none⟩ = some (.int .i64 sa) ∧ W.cell? ⟨g1, 3, none⟩ = some (.int .i64 sb)) ∧ W.cell? ⟨g2, 0, none⟩ = some (.int .i64 sk) ∧ W.cell? ⟨g2, 1, none⟩ = some (.slice tA m tc) ∧ W.cell? ⟨g2, 2, none⟩ = some (.int .i64 sa) ∧ W.cell? ⟨g2, 3, none⟩ = some (.int .i64 sb)) := fun W hW => by
        have k1 := blkq HK1.out hW
        have k2 := blkq HK2.out hW
        exact ⟨⟨k1.cell 0, k1.cell 1, k1.cell 2, k1.cell 3⟩, k2.cell 0, k2.cell 1, k2.cell 2, k2.cell 3⟩
      obtain ⟨⟨c0, c1, c2, c3⟩, d0, d1, d2, d3⟩ := HCE.out wc (Gq.refl _)
      have q0 : (sk != sk) = false := by simp
      have q1 : (sa != sa) = false := by simp
      have q2 : (sb != sb) = false := by simp
      have q3 : ((m : Int) != (m : Int)) = false := by simp
      have hmB : m ≤ 1048576 := by have := HSX.out.n; have h := HMM.out.1; have h2 : sx.length ≤ 1048576 := this; omega
      have HKL : Hid (k < n) := hlt
      clear hlt
      go_wp2_with fail
      go_loopw [8] (fun jv wq => ∃ j : Nat, j ≤ m ∧ jv = .int .i64 (j : Int) ∧ Hid (Gq wc wq)) (fun jv _ => m - (intOf jv).toNat)
      case atStart => exact ⟨0, Nat.zero_le _, rfl, Gq.refl _⟩
      case round =>
        obtain ⟨j, hj, rfl, HGJ⟩ := hrel
        clear c0 c1 c2 c3 d0 d1 d2 d3
        obtain ⟨⟨c0, c1, c2, c3⟩, d0, d1, d2, d3⟩ := HCE.out wr HGJ.out
        by_cases hjt : j < m
        case neg =>
          have hd : decide (j < m) = false := by simpa using hjt
          have hkl := HKL.out
          clear hjt
          go_wp2_with fail
          go_roundw
          case rel => exact ⟨k + 1, by omega, by go_num, HGW.out.trans HGJ.out⟩
          case measure => simp [intOf]; omega
        have hd : decide (j < m) = true := by simpa using hjt
        have HGX : Hid (Gq w wr) := HGW.out.trans HGJ.out
        have hj1 : j < sx.length := by rw [HMM.out.1]; exact hjt
        have hj2 : j < tx.length := by rw [HMM.out.2]; exact hjt
        obtain ⟨b1, o1, hA1, hb1, x0, x1, x2, x3, x4, x5, x6⟩ := cli_one (HSX.out.o.cr.below HGX.out) hj1
        obtain ⟨b2, o2, hA2, hb2, y0, y1, y2, y3, y4, y5, y6⟩ := cli_one (HSY.out.o.cr.below HGX.out) hj2
        simp only at hA1 hA2
        subst hA1 hA2
        have hex : (sx[j]).x = (tx[j]).x := by
          have h3 : (sx.map CliM.x)[j]'(by rw [List.length_map]; exact hj1) = (tx.map CliM.x)[j]'(by rw [List.length_map]; exact hj2) := List.getElem_of_eq HCM.out _
          rw [List.getElem_map, List.getElem_map] at h3; exact h3
        have HOR : Hid (∀ W, Gq wr W → Calls Tryz.prog 16 #[(sx[j]).v, (tx[j]).v] W fun e w' => e = .returned (.int .i64 0) ∧ Gq wr w') := fun W hW => by
          have h := order_any (sx[j]) (tx[j]) W
          rw [hex, cmpK_refl] at h
          exact h.mono fun _ _ h => ⟨h.1, hW.trans h.2⟩
        have HXO := Lib.hid ((HSX.out.o.co sx[j] (List.getElem_mem hj1)).below HGX.out)
        have HYO := Lib.hid ((HSY.out.o.co tx[j] (List.getElem_mem hj2)).below HGX.out)
        have HEX : Hid ((sx[j]).x = (tx[j]).x) := hex
        clear hex
        obtain ⟨XC, hXC⟩ : ∃ c, sx[j] = c := ⟨_, rfl⟩
        obtain ⟨YC, hYC⟩ : ∃ c, tx[j] = c := ⟨_, rfl⟩
        simp only [hXC, hYC] at x0 x1 x2 x3 x4 x5 x6 y0 y1 y2 y3 y4 y5 y6 HOR HXO HYO HEX
        clear hXC hYC hj1 hj2
        obtain ⟨xm, xq, xf, xt, xa, xl, ⟨EA, ed, es⟩⟩ := XC
        obtain ⟨ym, yq, yf, yt, ya, yl, ⟨FA, fd, fs⟩⟩ := YC
        have hes : es = fs := congrArg Cli.e HEX.out
        have HEQ : Hid (∀ W, Gq wr W → Calls Tryz.prog 17 #[.slice EA es.length ed, .slice FA es.length fd] W fun e w' => e = .returned (.bool true) ∧ Gq wr w') := fun W hW =>
          (equalPn_any EA FA ed fd es W (HXO.out.er.below hW) (by have := HYO.out.er.below hW; rw [hes]; exact this) HXO.out.el).mono fun e w' h => ⟨h.1, by obtain ⟨n, hn⟩ := h.2; rw [hn]; exact below_drewN hW n⟩
        simp only [CliM.v, Slc.v] at HOR x0 x1 x2 x3 x4 x5 x6 y0 y1 y2 y3 y4 y5 y6
        rw [← hes] at HOR y6
        obtain ⟨en, hen⟩ : ∃ en : Nat, es.length = en := ⟨_, rfl⟩
        rw [hen] at HOR HEQ x6 y6
        clear hes hen HEX HXO HYO
        have j0 : (0 : Int) ≤ (j : Int) := by omega
        have j1 : (j : Int) < (m : Int) := by omega
        have jt : ((j : Int)).toNat = j := by omega
        have HS : Hid (∀ W, Gq wr W → W.cell? ⟨g1, 1, none⟩ = some (.slice (some ⟨b1, o1, none⟩) m sc) ∧ W.cell? ⟨g2, 1, none⟩ = some (.slice (some ⟨b2, o2, none⟩) m tc) ∧ W.cell? ⟨b1, o1 + j * 7, none⟩ = some (.string xm) ∧ W.cell? ⟨b1, o1 + j * 7 + 1, none⟩ = some (.int .i64 xq) ∧ W.cell? ⟨b1, o1 + j * 7 + 2, none⟩ = some (.int .i64 xf) ∧ W.cell? ⟨b1, o1 + j * 7 + 3, none⟩ = some (.int .i64 xt) ∧ W.cell? ⟨b1, o1 + j * 7 + 4, none⟩ = some (.int .i64 xa) ∧ W.cell? ⟨b1, o1 + j * 7 + 5, none⟩ = some (.int .i64 xl) ∧ W.cell? ⟨b1, o1 + j * 7 + 6, none⟩ = some (.slice EA en ed) ∧ W.cell? ⟨b2, o2 + j * 7, none⟩ = some (.string ym) ∧ W.cell? ⟨b2, o2 + j * 7 + 1, none⟩ = some (.int .i64 yq) ∧ W.cell? ⟨b2, o2 + j * 7 + 2, none⟩ = some (.int .i64 yf) ∧ W.cell? ⟨b2, o2 + j * 7 + 3, none⟩ = some (.int .i64 yt) ∧ W.cell? ⟨b2, o2 + j * 7 + 4, none⟩ = some (.int .i64 ya) ∧ W.cell? ⟨b2, o2 + j * 7 + 5, none⟩ = some (.int .i64 yl) ∧ W.cell? ⟨b2, o2 + j * 7 + 6, none⟩ = some (.slice FA en fd) ∧ Gq wr W) := fun W hW => by
          obtain ⟨⟨_, a1, _, _⟩, _, a2, _, _⟩ := HCE.out W (HGJ.out.trans hW)
          have qx := fun i (u : Value) (hu : wr.cell? ⟨b1, i, none⟩ = some u) => (Below.cell hW (p := ⟨b1, i, none⟩) (by exact hb1)).trans hu
          have qy := fun i (u : Value) (hu : wr.cell? ⟨b2, i, none⟩ = some u) => (Below.cell hW (p := ⟨b2, i, none⟩) (by exact hb2)).trans hu
          exact ⟨a1, a2, qx _ _ x0, qx _ _ x1, qx _ _ x2, qx _ _ x3, qx _ _ x4, qx _ _ x5, qx _ _ x6, qy _ _ y0, qy _ _ y1, qy _ _ y2, qy _ _ y3, qy _ _ y4, qy _ _ y5, qy _ _ y6, hW⟩
        have hBD : Gq wr wr.drew := (Gq.refl _).drew
        have hBR : Gq wr wr := Gq.refl _
        clear x0 x1 x2 x3 x4 x5 x6 y0 y1 y2 y3 y4 y5 y6 hb1 hb2
        go_upto_region 12 with (fail)
        go_cut [90] (fun v wx => v = .bool false ∧ Hid (Gq wr wx))
        case first =>
          clear c0 c1 c2 c3 d0 d1 d2 d3
          go_wp2_with fail
          go_region_held3 (fun W => W.cell? ⟨g1, 1, none⟩ = some (.slice (some ⟨b1, o1, none⟩) m sc) ∧ W.cell? ⟨g2, 1, none⟩ = some (.slice (some ⟨b2, o2, none⟩) m tc) ∧ W.cell? ⟨b1, o1 + j * 7, none⟩ = some (.string xm) ∧ W.cell? ⟨b1, o1 + j * 7 + 1, none⟩ = some (.int .i64 xq) ∧ W.cell? ⟨b1, o1 + j * 7 + 2, none⟩ = some (.int .i64 xf) ∧ W.cell? ⟨b1, o1 + j * 7 + 3, none⟩ = some (.int .i64 xt) ∧ W.cell? ⟨b1, o1 + j * 7 + 4, none⟩ = some (.int .i64 xa) ∧ W.cell? ⟨b1, o1 + j * 7 + 5, none⟩ = some (.int .i64 xl) ∧ W.cell? ⟨b1, o1 + j * 7 + 6, none⟩ = some (.slice EA en ed) ∧ W.cell? ⟨b2, o2 + j * 7, none⟩ = some (.string ym) ∧ W.cell? ⟨b2, o2 + j * 7 + 1, none⟩ = some (.int .i64 yq) ∧ W.cell? ⟨b2, o2 + j * 7 + 2, none⟩ = some (.int .i64 yf) ∧ W.cell? ⟨b2, o2 + j * 7 + 3, none⟩ = some (.int .i64 yt) ∧ W.cell? ⟨b2, o2 + j * 7 + 4, none⟩ = some (.int .i64 ya) ∧ W.cell? ⟨b2, o2 + j * 7 + 5, none⟩ = some (.int .i64 yl) ∧ W.cell? ⟨b2, o2 + j * 7 + 6, none⟩ = some (.slice FA en fd) ∧ Gq wr W)
            (first | exact HS.out _ hBD | exact HS.out _ hBR | exact HS.out _ (by assumption) | exact HS.out _ (Gq.trans hBD (by assumption)))
            (first | (go_at_call 16; with_reducible refine (HOR.out _ (by first | assumption | (go_split_ands; assumption))).mono ?_; rintro e wB ⟨rfl, hqB⟩) | (go_at_call 17; with_reducible refine (HEQ.out _ (by first | assumption | (go_split_ands; assumption))).mono ?_; rintro e wB ⟨rfl, hqB⟩))
          all_goals
            go_wp2_with fail
            go_meet
            case rel => exact ⟨rfl, by first | assumption | (show Gq _ _; assumption)⟩
        case rest =>
          obtain ⟨rfl, HGC2⟩ := hcut
          go_wp2_with fail
          go_roundw
          case rel => exact ⟨j + 1, by omega, by go_num, HGJ.out.trans HGC2.out⟩
          case measure => simp [intOf]; omega
end Go.Proofs.YtmppccnioiodgaaGreatDoor
