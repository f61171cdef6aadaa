/- Several texts laid into one: The law's sameSteps at two lists that read alike; How edits that came in read, with their clips' capacity; Generated (gen/app.py): the walk of EditAppliesMatchSpec; -/
import Derived.Test.YtmppccnioiodgabGreatDoorStpZ
import Derived.Test.YtmppccnioiodgabGreatDoorOrdR
import Derived.Test.YtmppccnioiodgabGreatDoorSamZ
import Derived.Test.YtmppccnioiodgabGreatDoorSrtP
import Derived.Test.YtmppccnioiodgabGreatDoorApdZ
import Derived.Deep.RegionHeld3
import Derived.Deep.DrawnRows
import Derived.Deep.DeepCutAuto
import Derived.Deep.CutBlock
import Derived.BigRegion
import Derived.Test.YtmppccnioiodgabGreatDoorEdtZ
import Derived.Test.YtmppccnioiodgabGreatDoorSteZ
import Derived.Test.YtmppccnioiodgabGreatDoorApr
import Derived.Test.YtmppccnioiodgabGreatDoorTuZ
import Derived.Test.YtmppccnioiodgabGreatDoorStwZ
import Derived.Test.YtmppccnioiodgabGreatDoorEndZ
/- The law's sameSteps at two lists that read alike. -/
namespace Go.Proofs.YtmppccnioiodgabGreatDoor
open Go.RowKit Go.Dw
attribute [local go_sem ↓] Go.wp_at_zero Go.wp_at_succ

theorem two_gq (w : World) (a b : Obj) : Gq w ((w.alloc a).alloc b).drew := ((Gq.refl w).alloc a |>.trans ((Gq.refl _).alloc b)).drew
theorem two_a (w : World) {T : TypeId} (cs : List Value) (b : Obj) : Blk ((w.alloc (.cells cs.toArray T)).alloc b).drew w.heap.size T cs := blkq (Blk.new w T cs) ((Gq.refl _).alloc b).drew
theorem two_b (w : World) {T : TypeId} (a : Obj) (cs : List Value) : Blk ((w.alloc a).alloc (.cells cs.toArray T)).drew (w.heap.size + 1) T cs := by
  have h := Blk.new (w.alloc a) T cs
  rw [World.size_alloc] at h; exact h
theorem cmpK_refl (a : Cli) : cmpK a a = 0 := by have := cmpK_neg a a; omega
set_option maxRecDepth 100000 in
set_option maxHeartbeats 8000000 in
theorem sameSteps_any (x y : Slc StpM) (w : World) (he : x.xs.map StpM.x = y.xs.map StpM.x) (hx : StsB 1048576 w x) (hy : StsB 1048576 w y) (hl : x.xs.length ≤ 1048576) :
    Calls Tryz.prog 11 #[x.v, y.v] w fun e w' => e = .returned (.bool true) ∧ Gq w w' := by
  obtain ⟨xA, xc, xs⟩ := x
  obtain ⟨yA, yc, ys⟩ := y
  have hln : xs.length = ys.length := by
    have := congrArg List.length he
    rw [List.length_map, List.length_map] at this; exact this
  have HEK : Hid (∀ k (h1 : k < xs.length) (h2 : k < ys.length), xs[k].kd = ys[k].kd ∧ xs[k].at_ = ys[k].at_ ∧ xs[k].by_ = ys[k].by_ ∧ xs[k].cs.xs.map CliM.x = ys[k].cs.xs.map CliM.x) := fun k h1 h2 => by
    have h3 : (xs.map StpM.x)[k]'(by rw [List.length_map]; exact h1) = (ys.map StpM.x)[k]'(by rw [List.length_map]; exact h2) := List.getElem_of_eq he _
    rw [List.getElem_map, List.getElem_map] at h3
    exact ⟨congrArg Stp.kd h3, congrArg Stp.at_ h3, congrArg Stp.by_ h3, congrArg Stp.cs h3⟩
  simp only [Slc.v]
  obtain ⟨n, hn⟩ : ∃ n, xs.length = n := ⟨_, rfl⟩
  rw [← hln, hn]
  have HLN : Hid (xs.length = n ∧ ys.length = n) := ⟨hn, by omega⟩
  have HX := Lib.hid hx
  have HY := Lib.hid hy
  have hn1 : n ≤ 1048576 := by rw [← hn]; exact hl
  have hd0 : ((n : Int) != (n : Int)) = false := by simp
  clear hx hy he hln hn hl
  go_enter Tryz.func11, Tryz.ntmps11
  go_wp2_with fail
  go_loopw [5] (fun kv wr => ∃ k : Nat, k ≤ n ∧ kv = .int .i64 (k : Int) ∧ Hid (Gq w wr)) (fun kv _ => n - (intOf kv).toNat)
  case atStart => exact ⟨0, Nat.zero_le _, rfl, Gq.refl _⟩
  case round =>
    obtain ⟨k, hk, rfl, HG⟩ := hrel
    by_cases hlt : k < n
    case neg =>
      have hd : decide (k < n) = false := by simpa using hlt
      go_wp2_with fail
      go_ret
      exact ⟨rfl, HG.out⟩
    have hd : decide (k < n) = true := by simpa using hlt
    have h1 : k < xs.length := by rw [HLN.out.1]; exact hlt
    have h2 : k < ys.length := by rw [HLN.out.2]; exact hlt
    obtain ⟨b, off, hA, hb, hc⟩ := stp_at (HX.out.r.below HG.out) (show 0 < xs.length by omega)
    obtain rfl : xA = some ⟨b, off, none⟩ := hA
    obtain ⟨b', off', hA', hb', hc'⟩ := stp_at (HY.out.r.below HG.out) (show 0 < ys.length by omega)
    obtain rfl : yA = some ⟨b', off', none⟩ := hA'
    obtain ⟨p0, p1, p2, p3⟩ := hc k h1
    obtain ⟨r0, r1, r2, r3⟩ := hc' k h2
    have HSX := Lib.hid (HX.out.o xs[k] (List.getElem_mem h1))
    have HSY := Lib.hid (HY.out.o ys[k] (List.getElem_mem h2))
    have HEE := Lib.hid (HEK.out k h1 h2)
    clear hc hc'
    obtain ⟨X, hX⟩ : ∃ X, xs[k] = X := ⟨_, rfl⟩
    obtain ⟨Y, hY⟩ : ∃ Y, ys[k] = Y := ⟨_, rfl⟩
    simp only [hX, hY] at p0 p1 p2 p3 r0 r1 r2 r3 HSX HSY HEE
    clear hX hY h1 h2
    obtain ⟨sk, ⟨sA, sc, sx⟩, sa, sb⟩ := X
    obtain ⟨sk', ⟨tA, tc, tx⟩, sa', sb'⟩ := Y
    obtain ⟨e1, e2, e3, e4⟩ := HEE.out
    obtain rfl : sk = sk' := e1
    obtain rfl : sa = sa' := e2
    obtain rfl : sb = sb' := e3
    have HCM : Hid (sx.map CliM.x = tx.map CliM.x) := e4
    obtain ⟨m, hm⟩ : ∃ m, sx.length = m := ⟨_, rfl⟩
    have hm2 : tx.length = m := by
      have := congrArg List.length e4
      rw [List.length_map, List.length_map] at this
      show tx.length = m
      have h : sx.length = tx.length := this
      omega
    have HMM : Hid (sx.length = m ∧ tx.length = m) := ⟨hm, hm2⟩
    simp only at p0 p1 p2 p3 r0 r1 r2 r3
    rw [hm] at p1
    rw [hm2] at r1
    clear HEE e4 hm hm2
    have i0 : (0 : Int) ≤ (k : Int) := by omega
    have i1 : (k : Int) < (n : Int) := by omega
    have it : ((k : Int)).toNat = k := by omega
    go_upto_region 6 with (fail)
    go_cut [6, 7] (fun u v wx => ∃ g1 g2 : Nat, u = .pointer (some ⟨g1, 0, none⟩) ∧ v = .pointer (some ⟨g2, 0, none⟩) ∧ Hid (Gq wr wx) ∧ Hid (Blk wx g1 40 [.int .i64 sk, .slice sA m sc, .int .i64 sa, .int .i64 sb]) ∧ Hid (Blk wx g2 40 [.int .i64 sk, .slice tA m tc, .int .i64 sa, .int .i64 sb]))
    case first =>
      go_wp2_with fail
      go_region
      all_goals
        go_wp2_with fail
        go_meet
        case rel => first | exact ⟨wr.heap.size, wr.heap.size + 1, rfl, rfl, two_gq wr _ _, two_a wr _ _, two_b wr _ _⟩ | exact ⟨wr.heap.size + 1, wr.heap.size, rfl, rfl, two_gq wr _ _, two_b wr _ _, two_a wr _ _⟩
    case rest =>
      obtain ⟨g1, g2, rfl, rfl, HGC, HK1, HK2⟩ := hcut
      clear p0 p1 p2 p3 r0 r1 r2 r3 i0 i1 it hb hb'
      have HGW : Hid (Gq w wc) := HG.out.trans HGC.out
      clear HG HGC
      have HCE : Hid (∀ W, Gq wc W → (W.cell? ⟨g1, 0, none⟩ = some (.int .i64 sk) ∧ W.cell? ⟨g1, 1, none⟩ = some (.slice sA m sc) ∧ W.cell? ⟨g1, 2, none⟩ = some (.int .i64 sa) ∧ W.cell? ⟨g1, 3, none⟩ = some (.int .i64 sb)) ∧ W.cell? ⟨g2, 0, none⟩ = some (.int .i64 sk) ∧ W.cell? ⟨g2, 1, none⟩ = some (.slice tA m tc) ∧ W.cell? ⟨g2, 2, none⟩ = some (.int .i64 sa) ∧ W.cell? ⟨g2, 3, none⟩ = some (.int .i64 sb)) := fun W hW => by
        have k1 := blkq HK1.out hW
        have k2 := blkq HK2.out hW
        exact ⟨⟨k1.cell 0, k1.cell 1, k1.cell 2, k1.cell 3⟩, k2.cell 0, k2.cell 1, k2.cell 2, k2.cell 3⟩
      obtain ⟨⟨c0, c1, c2, c3⟩, d0, d1, d2, d3⟩ := HCE.out wc (Gq.refl _)
      have q0 : (sk != sk) = false := by simp
      have q1 : (sa != sa) = false := by simp
      have q2 : (sb != sb) = false := by simp
      have q3 : ((m : Int) != (m : Int)) = false := by simp
      have hmB : m ≤ 1048576 := by have := HSX.out.n; have h := HMM.out.1; have h2 : sx.length ≤ 1048576 := this; omega
      have HKL : Hid (k < n) := hlt
      clear hlt
      go_wp2_with fail
      go_loopw [8] (fun jv wq => ∃ j : Nat, j ≤ m ∧ jv = .int .i64 (j : Int) ∧ Hid (Gq wc wq)) (fun jv _ => m - (intOf jv).toNat)
      case atStart => exact ⟨0, Nat.zero_le _, rfl, Gq.refl _⟩
      case round =>
        obtain ⟨j, hj, rfl, HGJ⟩ := hrel
        clear c0 c1 c2 c3 d0 d1 d2 d3
        obtain ⟨⟨c0, c1, c2, c3⟩, d0, d1, d2, d3⟩ := HCE.out wr HGJ.out
        by_cases hjt : j < m
        case neg =>
          have hd : decide (j < m) = false := by simpa using hjt
          have hkl := HKL.out
          clear hjt
          go_wp2_with fail
          go_roundw
          case rel => exact ⟨k + 1, by omega, by go_num, HGW.out.trans HGJ.out⟩
          case measure => simp [intOf]; omega
        have hd : decide (j < m) = true := by simpa using hjt
        have HGX : Hid (Gq w wr) := HGW.out.trans HGJ.out
        have hj1 : j < sx.length := by rw [HMM.out.1]; exact hjt
        have hj2 : j < tx.length := by rw [HMM.out.2]; exact hjt
        obtain ⟨b1, o1, hA1, hb1, x0, x1, x2, x3, x4, x5, x6⟩ := cli_one (HSX.out.o.cr.below HGX.out) hj1
        obtain ⟨b2, o2, hA2, hb2, y0, y1, y2, y3, y4, y5, y6⟩ := cli_one (HSY.out.o.cr.below HGX.out) hj2
        simp only at hA1 hA2
        subst hA1 hA2
        have hex : (sx[j]).x = (tx[j]).x := by
          have h3 : (sx.map CliM.x)[j]'(by rw [List.length_map]; exact hj1) = (tx.map CliM.x)[j]'(by rw [List.length_map]; exact hj2) := List.getElem_of_eq HCM.out _
          rw [List.getElem_map, List.getElem_map] at h3; exact h3
        have HOR : Hid (∀ W, Gq wr W → Calls Tryz.prog 24 #[(sx[j]).v, (tx[j]).v] W fun e w' => e = .returned (.int .i64 0) ∧ Gq wr w') := fun W hW => by
          have h := order_any (sx[j]) (tx[j]) W
          rw [hex, cmpK_refl] at h
          exact h.mono fun _ _ h => ⟨h.1, hW.trans h.2⟩
        have HXO := Lib.hid ((HSX.out.o.co sx[j] (List.getElem_mem hj1)).below HGX.out)
        have HYO := Lib.hid ((HSY.out.o.co tx[j] (List.getElem_mem hj2)).below HGX.out)
        have HEX : Hid ((sx[j]).x = (tx[j]).x) := hex
        clear hex
        obtain ⟨XC, hXC⟩ : ∃ c, sx[j] = c := ⟨_, rfl⟩
        obtain ⟨YC, hYC⟩ : ∃ c, tx[j] = c := ⟨_, rfl⟩
        simp only [hXC, hYC] at x0 x1 x2 x3 x4 x5 x6 y0 y1 y2 y3 y4 y5 y6 HOR HXO HYO HEX
        clear hXC hYC hj1 hj2
        obtain ⟨xm, xq, xf, xt, xa, xl, ⟨EA, ed, es⟩⟩ := XC
        obtain ⟨ym, yq, yf, yt, ya, yl, ⟨FA, fd, fs⟩⟩ := YC
        have hes : es = fs := congrArg Cli.e HEX.out
        have HEQ : Hid (∀ W, Gq wr W → Calls Tryz.prog 19 #[.slice EA es.length ed, .slice FA es.length fd] W fun e w' => e = .returned (.bool true) ∧ Gq wr w') := fun W hW =>
          (equalPn_any EA FA ed fd es W (HXO.out.er.below hW) (by have := HYO.out.er.below hW; rw [hes]; exact this) HXO.out.el).mono fun e w' h => ⟨h.1, by obtain ⟨n, hn⟩ := h.2; rw [hn]; exact below_drewN hW n⟩
        simp only [CliM.v, Slc.v] at HOR x0 x1 x2 x3 x4 x5 x6 y0 y1 y2 y3 y4 y5 y6
        rw [← hes] at HOR y6
        obtain ⟨en, hen⟩ : ∃ en : Nat, es.length = en := ⟨_, rfl⟩
        rw [hen] at HOR HEQ x6 y6
        clear hes hen HEX HXO HYO
        have j0 : (0 : Int) ≤ (j : Int) := by omega
        have j1 : (j : Int) < (m : Int) := by omega
        have jt : ((j : Int)).toNat = j := by omega
        have HS : Hid (∀ W, Gq wr W → W.cell? ⟨g1, 1, none⟩ = some (.slice (some ⟨b1, o1, none⟩) m sc) ∧ W.cell? ⟨g2, 1, none⟩ = some (.slice (some ⟨b2, o2, none⟩) m tc) ∧ W.cell? ⟨b1, o1 + j * 7, none⟩ = some (.string xm) ∧ W.cell? ⟨b1, o1 + j * 7 + 1, none⟩ = some (.int .i64 xq) ∧ W.cell? ⟨b1, o1 + j * 7 + 2, none⟩ = some (.int .i64 xf) ∧ W.cell? ⟨b1, o1 + j * 7 + 3, none⟩ = some (.int .i64 xt) ∧ W.cell? ⟨b1, o1 + j * 7 + 4, none⟩ = some (.int .i64 xa) ∧ W.cell? ⟨b1, o1 + j * 7 + 5, none⟩ = some (.int .i64 xl) ∧ W.cell? ⟨b1, o1 + j * 7 + 6, none⟩ = some (.slice EA en ed) ∧ W.cell? ⟨b2, o2 + j * 7, none⟩ = some (.string ym) ∧ W.cell? ⟨b2, o2 + j * 7 + 1, none⟩ = some (.int .i64 yq) ∧ W.cell? ⟨b2, o2 + j * 7 + 2, none⟩ = some (.int .i64 yf) ∧ W.cell? ⟨b2, o2 + j * 7 + 3, none⟩ = some (.int .i64 yt) ∧ W.cell? ⟨b2, o2 + j * 7 + 4, none⟩ = some (.int .i64 ya) ∧ W.cell? ⟨b2, o2 + j * 7 + 5, none⟩ = some (.int .i64 yl) ∧ W.cell? ⟨b2, o2 + j * 7 + 6, none⟩ = some (.slice FA en fd) ∧ Gq wr W) := fun W hW => by
          obtain ⟨⟨_, a1, _, _⟩, _, a2, _, _⟩ := HCE.out W (HGJ.out.trans hW)
          have qx := fun i (u : Value) (hu : wr.cell? ⟨b1, i, none⟩ = some u) => (Below.cell hW (p := ⟨b1, i, none⟩) (by exact hb1)).trans hu
          have qy := fun i (u : Value) (hu : wr.cell? ⟨b2, i, none⟩ = some u) => (Below.cell hW (p := ⟨b2, i, none⟩) (by exact hb2)).trans hu
          exact ⟨a1, a2, qx _ _ x0, qx _ _ x1, qx _ _ x2, qx _ _ x3, qx _ _ x4, qx _ _ x5, qx _ _ x6, qy _ _ y0, qy _ _ y1, qy _ _ y2, qy _ _ y3, qy _ _ y4, qy _ _ y5, qy _ _ y6, hW⟩
        have hBD : Gq wr wr.drew := (Gq.refl _).drew
        have hBR : Gq wr wr := Gq.refl _
        clear x0 x1 x2 x3 x4 x5 x6 y0 y1 y2 y3 y4 y5 y6 hb1 hb2
        go_upto_region 12 with (fail)
        go_cut [90] (fun v wx => v = .bool false ∧ Hid (Gq wr wx))
        case first =>
          clear c0 c1 c2 c3 d0 d1 d2 d3
          go_wp2_with fail
          go_region_held3 (fun W => W.cell? ⟨g1, 1, none⟩ = some (.slice (some ⟨b1, o1, none⟩) m sc) ∧ W.cell? ⟨g2, 1, none⟩ = some (.slice (some ⟨b2, o2, none⟩) m tc) ∧ W.cell? ⟨b1, o1 + j * 7, none⟩ = some (.string xm) ∧ W.cell? ⟨b1, o1 + j * 7 + 1, none⟩ = some (.int .i64 xq) ∧ W.cell? ⟨b1, o1 + j * 7 + 2, none⟩ = some (.int .i64 xf) ∧ W.cell? ⟨b1, o1 + j * 7 + 3, none⟩ = some (.int .i64 xt) ∧ W.cell? ⟨b1, o1 + j * 7 + 4, none⟩ = some (.int .i64 xa) ∧ W.cell? ⟨b1, o1 + j * 7 + 5, none⟩ = some (.int .i64 xl) ∧ W.cell? ⟨b1, o1 + j * 7 + 6, none⟩ = some (.slice EA en ed) ∧ W.cell? ⟨b2, o2 + j * 7, none⟩ = some (.string ym) ∧ W.cell? ⟨b2, o2 + j * 7 + 1, none⟩ = some (.int .i64 yq) ∧ W.cell? ⟨b2, o2 + j * 7 + 2, none⟩ = some (.int .i64 yf) ∧ W.cell? ⟨b2, o2 + j * 7 + 3, none⟩ = some (.int .i64 yt) ∧ W.cell? ⟨b2, o2 + j * 7 + 4, none⟩ = some (.int .i64 ya) ∧ W.cell? ⟨b2, o2 + j * 7 + 5, none⟩ = some (.int .i64 yl) ∧ W.cell? ⟨b2, o2 + j * 7 + 6, none⟩ = some (.slice FA en fd) ∧ Gq wr W)
            (first | exact HS.out _ hBD | exact HS.out _ hBR | exact HS.out _ (by assumption) | exact HS.out _ (Gq.trans hBD (by assumption)))
            (first | (go_at_call 24; with_reducible refine (HOR.out _ (by first | assumption | (go_split_ands; assumption))).mono ?_; rintro e wB ⟨rfl, hqB⟩) | (go_at_call 19; with_reducible refine (HEQ.out _ (by first | assumption | (go_split_ands; assumption))).mono ?_; rintro e wB ⟨rfl, hqB⟩))
          all_goals
            go_wp2_with fail
            go_meet
            case rel => exact ⟨rfl, by first | assumption | (show Gq _ _; assumption)⟩
        case rest =>
          obtain ⟨rfl, HGC2⟩ := hcut
          go_wp2_with fail
          go_roundw
          case rel => exact ⟨j + 1, by omega, by go_num, HGJ.out.trans HGC2.out⟩
          case measure => simp [intOf]; omega
end Go.Proofs.YtmppccnioiodgabGreatDoor
/- How edits that came in read, with their clips' capacity. -/
namespace Go.Proofs.YtmppccnioiodgabGreatDoor
open Go.RowKit Go.Dw

theorem decEditC {H : Type} {enc : TypeId × Value → H} {w : World} :
    Dec enc Tryz.prog w 24 EdtM.cells (fun x => EdtOk w x ∧ x.cs.xs.length ≤ x.cs.c) :=
  (Dec.struct (tot := 3) (fl := [(3, 0, 1), (3, 1, 1), (22, 2, 1)]) Tryz.underlying24 (by kernel_rfl) (by kernel_rfl)
    (DecS.cons (Dec.int Tryz.underlying3) (DecS.cons (Dec.int Tryz.underlying3)
      (DecS.cons (tot := 0) (Dec.sliceN 7 Tryz.underlying22 (by kernel_rfl) (fun _ => rfl) (by omega) decClip) DecS.nil)))).map
    (fun p => (⟨p.1, p.2.1, p.2.2.1⟩ : EdtM)) (fun _ => rfl) (fun p h => by
      obtain ⟨h1, h2, ⟨⟨h3, h4, h5⟩, h6, _⟩, _⟩ := h
      exact ⟨⟨h1, h2, by simpa [maxLen] using h3, h4, h5⟩, h6⟩)
end Go.Proofs.YtmppccnioiodgabGreatDoor
/- Generated (gen/app.py): the walk of EditAppliesMatchSpec. -/
namespace Go.Proofs.YtmppccnioiodgabGreatDoor
open Go.RowKit Go.Dw

theorem applyL_right {nm : ByteArray → Bool} {mx : Int} : ∀ (l : List Stp) (e : Edt) (i : Nat), ediF nm mx e = 0 → Srt (applyL nm mx e l i).1.cs ∧ (applyL nm mx e l i).1.cs.length ≤ 300
  | [], e, _, h => ⟨(ediF_parts h).2.2.2, (ediF_parts h).2.1⟩
  | s :: l, e, i, h => by
    rw [applyL]
    split
    · exact ⟨srt_e0, by simp [e0]⟩
    · split
      · exact ⟨srt_e0, by simp [e0]⟩
      · rename_i h2
        exact applyL_right l _ _ (by simpa using h2)
theorem applyF_right {nm : ByteArray → Bool} {mx : Int} {e : Edt} {l : List Stp} : Srt (applyF nm mx e l).1.cs ∧ (applyF nm mx e l).1.cs.length ≤ 300 := by
  unfold applyF
  split
  · exact ⟨srt_e0, by simp [e0]⟩
  · split
    · exact ⟨srt_e0, by simp [e0]⟩
    · rename_i h _
      exact applyL_right _ _ _ (by simpa using h)
theorem equal_edits (r : Edt) (hs : Srt r.cs) (hl : r.cs.length ≤ 300) (x y : EdtM) (hx : x.x = r) (hy : y.x = r) (W : World) (kx : EdtOk W x) (ky : EdtOk W y) :
    Calls Tryz.prog 6 #[x.v, y.v] W fun e w' => e = .returned (.bool true) ∧ Gq W w' := by
  have h1 : y.x.cs.length ≤ 300 := by rw [hy]; exact hl
  have h2 : y.cs.xs.length ≤ 300 := by simpa [EdtM.x] using h1
  exact equal_any x y (by rw [hx, hy]) (by rw [hx]; exact hs) W kx ky (by omega)
set_option maxRecDepth 100000 in
set_option maxHeartbeats 16000000 in
theorem applies_law (a : EdtM) (l : Slc StpM) (z : Int) (w : World) (ha : EdtOk w a ∧ a.cs.xs.length ≤ a.cs.c) (hl : StsB 1048576 w l) (_hz : inI64 z) (hp : HasPow w) :
    Calls Tryz.prog 3 #[a.v, l.v, .int .i64 z] w fun e w' => e = .returned (.bool true) ∧ Below w.heap.size w w' := by
  obtain ⟨RA, hRA⟩ : ∃ r, applyF isNm 1000000 a.x (l.xs.map StpM.x) = r := ⟨_, rfl⟩
  obtain ⟨RT, hRT⟩ : ∃ r, turnedF (l.xs.map StpM.x) = r := ⟨_, rfl⟩
  obtain ⟨RF, hRF⟩ : ∃ r, followF (l.xs.map StpM.x) z = r := ⟨_, rfl⟩
  have HSA : Hid (Srt RA.1.cs ∧ RA.1.cs.length ≤ 300) := by rw [← hRA]; exact applyF_right
  have HTL : Hid (RT.1.length ≤ 200) := by
    show _ ≤ _
    rw [← hRT]
    unfold turnedF
    split
    · simp
    · rename_i h
      have h1 : stpsF (l.xs.map StpM.x) = 0 := by simpa using h
      have := (stsF_all h1).1
      simp; omega
  have H1 : Hid (∀ W, Gq w W → Calls Tryz.prog 4 #[a.v, l.v] W (AplR RA W)) := fun W hW => by rw [← hRA]; exact apply_any a l W (ha.1.below hW) (hl.below hW)
  have H2 : Hid (∀ W, Gq w W → Calls Tryz.prog 5 #[a.v, l.v] W (AplR RA W)) := fun W hW => by rw [← hRA]; exact applyR_any a l W (ha.1.below hW) ha.2 (hl.below hW) (hp.below hW)
  have H3 : Hid (∀ W, Gq w W → Calls Tryz.prog 7 #[l.v] W (TurR 1048576 RT W)) := fun W hW => by rw [← hRT]; exact turned_any l W (hl.below hW)
  have H4 : Hid (∀ W, Gq w W → Calls Tryz.prog 8 #[l.v] W (TurR 1048576 RT W)) := fun W hW => by rw [← hRT]; exact turnedR_any l W (hl.below hW)
  have H5 : Hid (∀ W, Gq w W → Calls Tryz.prog 9 #[l.v, .int .i64 z] W fun e w' => e = .returned (.tuple #[.int .i64 RF.1, .int .i64 RF.2]) ∧ Gq W w') := fun W hW => by rw [← hRF]; exact follow_any l.a l.c l.xs z W (hl.r.below hW)
  have H6 : Hid (∀ W, Gq w W → Calls Tryz.prog 10 #[l.v, .int .i64 z] W fun e w' => e = .returned (.tuple #[.int .i64 RF.1, .int .i64 RF.2]) ∧ Gq W w') := fun W hW => by rw [← hRF]; exact followR_any l.a l.c l.xs z W (hl.r.below hW)
  have HAW : Hid (∀ W, Gq w W → Calls Tryz.prog 12 #[] W fun e w' => e = .returned (.bool true) ∧ Gq W w') := fun W hW => awake3 W (hp.below hW)
  clear hRA hRT hRF ha hl hp
  obtain ⟨Ax, An, Af⟩ := RA
  obtain ⟨Tx, Tf⟩ := RT
  obtain ⟨Fx, Ff⟩ := RF
  simp only at HSA HTL H5 H6
  obtain ⟨ar, at_, ⟨aA, ad, as_⟩⟩ := a
  obtain ⟨lA, lc, ls⟩ := l
  simp only [EdtM.v, Slc.v] at H1 H2 H3 H4 H5 H6 ⊢
  obtain ⟨an, han⟩ : ∃ an : Nat, as_.length = an := ⟨_, rfl⟩
  obtain ⟨ln, hln⟩ : ∃ ln : Nat, ls.length = ln := ⟨_, rfl⟩
  rw [han, hln] at H1 H2 ⊢
  rw [hln] at H3 H4 H5 H6
  clear han hln
  obtain ⟨w1, hw1⟩ : ∃ w1, w1 = w.alloc (.cells #[.int .i64 ar, .int .i64 at_, .slice aA an ad] 24) := ⟨_, rfl⟩
  have HG1 : Hid (Gq w w1) := by rw [hw1]; exact (Gq.refl _).alloc _
  have HKA : Hid (Blk w1 w.heap.size 24 [.int .i64 ar, .int .i64 at_, .slice aA an ad]) := by rw [hw1]; exact Blk.new w _ _
  have HCE : Hid (∀ W, Gq w1 W → W.cell? ⟨w.heap.size, 0, none⟩ = some (.int .i64 ar) ∧ W.cell? ⟨w.heap.size, 1, none⟩ = some (.int .i64 at_) ∧ W.cell? ⟨w.heap.size, 2, none⟩ = some (.slice aA an ad)) := fun W hW => by
    have k1 := blkq HKA.out hW
    exact ⟨k1.cell 0, k1.cell 1, k1.cell 2⟩
  have HCO : Hid (∀ W W' g (r t : Int) A m c, Blk W g 24 [.int .i64 r, .int .i64 t, .slice A m c] → Gq W W' → W'.cell? ⟨g, 0, none⟩ = some (.int .i64 r) ∧ W'.cell? ⟨g, 1, none⟩ = some (.int .i64 t) ∧ W'.cell? ⟨g, 2, none⟩ = some (.slice A m c)) := fun W W' g r t A m c h hg => by
    have k := blkq h hg
    exact ⟨k.cell 0, k.cell 1, k.cell 2⟩
  have HW1 := Lib.hid hw1
  obtain ⟨c0, c1, c2⟩ := HCE.out w1 (Gq.refl _)
  have HC1 := Lib.hid (H1.out w1 HG1.out)
  clear hw1 H1
  go_enter Tryz.func3, Tryz.ntmps3
  go_upto_region 1 with (fail)
  rw [← HW1.out]
  go_wp2_with fail
  refine HC1.out.mono ?_
  rintro e u1 ⟨hb, x, rfl, hx1, hxo⟩
  have HXx : Hid (x.x = Ax) := hx1
  have HOx := Lib.hid hxo
  obtain ⟨x', hx'⟩ : ∃ z, x = z := ⟨_, rfl⟩
  have HVx : Hid (x'.v = x.v) := by show _ = _; rw [hx']
  have HXx' : Hid (x'.x = Ax) := by rw [← hx']; exact HXx.out
  have HOx' : Hid (EdtOk u1 x') := by rw [← hx']; exact HOx.out
  clear hx' hx1 hxo HXx HOx
  obtain ⟨xr, xt, ⟨xA, xd, xs⟩⟩ := x
  replace HVx : Hid (x'.v = .agg #[.int .i64 xr, .int .i64 xt, .slice xA xs.length xd]) := HVx
  simp only [EdtM.v, Slc.v]
  obtain ⟨xn, hxn⟩ : ∃ n : Nat, xs.length = n := ⟨_, rfl⟩
  rw [hxn] at HVx ⊢
  clear hxn
  obtain ⟨w3, hw⟩ : ∃ W, W = u1.alloc (.cells #[.int .i64 xr, .int .i64 xt, .slice xA xn xd] 24) := ⟨_, rfl⟩
  have HBx : Hid (Gq w1 u1) := hb
  have HNx : Hid (Gq u1 w3) := by rw [hw]; exact (Gq.refl _).alloc _
  have HKx : Hid (Blk w3 u1.heap.size 24 [.int .i64 xr, .int .i64 xt, .slice xA xn xd]) := by rw [hw]; exact Blk.new u1 _ _
  have HG2 : Hid (Gq w1 w3) := (HBx.out.trans HNx.out)
  have HW2 := Lib.hid hw
  clear hb hw c0 c1 c2 HC1
  obtain ⟨c0, c1, c2⟩ := HCE.out w3 HG2.out
  have HC2 := Lib.hid (H2.out w3 (HG1.out.trans HG2.out))
  clear H2
  go_upto_region 2 with (fail)
  rw [← HW2.out]
  go_wp2_with fail
  refine HC2.out.mono ?_
  rintro e u2 ⟨hb, y, rfl, hx1, hxo⟩
  have HXy : Hid (y.x = Ax) := hx1
  have HOy := Lib.hid hxo
  obtain ⟨y', hy'⟩ : ∃ z, y = z := ⟨_, rfl⟩
  have HVy : Hid (y'.v = y.v) := by show _ = _; rw [hy']
  have HXy' : Hid (y'.x = Ax) := by rw [← hy']; exact HXy.out
  have HOy' : Hid (EdtOk u2 y') := by rw [← hy']; exact HOy.out
  clear hy' hx1 hxo HXy HOy
  obtain ⟨yr, yt, ⟨yA, yd, ys⟩⟩ := y
  replace HVy : Hid (y'.v = .agg #[.int .i64 yr, .int .i64 yt, .slice yA ys.length yd]) := HVy
  simp only [EdtM.v, Slc.v]
  obtain ⟨yn, hyn⟩ : ∃ n : Nat, ys.length = n := ⟨_, rfl⟩
  rw [hyn] at HVy ⊢
  clear hyn
  obtain ⟨w5, hw⟩ : ∃ W, W = u2.alloc (.cells #[.int .i64 yr, .int .i64 yt, .slice yA yn yd] 24) := ⟨_, rfl⟩
  have HBy : Hid (Gq w3 u2) := hb
  have HNy : Hid (Gq u2 w5) := by rw [hw]; exact (Gq.refl _).alloc _
  have HKy : Hid (Blk w5 u2.heap.size 24 [.int .i64 yr, .int .i64 yt, .slice yA yn yd]) := by rw [hw]; exact Blk.new u2 _ _
  have HG3 : Hid (Gq w1 w5) := HG2.out.trans (HBy.out.trans HNy.out)
  have HW3 := Lib.hid hw
  clear hb hw c0 c1 c2 HC2
  go_upto_region 3 with (fail)
  rw [← HW3.out]
  have HEQ := Lib.hid (equal_edits Ax HSA.out.1 HSA.out.2 x' y' HXx'.out HXy'.out w5 (HOx'.out.below (HNx.out.trans (HBy.out.trans HNy.out))) (HOy'.out.below HNy.out))
  rw [HVx.out, HVy.out] at HEQ
  obtain ⟨x0, x1, x2⟩ := HCO.out _ w5 _ _ _ _ _ _ HKx.out (HBy.out.trans HNy.out)
  obtain ⟨y0, y1, y2⟩ := HCO.out _ w5 _ _ _ _ _ _ HKy.out (Gq.refl _)
  have hn0 : ((An : Int) != (An : Int)) = false := by simp
  have hf0 : (Af != Af) = false := by simp
  go_wp2_with fail
  refine HEQ.out.mono ?_
  rintro e w6 ⟨rfl, hg6⟩
  have HG6 : Hid (Gq w w6) := HG1.out.trans (HG3.out.trans hg6)
  clear hg6 HEQ x0 x1 x2 y0 y1 y2
  have HC3 := Lib.hid (H3.out w6 HG6.out)
  clear H3
  go_wp2_with fail
  refine HC3.out.mono ?_
  rintro e w7 ⟨hg7, ⟨tA, tc, ts⟩, rfl, ht1, ht2⟩
  have HT1 : Hid (ts.map StpM.x = Tx ∧ StsB 1048576 w7 ⟨tA, tc, ts⟩) := ⟨ht1, ht2⟩
  have HG7 : Hid (Gq w w7) := HG6.out.trans hg7
  simp only [Slc.v]
  obtain ⟨tn, htn⟩ : ∃ tn : Nat, ts.length = tn := ⟨_, rfl⟩
  have HTN := Lib.hid htn
  rw [htn]
  clear hg7 ht1 ht2 htn HC3
  have HC4 := Lib.hid (H4.out w7 HG7.out)
  clear H4
  go_wp2_with fail
  refine HC4.out.mono ?_
  rintro e w8 ⟨hg8, ⟨rA, rc, rs⟩, rfl, ht1, ht2⟩
  have HR1 : Hid (rs.map StpM.x = Tx ∧ StsB 1048576 w8 ⟨rA, rc, rs⟩) := ⟨ht1, ht2⟩
  have HG78 : Hid (Gq w7 w8) := hg8
  have HG8 : Hid (Gq w w8) := HG7.out.trans hg8
  simp only [Slc.v]
  obtain ⟨rn, hrn⟩ : ∃ rn : Nat, rs.length = rn := ⟨_, rfl⟩
  have HRN := Lib.hid hrn
  rw [hrn]
  clear hg8 ht1 ht2 hrn HC4
  have HC5 := Lib.hid (H5.out w8 HG8.out)
  clear H5
  go_wp2_with fail
  refine HC5.out.mono ?_
  rintro e w9 ⟨rfl, hg9⟩
  have HG89 : Hid (Gq w8 w9) := hg9
  have HG9 : Hid (Gq w w9) := HG8.out.trans hg9
  clear hg9 HC5
  have HC6 := Lib.hid (H6.out w9 HG9.out)
  clear H6
  go_wp2_with fail
  refine HC6.out.mono ?_
  rintro e wa ⟨rfl, hga⟩
  have HGaa : Hid (Gq w9 wa) := hga
  have HGa : Hid (Gq w wa) := HG9.out.trans hga
  clear hga HC6
  have HSS : Hid (Calls Tryz.prog 11 #[.slice tA tn tc, .slice rA rn rc] wa fun e w' => e = .returned (.bool true) ∧ Gq wa w') := by
    have h := sameSteps_any ⟨tA, tc, ts⟩ ⟨rA, rc, rs⟩ wa (by rw [HT1.out.1, HR1.out.1]) (HT1.out.2.below (HG78.out.trans (HG89.out.trans HGaa.out))) (HR1.out.2.below (HG89.out.trans HGaa.out)) (by
      have h1 := congrArg List.length HT1.out.1
      rw [List.length_map] at h1
      have h2 := HTL.out
      show ts.length ≤ _; omega)
    simp only [Slc.v] at h
    rw [HTN.out, HRN.out] at h
    exact h
  have ht0 : (Tf == Tf) = true := by simp
  have hx0 : (Fx == Fx) = true := by simp
  have hy0 : (Ff == Ff) = true := by simp
  go_wp2_with fail
  refine HSS.out.mono ?_
  rintro e wb ⟨rfl, hgb⟩
  have HGb : Hid (Gq w wb) := HGa.out.trans hgb
  clear hgb HSS
  have HE3 := Lib.hid (HAW.out wb HGb.out)
  go_wp2_with fail
  refine HE3.out.mono ?_
  rintro e v3 ⟨rfl, hv3⟩
  have HV3 : Hid (Gq w v3) := HGb.out.trans hv3
  clear hv3
  go_wp2_with fail
  go_ret
  exact ⟨rfl, HV3.out⟩
end Go.Proofs.YtmppccnioiodgabGreatDoor
