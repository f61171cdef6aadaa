/- Several texts laid into one: Generated (gen/jnr.py): the contract of the reference's Mix; Generated (gen/jnr.py): the contract of the reference's Join; Generated (gen/two.py): the contract of deadwax/edit.checkTwo; Generated (gen/jna.py): the contract of edit.Join; Generated (gen/mixa.py): the contract of edit.Mix; -/
import Derived.Test.YtmknpeoflafaoaaGreatDoorRefJ
import Derived.Test.YtmknpeoflafaoaaGreatDoorEdtC
import Derived.Deep.CutBlock
import Derived.Deep.DeepCutAuto
import Derived.Test.YtmknpeoflafaoaaGreatDoorEndY
import Derived.Test.YtmknpeoflafaoaaGreatDoorCliZ
import Derived.Test.YtmknpeoflafaoaaGreatDoorJmP
import Derived.Test.YtmknpeoflafaoaaGreatDoorApdZ
import Derived.Test.YtmknpeoflafaoaaGreatDoorNumB
import Derived.Test.YtmknpeoflafaoaaGreatDoorEdtZ
import Derived.Deep.RegionHeld3
import Derived.Deep.DrawnRows
/- Generated (gen/jnr.py): the contract of the reference's Mix. -/
namespace Go.Proofs.YtmknpeoflafaoaaGreatDoor
open Go.RowKit Go.Dw
attribute [local go_sem ↓] Go.wp_at_zero Go.wp_at_succ
attribute [local go_sem] Go.Dwo.Oper.tame

def tup (v : Value) (i : Nat) : Value := match v with
  | .tuple a => a.getD i undef
  | _ => undef
/-- what is known of a right edit's clips -/
theorem right_envR {e : EdtM} (h : ediF isNm 1000000 e.x = 0) : e.cs.xs.length ≤ 300 ∧ ∀ c ∈ e.cs.xs, c.e.xs.length ≤ 50 := by
  have hr := ediF_ok h
  refine ⟨by have := hr.l; simpa [EdtM.x] using this, fun c hc => ?_⟩
  have h1 := cliF_env (ediF_cli h c.x (List.mem_map_of_mem hc))
  exact (envF_ok h1).2.1
def mxrF (w0 : World) (xr xt : Int) (xA : Option Addr) (xn xd : Nat) (yr yt : Int) (yA : Option Addr) (yn yd : Nat) (A1 : Option Addr) (q1 : Nat) (XL SL L : List Value) (ff z1 z2 : Int) : List Go.Dwo.Fact := [
  ⟨[], [], fun _ W => Gq w0 W ∧ w0.heap.size + 3 ≤ W.heap.size⟩,
  ⟨[], [], fun _ W => Blk W w0.heap.size 24 [.int .i64 xr, .int .i64 xt, .slice xA xn xd]⟩,
  ⟨[], [], fun _ W => Blk W (w0.heap.size + 1) 24 [.int .i64 yr, .int .i64 yt, .slice yA yn yd]⟩,
  ⟨[], [8], fun _ W => Blk W (w0.heap.size + 2) 24 [.int .i64 0, .int .i64 0, .slice none 0 0]⟩,
  ⟨[], [4, 5, 8], fun _ W => W.ownsRow (w0.heap.size + 3) 37 7 (.slice A1 xn q1) xn XL⟩,
  ⟨[0], [], fun vs _ => vs 0 = .agg #[.int .i64 xr, .int .i64 xt, .slice xA xn xd]⟩,
  ⟨[1], [], fun vs _ => vs 1 = .slice A1 xn q1⟩,
  ⟨[2], [], fun vs _ => vs 2 = .pointer (some ⟨w0.heap.size + 1, 2, none⟩)⟩,
  ⟨[3], [], fun vs _ => vs 3 = .slice yA yn yd⟩,
  ⟨[4], [5, 8], fun vs W => ∃ A c, vs 4 = .slice A (xn + yn) c ∧ Rd W A (XL ++ SL)⟩,
  ⟨[5], [], fun vs W => ∃ S sn sc A c, vs 5 = .tuple #[.agg #[.int .i64 z1, .int .i64 z2, .slice S sn sc], .int .i64 ff] ∧ ((ff = 0 → S = A ∧ sn = xn + yn ∧ sc = c) ∧ (ff ≠ 0 → S = none ∧ sn = 0 ∧ sc = 0)) ∧ RdT 37 W A L⟩,
  ⟨[5, 6], [], fun vs _ => vs 6 = tup (vs 5) 0⟩,
  ⟨[5, 7], [], fun vs _ => vs 7 = tup (vs 5) 1⟩,
  ⟨[5, 8], [], fun vs W => ∃ S sn sc A c, vs 5 = .tuple #[.agg #[.int .i64 z1, .int .i64 z2, .slice S sn sc], .int .i64 ff] ∧ ((ff = 0 → S = A ∧ sn = xn + yn ∧ sc = c) ∧ (ff ≠ 0 → S = none ∧ sn = 0 ∧ sc = 0)) ∧ RdT 37 W A L ∧ Blk W (w0.heap.size + 2) 24 [.int .i64 z1, .int .i64 z2, .slice S sn sc]⟩,
  ⟨[7, 9], [], fun vs _ => vs 9 = vs 7⟩]
theorem mxrK (w0 : World) (xr xt : Int) (xA : Option Addr) (xn xd : Nat) (yr yt : Int) (yA : Option Addr) (yn yd : Nat) (A1 : Option Addr) (q1 : Nat) (XL SL L : List Value) (ff z1 z2 : Int) : ∀ f ∈ mxrF w0 xr xt xA xn xd yr yt yA yn yd A1 q1 XL SL L ff z1 z2, ∀ vs w w', Gq w w' → f.says vs w → f.says vs w' :=
  Go.Dwo.fa_cons (fun _ _ _ hg h => ⟨h.1.trans hg, Nat.le_trans h.2 (Below.size hg)⟩) <|
  Go.Dwo.fa_cons (fun _ _ _ hg h => blkq h hg) <|
  Go.Dwo.fa_cons (fun _ _ _ hg h => blkq h hg) <|
  Go.Dwo.fa_cons (fun _ _ _ hg h => blkq h hg) <|
  Go.Dwo.fa_cons (fun _ _ _ hg h => own_belowL h hg) <|
  Go.Dwo.fa_cons (fun _ _ _ _ h => h) <|
  Go.Dwo.fa_cons (fun _ _ _ _ h => h) <|
  Go.Dwo.fa_cons (fun _ _ _ _ h => h) <|
  Go.Dwo.fa_cons (fun _ _ _ _ h => h) <|
  Go.Dwo.fa_cons (fun _ _ _ hg h => (by obtain ⟨A, c, h1, h2⟩ := h; exact ⟨A, c, h1, h2.below hg⟩)) <|
  Go.Dwo.fa_cons (fun _ _ _ hg h => (by obtain ⟨S, sn, sc, A, c, h1, h2, h3⟩ := h; exact ⟨S, sn, sc, A, c, h1, h2, h3.below hg⟩)) <|
  Go.Dwo.fa_cons (fun _ _ _ _ h => h) <|
  Go.Dwo.fa_cons (fun _ _ _ _ h => h) <|
  Go.Dwo.fa_cons (fun _ _ _ hg h => (by obtain ⟨S, sn, sc, A, c, h1, h2, h3, h4⟩ := h; exact ⟨S, sn, sc, A, c, h1, h2, h3.below hg, blkq h4 hg⟩)) <|
  Go.Dwo.fa_cons (fun _ _ _ _ h => h) <|
  Go.Dwo.fa_nil _
set_option maxRecDepth 100000 in
set_option maxHeartbeats 8000000 in
theorem mixR_any (x y : EdtM) (w : World) (hx : EdtOk w x) (hy : EdtOk w y) (hp : HasPow w) : Calls Tryz.prog 7 #[x.v, y.v] w (EdiR (mixE isNm 1000000 x.x y.x) w) := by
  obtain ⟨r, hr⟩ : ∃ r, mixE isNm 1000000 x.x y.x = r := ⟨_, rfl⟩
  obtain ⟨f0, hf⟩ : ∃ f, twoF isNm 1000000 false x.x y.x = f := ⟨_, rfl⟩
  have HTW : Hid (∀ W, Gq w W → Calls Tryz.prog 15 #[x.v, y.v, .bool false] W fun e w' => e = .returned (.int .i64 f0) ∧ Gq W w') := fun W hW => by rw [← hf]; exact pairR_any x y false W (hx.below hW) (hy.below hW) (hp.below hW)
  have HBAD : Hid (f0 ≠ 0 → r = (e0, f0)) := fun hn => by rw [← hr, ← hf] at *; unfold mixE; rw [if_pos hn]
  have HGOOD : Hid (f0 = 0 → r = mkE isNm 1000000 ⟨x.rate, x.tracks, srtC (x.x.cs ++ y.x.cs)⟩) := fun h0 => by rw [← hr]; unfold mixE; rw [if_neg (by rw [hf]; exact fun k => k h0)]; rfl
  have HRX : Hid (f0 = 0 → ediF isNm 1000000 x.x = 0 ∧ ediF isNm 1000000 y.x = 0) := fun h0 => by rw [← hf] at h0; exact ⟨(twoF_ok h0).1, (twoF_ok h0).2.1⟩
  rw [hr]
  have HOX := Lib.hid hx
  have HOY := Lib.hid hy
  have HPO := Lib.hid hp
  clear hr hf hx hy hp
  obtain ⟨X, hX⟩ : ∃ X, x = X := ⟨_, rfl⟩
  obtain ⟨Y, hY⟩ : ∃ Y, y = Y := ⟨_, rfl⟩
  obtain ⟨xr, xt, ⟨xA, xd, xs⟩⟩ := x
  obtain ⟨yr, yt, ⟨yA, yd, ys⟩⟩ := y
  obtain ⟨xn, hxn⟩ : ∃ xn : Nat, xs.length = xn := ⟨_, rfl⟩
  obtain ⟨yn, hyn⟩ : ∃ yn : Nat, ys.length = yn := ⟨_, rfl⟩
  have hxv : X.v = .agg #[.int .i64 xr, .int .i64 xt, .slice xA xn xd] := by rw [← hX, ← hxn]; rfl
  have hyv : Y.v = .agg #[.int .i64 yr, .int .i64 yt, .slice yA yn yd] := by rw [← hY, ← hyn]; rfl
  have HXV := Lib.hid hxv
  have HXS : Hid (X.rate = xr ∧ X.tracks = xt ∧ X.cs = ⟨xA, xd, xs⟩ ∧ X.x.cs = xs.map CliM.x ∧ xs.length = xn) := by rw [← hX]; exact ⟨rfl, rfl, rfl, rfl, hxn⟩
  have HYS : Hid (Y.cs = ⟨yA, yd, ys⟩ ∧ Y.x.cs = ys.map CliM.x ∧ ys.length = yn) := by rw [← hY]; exact ⟨rfl, rfl, hyn⟩
  rw [hX] at HOX HTW HGOOD HRX ⊢
  rw [hY] at HOY HTW HGOOD HRX ⊢
  rw [hxv, hyv] at HTW ⊢
  clear hX hY hxn hyn hxv hyv
  obtain ⟨wa, hwa⟩ : ∃ wa, wa = w.alloc (.cells #[.int .i64 xr, .int .i64 xt, .slice xA xn xd] 24) := ⟨_, rfl⟩
  obtain ⟨wb, hwb⟩ : ∃ wb, wb = wa.alloc (.cells #[.int .i64 yr, .int .i64 yt, .slice yA yn yd] 24) := ⟨_, rfl⟩
  obtain ⟨wc, hwc⟩ : ∃ wc, wc = wb.alloc (.cells #[.int .i64 0, .int .i64 0, .slice none 0 0] 24) := ⟨_, rfl⟩
  have hza : wa.heap.size = w.heap.size + 1 := by rw [hwa]; simp
  have hzb : wb.heap.size = w.heap.size + 2 := by rw [hwb]; simp; omega
  have hzc : wc.heap.size = w.heap.size + 3 := by rw [hwc]; simp; omega
  have hga : Gq w wa := by rw [hwa]; exact (Gq.refl _).alloc _
  have hgb : Gq wa wb := by rw [hwb]; exact (Gq.refl _).alloc _
  have hgc : Gq wb wc := by rw [hwc]; exact (Gq.refl _).alloc _
  have HG : Hid (Gq w wc) := hga.trans (hgb.trans hgc)
  have HZ : Hid (wc.heap.size = w.heap.size + 3) := hzc
  have HKA : Hid (Blk wc w.heap.size 24 [.int .i64 xr, .int .i64 xt, .slice xA xn xd]) := by
    refine blkq (?_ : Blk wa w.heap.size _ _) (hgb.trans hgc); rw [hwa]; exact Blk.new w _ _
  have HKB : Hid (Blk wc (w.heap.size + 1) 24 [.int .i64 yr, .int .i64 yt, .slice yA yn yd]) := by
    refine blkq (?_ : Blk wb (w.heap.size + 1) _ _) hgc; rw [hwb, ← hza]; exact Blk.new wa _ _
  have HKR : Hid (Blk wc (w.heap.size + 2) 24 [.int .i64 0, .int .i64 0, .slice none 0 0]) := by
    rw [hwc, ← hzb]; exact Blk.new wb _ _
  have HCE : Hid (∀ W, Gq wc W → W.cell? ⟨w.heap.size, 0, none⟩ = some (.int .i64 xr) ∧ W.cell? ⟨w.heap.size, 1, none⟩ = some (.int .i64 xt) ∧ W.cell? ⟨w.heap.size, 2, none⟩ = some (.slice xA xn xd) ∧ W.cell? ⟨w.heap.size + 1, 0, none⟩ = some (.int .i64 yr) ∧ W.cell? ⟨w.heap.size + 1, 1, none⟩ = some (.int .i64 yt) ∧ W.cell? ⟨w.heap.size + 1, 2, none⟩ = some (.slice yA yn yd)) := fun W hW => by
    have k1 := blkq HKA.out hW
    have k2 := blkq HKB.out hW
    exact ⟨k1.cell 0, k1.cell 1, k1.cell 2, k2.cell 0, k2.cell 1, k2.cell 2⟩
  -- an end without an edit
  have HNO : Hid (∀ W, Gq wc W → (W.cell? ⟨w.heap.size + 2, 0, none⟩ = some (.int .i64 0) ∧ W.cell? ⟨w.heap.size + 2, 1, none⟩ = some (.int .i64 0) ∧ W.cell? ⟨w.heap.size + 2, 2, none⟩ = some (.slice none 0 0) ∧ W.frozen? ⟨w.heap.size + 2, 0, none⟩ = false ∧ W.frozen? ⟨w.heap.size + 2, 1, none⟩ = false ∧ W.frozen? ⟨w.heap.size + 2, 2, none⟩ = false) ∧ ∃ W', W' = ((W.setCell ⟨w.heap.size + 2, 0, none⟩ (.int .i64 0)).setCell ⟨w.heap.size + 2, 1, none⟩ (.int .i64 0)).setCell ⟨w.heap.size + 2, 2, none⟩ (.slice none 0 0) ∧ W'.cell? ⟨w.heap.size + 2, 0, none⟩ = some (.int .i64 0) ∧ W'.cell? ⟨w.heap.size + 2, 1, none⟩ = some (.int .i64 0) ∧ W'.cell? ⟨w.heap.size + 2, 2, none⟩ = some (.slice none 0 0) ∧ Gq w W') := fun W hW => by
    have hk := blkq HKR.out hW
    have h1 := setN_blk [.int .i64 0, .int .i64 0, .slice none 0 0] hk rfl
    exact ⟨⟨hk.cell 0, hk.cell 1, hk.cell 2, hk.frozen 0, hk.frozen 1, hk.frozen 2⟩, _, rfl, h1.cell 0, h1.cell 1, h1.cell 2, setN_below (by omega) [.int .i64 0, .int .i64 0, .slice none 0 0] W 0 (HG.out.trans hW)⟩
  have HE0 := Lib.hid runEd0
  obtain ⟨c0, c1, c2, c3, c4, c5⟩ := HCE.out wc (Gq.refl _)
  have HC1 := Lib.hid (HTW.out wc HG.out)
  rw [hwa] at hwb
  rw [hwb] at hwc
  have HWC := Lib.hid hwc
  clear hwa hwb hwc hga hgb hgc hza hzb hzc HTW
  by_cases hf0 : f0 = 0
  case neg =>
    have HR := Lib.hid (HBAD.out hf0)
    have hfb : (f0 != 0) = true := by simpa using hf0
    clear hf0 HBAD HGOOD HRX
    go_enter Tryz.func7, Tryz.ntmps7
    go_upto_region 1 with (fail)
    rw [← HWC.out]
    go_wp2_with fail
    refine HC1.out.mono ?_
    rintro e w2 ⟨rfl, hg2⟩
    obtain ⟨⟨k0, k1, k2, f0', f1, f2⟩, W', hW', e0', e1, e2, hge⟩ := HNO.out w2 hg2
    have HGE := Lib.hid hge
    have HWW := Lib.hid hW'
    have hrun := HE0.out w2
    clear hg2 hge hW' c0 c1 c2 c3 c4 c5 HC1
    go_wp2_with fail
    rw [← HWW.out]
    exact bodyPost_ret (v := .tuple #[.agg #[.int .i64 0, .int .i64 0, .slice none 0 0], .int .i64 f0]) (by simp [results, Tryz.results7, go_sem, e0', e1, e2]) rfl (ediR_none HR.out HGE.out)
  subst hf0
  obtain ⟨hrx, hry⟩ := HRX.out rfl
  have HRXA := Lib.hid (right_envR hrx)
  have HRYA := Lib.hid (right_envR hry)
  clear hrx hry HRX HBAD
  have HXR : Hid (∀ W, Gq w W → Rd W xA (xs.flatMap CliM.cs) ∧ ∀ c ∈ xs, CliOk W c) := fun W hW => by
    have h1 := HOX.out.below hW
    have h2 := HXS.out.2.2.1
    exact ⟨by have := h1.cr; rw [h2] at this; exact this, fun c hc => h1.co c (by rw [h2]; exact hc)⟩
  have HYR : Hid (∀ W, Gq w W → Rd W yA (ys.flatMap CliM.cs) ∧ ∀ c ∈ ys, CliOk W c) := fun W hW => by
    have h1 := HOY.out.below hW
    have h2 := HYS.out.1
    exact ⟨by have := h1.cr; rw [h2] at this; exact this, fun c hc => h1.co c (by rw [h2]; exact hc)⟩
  have HXL : Hid (xn ≤ 300) := by
    have h2 := HXS.out
    have h3 := HRXA.out.1
    rw [h2.2.2.1] at h3
    show _ ≤ _; rw [← h2.2.2.2.2]; exact h3
  have HYL : Hid (yn ≤ 300) := by
    have h2 := HYS.out
    have h3 := HRYA.out.1
    rw [h2.1] at h3
    show _ ≤ _; rw [← h2.2.2]; exact h3
  have hxl := HXL.out
  have hyl := HYL.out
  obtain ⟨ii, hii, hzi0, hzi1, hzi2⟩ := info_parts infoClP
  have HII := Lib.hid (And.intro hii (And.intro hzi0 (And.intro hzi1 hzi2)))
  clear hii hzi0 hzi1 hzi2
  go_enter Tryz.func7, Tryz.ntmps7
  go_upto_region 1 with (fail)
  rw [← HWC.out]
  go_wp2_with fail
  refine HC1.out.mono ?_
  rintro e w2 ⟨rfl, hg2⟩
  have HG2 : Hid (Gq wc w2) := hg2
  obtain ⟨d0, d1, d2, d3, d4, d5⟩ := HCE.out w2 HG2.out
  have hfb : ((0 : Int) != 0) = false := rfl
  have HR := Lib.hid (HGOOD.out (by simp))
  clear hg2 c0 c1 c2 c3 c4 c5 HC1 HWC HGOOD
  have HG3 : Hid (Gq wc w2) := HG2.out
  obtain ⟨SM, hSM⟩ : ∃ SM : List CliM, ys = SM := ⟨_, rfl⟩
  have HSM : Hid (SM.map CliM.x = Y.x.cs ∧ SM.length = yn ∧ ∀ c ∈ SM, ∀ W, Gq w W → CliOk W c) := by
    rw [← hSM, HYS.out.2.1]; exact ⟨rfl, HYS.out.2.2, fun c hc W hW => (HYR.out W hW).2 c hc⟩
  rw [hSM] at HYR
  clear hSM
  have HGD : Hid (r = mkE isNm 1000000 ⟨X.rate, X.tracks, srtC (X.x.cs ++ SM.map CliM.x)⟩) := by rw [HSM.out.1]; exact HR.out
  clear HR
  go_upto_region 5 with (fail)
  have HRX3 := Lib.hid (HXR.out w2 (HG.out.trans HG3.out)).1
  have HXFL : Hid ((xs.flatMap CliM.cs).length = xn * 7) := by show _ = _; rw [flat_len CliM.cs 7 (fun _ => rfl), HXS.out.2.2.2.2]
  have HZ3 : Hid (w.heap.size + 3 ≤ w2.heap.size) := by have h1 := Below.size HG3.out; have h2 := HZ.out; show _ ≤ _; omega
  go_upto_region 6 with (at_builtin; refine wpList_append_rd (by rfl) (.tmp 15) (.tmp 17) 22 (by rfl) (w.heap.size + 3) 37 ii _ 7 80 Tryz.underlying22 HII.out.1 HII.out.2.1 HII.out.2.2.1 HII.out.2.2.2 rfl (by decide) (.slice none 0 0) 0 [] (by rfl) (World.ownsRow_nil _ _ _ _) xA xn xd (xs.flatMap CliM.cs) (by rfl) HXFL.out HRX3.out (cli_oneP xs) (by unfold maxLen; omega) (by omega) HZ3.out ?_; intro v5 w5 hown5 hg5)
  have HO5 : Hid (w5.ownsRow (w.heap.size + 3) 37 7 v5 xn (xs.flatMap CliM.cs)) := by
    have h1 := hown5
    rw [Nat.zero_add, List.nil_append] at h1; exact h1
  have HG5 : Hid (Gq wc w5) := HG3.out.trans (gq_none hg5)
  obtain ⟨A1, q1, rfl⟩ := slice_of_own HO5.out
  clear hown5 hg5 HRX3
  obtain ⟨ff, hf⟩ : ∃ ff, ediF isNm 1000000 ⟨X.rate, X.tracks, srtC (X.x.cs ++ SM.map CliM.x)⟩ = ff := ⟨_, rfl⟩
  have HRG : Hid (ff ≠ 0 → r = (e0, ff)) := fun hn => by rw [HGD.out]; rw [← hf] at hn ⊢; exact mkE_bad hn
  have HRK : Hid (ff = 0 → r = (⟨X.rate, X.tracks, srtC (X.x.cs ++ SM.map CliM.x)⟩, 0)) := fun hn => by rw [HGD.out]; rw [← hf] at hn; exact mkE_ok hn
  obtain ⟨z1, hz1⟩ : ∃ z : Int, (if ff = 0 then xr else 0) = z := ⟨_, rfl⟩
  obtain ⟨z2, hz2⟩ : ∃ z : Int, (if ff = 0 then xt else 0) = z := ⟨_, rfl⟩
  obtain ⟨XL, hXL⟩ : ∃ L, xs.flatMap CliM.cs = L := ⟨_, rfl⟩
  obtain ⟨SL, hSL⟩ : ∃ L, SM.flatMap CliM.cs = L := ⟨_, rfl⟩
  obtain ⟨L, hL⟩ : ∃ L, (srtF CliM.x (xs ++ SM)).flatMap CliM.cs = L := ⟨_, rfl⟩
  have hXX : (xs ++ SM).map CliM.x = X.x.cs ++ SM.map CliM.x := by rw [List.map_append, HXS.out.2.2.2.1]
  have hlen2 : (xs ++ SM).length = xn + yn := by rw [List.length_append, HXS.out.2.2.2.2, HSM.out.2.1]
  have HMK' : Hid (∀ W A c, Gq w W → Rd W A (XL ++ SL) → Calls Tryz.prog 18 #[.agg #[.int .i64 xr, .int .i64 xt, .slice xA xn xd], .slice A (xn + yn) c] W fun e w' => ∃ S sn sc A' c', e = .returned (.tuple #[.agg #[.int .i64 z1, .int .i64 z2, .slice S sn sc], .int .i64 ff]) ∧ ((ff = 0 → S = A' ∧ sn = xn + yn ∧ sc = c') ∧ (ff ≠ 0 → S = none ∧ sn = 0 ∧ sc = 0)) ∧ RdT 37 w' A' L ∧ Gq W w') := fun W A c hW hr => by
    have h1 := HXS.out
    have := madeR_any xr xt xA xn xd A c (xs ++ SM) W (by rw [← h1.1]; exact HOX.out.rate) (by rw [← h1.2.1]; exact HOX.out.tracks) (by rw [List.flatMap_append, hXL, hSL]; exact hr) (fun z hz => by
      rcases List.mem_append.1 hz with hz | hz
      · exact (HXR.out W hW).2 z hz
      · exact HSM.out.2.2 z hz W hW) (by omega) (HPO.out.below hW)
    have he : ediF isNm 1000000 ⟨xr, xt, srtC ((xs ++ SM).map CliM.x)⟩ = ff := by rw [hXX, ← h1.1, ← h1.2.1]; exact hf
    rw [he, hlen2, hL] at this
    refine this.mono fun e w' ⟨A', c', h1, h2, h3⟩ => ?_
    by_cases h0 : ff = 0
    · rw [h0, ckV_ok] at h1
      exact ⟨A', xn + yn, c', A', c', by rw [← hz1, ← hz2, if_pos h0, if_pos h0, h0]; exact h1, ⟨fun _ => ⟨rfl, rfl, rfl⟩, fun k => absurd h0 k⟩, h2, h3⟩
    · rw [ckV_bad h0] at h1
      exact ⟨none, 0, 0, A', c', by rw [← hz1, ← hz2, if_neg h0, if_neg h0]; exact h1, ⟨fun k => absurd k h0, fun _ => ⟨rfl, rfl, rfl⟩⟩, h2, h3⟩
  have HFIN' : Hid (∀ W S sn sc A' c', Gq w W → ((ff = 0 → S = A' ∧ sn = xn + yn ∧ sc = c') ∧ (ff ≠ 0 → S = none ∧ sn = 0 ∧ sc = 0)) → RdT 37 W A' L → EdiR r w (.returned (.tuple #[.agg #[.int .i64 z1, .int .i64 z2, .slice S sn sc], .int .i64 ff])) W) := fun W S sn sc A' c' hW hk hr => by
    by_cases h0 : ff = 0
    · obtain ⟨rfl, rfl, rfl⟩ := hk.1 h0
      have h1 := HXS.out
      have hm : (srtF CliM.x (xs ++ SM)).map CliM.x = srtC (X.x.cs ++ SM.map CliM.x) := by rw [← hXX]; exact srt_map id CliM.x (xs ++ SM)
      have hsl : (srtF CliM.x (xs ++ SM)).length = xn + yn := by rw [srtF_len]; exact hlen2
      refine ⟨hW, ⟨xr, xt, ⟨S, sc, srtF CliM.x (xs ++ SM)⟩⟩, ?_, ?_, ?_⟩
      · rw [← hz1, ← hz2, if_pos h0, if_pos h0, HRK.out h0, h0]
        show _ = Ending.returned (.tuple #[.agg #[.int .i64 xr, .int .i64 xt, .slice S (srtF CliM.x (xs ++ SM)).length sc], .int .i64 0])
        rw [hsl]
      · rw [HRK.out h0, ← hm, h1.1, h1.2.1]; rfl
      · refine ⟨by rw [← h1.1]; exact HOX.out.rate, by rw [← h1.2.1]; exact HOX.out.tracks, by show (srtF CliM.x (xs ++ SM)).length ≤ _; omega, by show Rd _ _ _; rw [hL]; exact hr.rd, fun z hz => ?_⟩
        rcases List.mem_append.1 ((srt_perm CliM.x (xs ++ SM)).mem_iff.1 hz) with hz | hz
        · exact (HXR.out W hW).2 z hz
        · exact HSM.out.2.2 z hz W hW
    · obtain ⟨rfl, rfl, rfl⟩ := hk.2 h0
      rw [← hz1, ← hz2, if_neg h0, if_neg h0]
      exact ediR_none (HRG.out h0) hW
  have HSLL : Hid (SL.length = yn * 7 ∧ ∀ u ∈ SL, u.oneCell' = true) := by rw [← hSL]; exact ⟨by rw [flat_len CliM.cs 7 (fun _ => rfl), HSM.out.2.1], cli_oneP SM⟩
  have HNB : Hid (xn + yn ≤ maxLen ∧ (xn + yn) * 80 ≤ 140737488355328) := ⟨by unfold maxLen; omega, by omega⟩
  have HRY' : Hid (∀ W, Gq w W → Rd W yA SL) := fun W hW => by rw [← hSL]; exact (HYR.out W hW).1
  obtain ⟨w0, hw0⟩ : ∃ w0, w0 = w := ⟨_, rfl⟩
  have HMK : Hid (∀ W A c, Gq w0 W → Rd W A (XL ++ SL) → Calls Tryz.prog 18 #[.agg #[.int .i64 xr, .int .i64 xt, .slice xA xn xd], .slice A (xn + yn) c] W fun e w' => ∃ S sn sc A' c', e = .returned (.tuple #[.agg #[.int .i64 z1, .int .i64 z2, .slice S sn sc], .int .i64 ff]) ∧ ((ff = 0 → S = A' ∧ sn = xn + yn ∧ sc = c') ∧ (ff ≠ 0 → S = none ∧ sn = 0 ∧ sc = 0)) ∧ RdT 37 w' A' L ∧ Gq W w') := by rw [hw0]; exact HMK'.out
  have HRY : Hid (∀ W, Gq w0 W → Rd W yA SL) := by rw [hw0]; exact HRY'.out
  have HFIN : Hid (∀ W S sn sc A' c', Gq w0 W → ((ff = 0 → S = A' ∧ sn = xn + yn ∧ sc = c') ∧ (ff ≠ 0 → S = none ∧ sn = 0 ∧ sc = 0)) → RdT 37 W A' L → EdiR r w0 (.returned (.tuple #[.agg #[.int .i64 z1, .int .i64 z2, .slice S sn sc], .int .i64 ff])) W) := by rw [hw0]; exact HFIN'.out
  have HBASE : Hid (Gq w0 w5.drew ∧ w0.heap.size + 3 ≤ w5.drew.heap.size) := by
    rw [hw0]; exact ⟨(HG.out.trans HG5.out).drew, by have := Below.size HG5.out; have := HZ.out; show _ ≤ w5.heap.size; omega⟩
  have HBA : Hid (Blk w5.drew w0.heap.size 24 [.int .i64 xr, .int .i64 xt, .slice xA xn xd]) := by rw [hw0]; exact blkq HKA.out HG5.out.drew
  have HBB : Hid (Blk w5.drew (w0.heap.size + 1) 24 [.int .i64 yr, .int .i64 yt, .slice yA yn yd]) := by rw [hw0]; exact blkq HKB.out HG5.out.drew
  have HBR : Hid (Blk w5.drew (w0.heap.size + 2) 24 [.int .i64 0, .int .i64 0, .slice none 0 0]) := by rw [hw0]; exact blkq HKR.out HG5.out.drew
  have HROW : Hid (w5.drew.ownsRow (w0.heap.size + 3) 37 7 (.slice A1 xn q1) xn XL) := by rw [hw0, ← hXL]; exact own_belowL HO5.out (Gq.refl _).drew
  subst hw0
  clear HXR HYR HOX HOY HPO HXS HYS HKA HKB HKR HCE HNO HO5 HMK' HFIN' HRG HRK HGD hf hz1 hz2 hXL hSL hL hXX hlen2 HSM HXV HZ HG HXFL HRY'
  refine Go.Dwo.wp_region_factsK _ (by kernel_rfl) [[], [], [], [2], [1, 2, 3], [0, 1, 2, 3, 4], [0, 1, 2, 3, 4, 5], [0, 1, 2, 3, 4, 5], [0, 1, 2, 3, 4, 5, 6], [0, 1, 2, 3, 4, 5, 7]] (by kernel_rfl) (by kernel_rfl) [some 19, some 20, some 21, some 22, some 23, some 24, some 25, some 26, none, some 5] (by kernel_rfl) (fun vs => by simp only [Go.Dwo.putA, Go.Dwo.putL, if_true, Act.put, List.setIfInBounds_toArray, List.set_cons_zero, List.set_cons_succ]; rfl) (mxrF w0 xr xt xA xn xd yr yt yA yn yd A1 q1 XL SL L ff z1 z2) (by kernel_rfl) ?_ ⟨?_, ?_, ?_, ?_, ?_, ?_, ?_, ?_, ?_, ?_, trivial⟩ ?_
  · exact Go.Dwo.fa_zero [0, 1, 2, 3, 4] (by kernel_rfl) <| Go.Dwo.fa_cons (HBASE.out) <| Go.Dwo.fa_cons (HBA.out) <| Go.Dwo.fa_cons (HBB.out) <| Go.Dwo.fa_cons (HBR.out) <| Go.Dwo.fa_cons (HROW.out) <| Go.Dwo.fa_nil _
  · -- 0: Op.load 24 t2
    intro Ls vs w Kk H hu hD hK
    replace hu : ∀ k ∈ ([] : List Nat), Ls k = true := hu
    replace hD : ∀ k ∈ ([0, 5, 6, 7, 8, 9] : List Nat), Ls k = false := Go.Dwo.fa_cons (hD 0 (.inl rfl)) <| Go.Dwo.fa_cons (hD 5 (.inr (by decide))) <| Go.Dwo.fa_cons (hD 6 (.inr (by decide))) <| Go.Dwo.fa_cons (hD 7 (.inr (by decide))) <| Go.Dwo.fa_cons (hD 8 (.inr (by decide))) <| Go.Dwo.fa_cons (hD 9 (.inr (by decide))) <| Go.Dwo.fa_nil _
    simp only [Go.Dwo.actOf, List.getD_cons_zero]
    have qbase : Gq w0 w ∧ w0.heap.size + 3 ≤ w.heap.size := H.up hu hD 0 rfl rfl rfl
    obtain ⟨h0, hz⟩ := qbase
    have bA : Blk w w0.heap.size 24 [.int .i64 xr, .int .i64 xt, .slice xA xn xd] := H.up hu hD 1 rfl rfl rfl
    have bB : Blk w (w0.heap.size + 1) 24 [.int .i64 yr, .int .i64 yt, .slice yA yn yd] := H.up hu hD 2 rfl rfl rfl
    have bR : Blk w (w0.heap.size + 2) 24 [.int .i64 0, .int .i64 0, .slice none 0 0] := H.up hu hD 3 rfl rfl rfl
    have d0 : w.cell? ⟨w0.heap.size, 0, none⟩ = _ := bA.cell 0
    have d1 : w.cell? ⟨w0.heap.size, 1, none⟩ = _ := bA.cell 1
    have d2 : w.cell? ⟨w0.heap.size, 2, none⟩ = _ := bA.cell 2
    simp only [List.getElem?_cons_zero, List.getElem?_cons_succ] at d0 d1 d2
    have hKK := Lib.hid hK
    clear hK H hu hD
    go_simp
    refine hKK.out _ _ (fun f _ _ _ _ h => h) ?_
    exact Go.Dwo.fa_pick [5] (by kernel_rfl) <| Go.Dwo.fa_cons (fun _ => rfl) <| Go.Dwo.fa_nil _
  · -- 1: Op.move t7
    intro Ls vs w Kk H hu hD hK
    replace hu : ∀ k ∈ ([] : List Nat), Ls k = true := hu
    replace hD : ∀ k ∈ ([1, 4, 5, 6, 7, 8, 9] : List Nat), Ls k = false := Go.Dwo.fa_cons (hD 1 (.inl rfl)) <| Go.Dwo.fa_cons (hD 4 (.inr (by decide))) <| Go.Dwo.fa_cons (hD 5 (.inr (by decide))) <| Go.Dwo.fa_cons (hD 6 (.inr (by decide))) <| Go.Dwo.fa_cons (hD 7 (.inr (by decide))) <| Go.Dwo.fa_cons (hD 8 (.inr (by decide))) <| Go.Dwo.fa_cons (hD 9 (.inr (by decide))) <| Go.Dwo.fa_nil _
    simp only [Go.Dwo.actOf, List.getD_cons_succ, List.getD_cons_zero]
    have qbase : Gq w0 w ∧ w0.heap.size + 3 ≤ w.heap.size := H.up hu hD 0 rfl rfl rfl
    obtain ⟨h0, hz⟩ := qbase
    have bA : Blk w w0.heap.size 24 [.int .i64 xr, .int .i64 xt, .slice xA xn xd] := H.up hu hD 1 rfl rfl rfl
    have bB : Blk w (w0.heap.size + 1) 24 [.int .i64 yr, .int .i64 yt, .slice yA yn yd] := H.up hu hD 2 rfl rfl rfl
    have bR : Blk w (w0.heap.size + 2) 24 [.int .i64 0, .int .i64 0, .slice none 0 0] := H.up hu hD 3 rfl rfl rfl
    have row : w.ownsRow (w0.heap.size + 3) 37 7 (.slice A1 xn q1) xn XL := H.up hu hD 4 rfl rfl rfl
    have hKK := Lib.hid hK
    clear hK H hu hD
    go_simp
    refine hKK.out _ _ (fun f _ _ _ _ h => h) ?_
    exact Go.Dwo.fa_pick [6] (by kernel_rfl) <| Go.Dwo.fa_cons (fun _ => rfl) <| Go.Dwo.fa_nil _
  · -- 2: Op.fieldAddr 24 t3 2
    intro Ls vs w Kk H hu hD hK
    replace hu : ∀ k ∈ ([] : List Nat), Ls k = true := hu
    replace hD : ∀ k ∈ ([2, 3, 4, 5, 6, 7, 8, 9] : List Nat), Ls k = false := Go.Dwo.fa_cons (hD 2 (.inl rfl)) <| Go.Dwo.fa_cons (hD 3 (.inr (by decide))) <| Go.Dwo.fa_cons (hD 4 (.inr (by decide))) <| Go.Dwo.fa_cons (hD 5 (.inr (by decide))) <| Go.Dwo.fa_cons (hD 6 (.inr (by decide))) <| Go.Dwo.fa_cons (hD 7 (.inr (by decide))) <| Go.Dwo.fa_cons (hD 8 (.inr (by decide))) <| Go.Dwo.fa_cons (hD 9 (.inr (by decide))) <| Go.Dwo.fa_nil _
    simp only [Go.Dwo.actOf, List.getD_cons_succ, List.getD_cons_zero]
    have qbase : Gq w0 w ∧ w0.heap.size + 3 ≤ w.heap.size := H.up hu hD 0 rfl rfl rfl
    obtain ⟨h0, hz⟩ := qbase
    have bA : Blk w w0.heap.size 24 [.int .i64 xr, .int .i64 xt, .slice xA xn xd] := H.up hu hD 1 rfl rfl rfl
    have bB : Blk w (w0.heap.size + 1) 24 [.int .i64 yr, .int .i64 yt, .slice yA yn yd] := H.up hu hD 2 rfl rfl rfl
    have bR : Blk w (w0.heap.size + 2) 24 [.int .i64 0, .int .i64 0, .slice none 0 0] := H.up hu hD 3 rfl rfl rfl
    have row : w.ownsRow (w0.heap.size + 3) 37 7 (.slice A1 xn q1) xn XL := H.up hu hD 4 rfl rfl rfl
    have hKK := Lib.hid hK
    clear hK H hu hD
    go_simp
    refine hKK.out _ _ (fun f _ _ _ _ h => h) ?_
    exact Go.Dwo.fa_pick [7] (by kernel_rfl) <| Go.Dwo.fa_cons (fun _ => rfl) <| Go.Dwo.fa_nil _
  · -- 3: Op.load 22 t21
    intro Ls vs w Kk H hu hD hK
    replace hu : ∀ k ∈ ([2] : List Nat), Ls k = true := hu
    replace hD : ∀ k ∈ ([3, 4, 5, 6, 7, 8, 9] : List Nat), Ls k = false := Go.Dwo.fa_cons (hD 3 (.inl rfl)) <| Go.Dwo.fa_cons (hD 4 (.inr (by decide))) <| Go.Dwo.fa_cons (hD 5 (.inr (by decide))) <| Go.Dwo.fa_cons (hD 6 (.inr (by decide))) <| Go.Dwo.fa_cons (hD 7 (.inr (by decide))) <| Go.Dwo.fa_cons (hD 8 (.inr (by decide))) <| Go.Dwo.fa_cons (hD 9 (.inr (by decide))) <| Go.Dwo.fa_nil _
    simp only [Go.Dwo.actOf, List.getD_cons_succ, List.getD_cons_zero]
    have qbase : Gq w0 w ∧ w0.heap.size + 3 ≤ w.heap.size := H.up hu hD 0 rfl rfl rfl
    obtain ⟨h0, hz⟩ := qbase
    have bA : Blk w w0.heap.size 24 [.int .i64 xr, .int .i64 xt, .slice xA xn xd] := H.up hu hD 1 rfl rfl rfl
    have bB : Blk w (w0.heap.size + 1) 24 [.int .i64 yr, .int .i64 yt, .slice yA yn yd] := H.up hu hD 2 rfl rfl rfl
    have bR : Blk w (w0.heap.size + 2) 24 [.int .i64 0, .int .i64 0, .slice none 0 0] := H.up hu hD 3 rfl rfl rfl
    have row : w.ownsRow (w0.heap.size + 3) 37 7 (.slice A1 xn q1) xn XL := H.up hu hD 4 rfl rfl rfl
    have f2 : vs 2 = .pointer (some ⟨w0.heap.size + 1, 2, none⟩) := H.up hu hD 7 rfl rfl rfl
    have d0 : w.cell? ⟨w0.heap.size + 1, 0, none⟩ = _ := bB.cell 0
    have d1 : w.cell? ⟨w0.heap.size + 1, 1, none⟩ = _ := bB.cell 1
    have d2 : w.cell? ⟨w0.heap.size + 1, 2, none⟩ = _ := bB.cell 2
    simp only [List.getElem?_cons_zero, List.getElem?_cons_succ] at d0 d1 d2
    have hKK := Lib.hid hK
    clear hK H hu hD
    go_simp
    refine hKK.out _ _ (fun f _ _ _ _ h => h) ?_
    exact Go.Dwo.fa_pick [8] (by kernel_rfl) <| Go.Dwo.fa_cons (fun _ => rfl) <| Go.Dwo.fa_nil _
  · -- 4: Op.call { builtin append, args := #[t20, t22], argTypes := #[22, 22] }
    intro Ls vs w Kk H hu hD hK
    replace hu : ∀ k ∈ ([1, 2, 3] : List Nat), Ls k = true := hu
    replace hD : ∀ k ∈ ([4, 5, 6, 7, 8, 9] : List Nat), Ls k = false := Go.Dwo.fa_cons (hD 4 (.inl rfl)) <| Go.Dwo.fa_cons (hD 5 (.inr (by decide))) <| Go.Dwo.fa_cons (hD 6 (.inr (by decide))) <| Go.Dwo.fa_cons (hD 7 (.inr (by decide))) <| Go.Dwo.fa_cons (hD 8 (.inr (by decide))) <| Go.Dwo.fa_cons (hD 9 (.inr (by decide))) <| Go.Dwo.fa_nil _
    simp only [Go.Dwo.actOf, List.getD_cons_succ, List.getD_cons_zero]
    have qbase : Gq w0 w ∧ w0.heap.size + 3 ≤ w.heap.size := H.up hu hD 0 rfl rfl rfl
    obtain ⟨h0, hz⟩ := qbase
    have bA : Blk w w0.heap.size 24 [.int .i64 xr, .int .i64 xt, .slice xA xn xd] := H.up hu hD 1 rfl rfl rfl
    have bB : Blk w (w0.heap.size + 1) 24 [.int .i64 yr, .int .i64 yt, .slice yA yn yd] := H.up hu hD 2 rfl rfl rfl
    have bR : Blk w (w0.heap.size + 2) 24 [.int .i64 0, .int .i64 0, .slice none 0 0] := H.up hu hD 3 rfl rfl rfl
    have row : w.ownsRow (w0.heap.size + 3) 37 7 (.slice A1 xn q1) xn XL := H.up hu hD 4 rfl rfl rfl
    have f1 : vs 1 = .slice A1 xn q1 := H.up hu hD 6 rfl rfl rfl
    have f3 : vs 3 = .slice yA yn yd := H.up hu hD 8 rfl rfl rfl
    have HDD := Lib.hid hD
    have HH := Lib.hid H
    have hKK := Lib.hid hK
    clear hK H hu hD
    simp only [Nat.zero_add, Nat.reduceAdd, f1, f3]
    refine Eq.mpr (if_pos rfl) ?_
    refine Go.Dwo.tame_append_rd (.tmp 20) (.tmp 22) 22 rfl (w0.heap.size + 3) 37 ii _ 7 80 Tryz.underlying22 HII.out.1 HII.out.2.1 HII.out.2.2.1 HII.out.2.2.2 rfl (by decide) (.slice A1 xn q1) xn XL (by rfl) row yA yn yd SL (by rfl) HSLL.out.1 (HRY.out w h0) HSLL.out.2 HNB.out.1 HNB.out.2 hz ?_
    intro A' c' w' hown hgr
    refine hKK.out _ _ (Go.Dwo.fa_cons (fun _ _ _ h => ⟨Below.grown h.1 hgr (Below.size h.1) (fun k hk => by have := (row.lt k hk).1; omega), Nat.le_trans h.2 hgr.size⟩) <|
        Go.Dwo.fa_cons (fun _ _ _ h => blk_grown2 h hgr (fun e => by have := (row.lt _ e.symm).1; omega)) <|
        Go.Dwo.fa_cons (fun _ _ _ h => blk_grown2 h hgr (fun e => by have := (row.lt _ e.symm).1; omega)) <|
        Go.Dwo.fa_cons (fun _ _ _ h => blk_grown2 h hgr (fun e => by have := (row.lt _ e.symm).1; omega)) <|
        Go.Dwo.fa_cons (fun _ hn _ _ => absurd (show (4 : Nat) ∈ ([4, 5, 8] : List Nat) from by decide) hn) <|
        Go.Dwo.fa_cons (fun _ _ _ h => h) <|
        Go.Dwo.fa_cons (fun _ _ _ h => h) <|
        Go.Dwo.fa_cons (fun _ _ _ h => h) <|
        Go.Dwo.fa_cons (fun _ _ _ h => h) <|
        Go.Dwo.fa_cons (fun hn _ _ _ => absurd (show (4 : Nat) ∈ ([4] : List Nat) from by decide) hn) <|
        Go.Dwo.fa_cons (fun _ _ hon _ => absurd (hon 5 (show (5 : Nat) ∈ ([5] : List Nat) from by decide)) (by rw [HDD.out 5 (show (5 : Nat) ∈ ([4, 5, 6, 7, 8, 9] : List Nat) from by decide)]; decide)) <|
        Go.Dwo.fa_cons (fun _ _ hon _ => absurd (hon 5 (show (5 : Nat) ∈ ([5, 6] : List Nat) from by decide)) (by rw [HDD.out 5 (show (5 : Nat) ∈ ([4, 5, 6, 7, 8, 9] : List Nat) from by decide)]; decide)) <|
        Go.Dwo.fa_cons (fun _ _ hon _ => absurd (hon 5 (show (5 : Nat) ∈ ([5, 7] : List Nat) from by decide)) (by rw [HDD.out 5 (show (5 : Nat) ∈ ([4, 5, 6, 7, 8, 9] : List Nat) from by decide)]; decide)) <|
        Go.Dwo.fa_cons (fun _ _ hon _ => absurd (hon 5 (show (5 : Nat) ∈ ([5, 8] : List Nat) from by decide)) (by rw [HDD.out 5 (show (5 : Nat) ∈ ([4, 5, 6, 7, 8, 9] : List Nat) from by decide)]; decide)) <|
        Go.Dwo.fa_cons (fun _ _ hon _ => absurd (hon 7 (show (7 : Nat) ∈ ([7, 9] : List Nat) from by decide)) (by rw [HDD.out 7 (show (7 : Nat) ∈ ([4, 5, 6, 7, 8, 9] : List Nat) from by decide)]; decide)) <| Go.Dwo.fa_nil _) ?_
    exact Go.Dwo.fa_pick [9] (by kernel_rfl) <| Go.Dwo.fa_cons (fun _ => ⟨A', c', rfl, Rd.of_own hown⟩) <| Go.Dwo.fa_nil _
  · -- 5: Op.call { value (Operand.func 37), args := #[t19, t23], argTypes := #[24, 22] }
    intro Ls vs w Kk H hu hD hK
    replace hu : ∀ k ∈ ([0, 1, 2, 3, 4] : List Nat), Ls k = true := hu
    replace hD : ∀ k ∈ ([5, 6, 7, 8, 9] : List Nat), Ls k = false := Go.Dwo.fa_cons (hD 5 (.inl rfl)) <| Go.Dwo.fa_cons (hD 6 (.inr (by decide))) <| Go.Dwo.fa_cons (hD 7 (.inr (by decide))) <| Go.Dwo.fa_cons (hD 8 (.inr (by decide))) <| Go.Dwo.fa_cons (hD 9 (.inr (by decide))) <| Go.Dwo.fa_nil _
    simp only [Go.Dwo.actOf, List.getD_cons_succ, List.getD_cons_zero]
    have qbase : Gq w0 w ∧ w0.heap.size + 3 ≤ w.heap.size := H.up hu hD 0 rfl rfl rfl
    obtain ⟨h0, hz⟩ := qbase
    have bA : Blk w w0.heap.size 24 [.int .i64 xr, .int .i64 xt, .slice xA xn xd] := H.up hu hD 1 rfl rfl rfl
    have bB : Blk w (w0.heap.size + 1) 24 [.int .i64 yr, .int .i64 yt, .slice yA yn yd] := H.up hu hD 2 rfl rfl rfl
    have bR : Blk w (w0.heap.size + 2) 24 [.int .i64 0, .int .i64 0, .slice none 0 0] := H.up hu hD 3 rfl rfl rfl
    have f0 : vs 0 = .agg #[.int .i64 xr, .int .i64 xt, .slice xA xn xd] := H.up hu hD 5 rfl rfl rfl
    have qn9 : ∃ A c, vs 4 = .slice A (xn + yn) c ∧ Rd w A (XL ++ SL) := H.up hu hD 9 rfl rfl rfl
    obtain ⟨A9, c9, e9, r9⟩ := qn9
    have hKK := Lib.hid hK
    clear hK H hu hD
    go_simp
    refine (HMK.out w A9 c9 h0 r9).mono ?_
    rintro e w' ⟨S, sn, sc, A', c', rfl, hk, hr, hb⟩
    refine ⟨_, rfl, hKK.out _ _ (fun f hf _ _ _ h => mxrK w0 xr xt xA xn xd yr yt yA yn yd A1 q1 XL SL L ff z1 z2 f hf _ _ _ hb h) ?_⟩
    exact Go.Dwo.fa_pick [10, 11, 12, 13] (by kernel_rfl) <| Go.Dwo.fa_cons (fun _ => ⟨S, sn, sc, A', c', rfl, hk, hr⟩) <|
        Go.Dwo.fa_cons (fun hL => absurd (show (5 : Nat) ∈ ([0, 1, 2, 3, 4, 5] : List Nat) from by decide) (hL 6 (show (6 : Nat) ∈ ([5, 6] : List Nat) from by decide) (show (6 : Nat) ≠ 5 from by decide)).2) <|
        Go.Dwo.fa_cons (fun hL => absurd (show (5 : Nat) ∈ ([0, 1, 2, 3, 4, 5] : List Nat) from by decide) (hL 7 (show (7 : Nat) ∈ ([5, 7] : List Nat) from by decide) (show (7 : Nat) ≠ 5 from by decide)).2) <|
        Go.Dwo.fa_cons (fun hL => absurd (show (5 : Nat) ∈ ([0, 1, 2, 3, 4, 5, 6] : List Nat) from by decide) (hL 8 (show (8 : Nat) ∈ ([5, 8] : List Nat) from by decide) (show (8 : Nat) ≠ 5 from by decide)).2) <| Go.Dwo.fa_nil _
  · -- 6: Op.extract t24 0
    intro Ls vs w Kk H hu hD hK
    replace hu : ∀ k ∈ ([0, 1, 2, 3, 4, 5] : List Nat), Ls k = true := hu
    replace hD : ∀ k ∈ ([6, 8] : List Nat), Ls k = false := Go.Dwo.fa_cons (hD 6 (.inl rfl)) <| Go.Dwo.fa_cons (hD 8 (.inr (by decide))) <| Go.Dwo.fa_nil _
    simp only [Go.Dwo.actOf, List.getD_cons_succ, List.getD_cons_zero]
    have qbase : Gq w0 w ∧ w0.heap.size + 3 ≤ w.heap.size := H.up hu hD 0 rfl rfl rfl
    obtain ⟨h0, hz⟩ := qbase
    have bA : Blk w w0.heap.size 24 [.int .i64 xr, .int .i64 xt, .slice xA xn xd] := H.up hu hD 1 rfl rfl rfl
    have bB : Blk w (w0.heap.size + 1) 24 [.int .i64 yr, .int .i64 yt, .slice yA yn yd] := H.up hu hD 2 rfl rfl rfl
    have bR : Blk w (w0.heap.size + 2) 24 [.int .i64 0, .int .i64 0, .slice none 0 0] := H.up hu hD 3 rfl rfl rfl
    have qn10 : ∃ S sn sc A c, vs 5 = .tuple #[.agg #[.int .i64 z1, .int .i64 z2, .slice S sn sc], .int .i64 ff] ∧ ((ff = 0 → S = A ∧ sn = xn + yn ∧ sc = c) ∧ (ff ≠ 0 → S = none ∧ sn = 0 ∧ sc = 0)) ∧ RdT 37 w A L := H.up hu hD 10 rfl rfl rfl
    obtain ⟨S0, sn0, sc0, A0, c0, e10, k10, r10⟩ := qn10
    have hKK := Lib.hid hK
    clear hK H hu hD
    go_simp
    refine hKK.out _ _ (fun f _ _ _ _ h => h) ?_
    exact Go.Dwo.fa_pick [11] (by kernel_rfl) <| Go.Dwo.fa_cons (fun _ => by show _ = tup (vs 5) 0; rw [show vs 5 = _ from e10]; rfl) <| Go.Dwo.fa_nil _
  · -- 7: Op.extract t24 1
    intro Ls vs w Kk H hu hD hK
    replace hu : ∀ k ∈ ([0, 1, 2, 3, 4, 5] : List Nat), Ls k = true := hu
    replace hD : ∀ k ∈ ([7, 9] : List Nat), Ls k = false := Go.Dwo.fa_cons (hD 7 (.inl rfl)) <| Go.Dwo.fa_cons (hD 9 (.inr (by decide))) <| Go.Dwo.fa_nil _
    simp only [Go.Dwo.actOf, List.getD_cons_succ, List.getD_cons_zero]
    have qbase : Gq w0 w ∧ w0.heap.size + 3 ≤ w.heap.size := H.up hu hD 0 rfl rfl rfl
    obtain ⟨h0, hz⟩ := qbase
    have bA : Blk w w0.heap.size 24 [.int .i64 xr, .int .i64 xt, .slice xA xn xd] := H.up hu hD 1 rfl rfl rfl
    have bB : Blk w (w0.heap.size + 1) 24 [.int .i64 yr, .int .i64 yt, .slice yA yn yd] := H.up hu hD 2 rfl rfl rfl
    have qn10 : ∃ S sn sc A c, vs 5 = .tuple #[.agg #[.int .i64 z1, .int .i64 z2, .slice S sn sc], .int .i64 ff] ∧ ((ff = 0 → S = A ∧ sn = xn + yn ∧ sc = c) ∧ (ff ≠ 0 → S = none ∧ sn = 0 ∧ sc = 0)) ∧ RdT 37 w A L := H.up hu hD 10 rfl rfl rfl
    obtain ⟨S0, sn0, sc0, A0, c0, e10, k10, r10⟩ := qn10
    have hKK := Lib.hid hK
    clear hK H hu hD
    go_simp
    refine hKK.out _ _ (fun f _ _ _ _ h => h) ?_
    exact Go.Dwo.fa_pick [12, 14] (by kernel_rfl) <| Go.Dwo.fa_cons (fun _ => by show _ = tup (vs 5) 1; rw [show vs 5 = _ from e10]; rfl) <|
        Go.Dwo.fa_cons (fun hL => absurd (show (7 : Nat) ∈ ([0, 1, 2, 3, 4, 5, 7] : List Nat) from by decide) (hL 9 (show (9 : Nat) ∈ ([7, 9] : List Nat) from by decide) (show (9 : Nat) ≠ 7 from by decide)).2) <| Go.Dwo.fa_nil _
  · -- 8: Op.store 24 t4 t25
    intro Ls vs w Kk H hu hD hK
    replace hu : ∀ k ∈ ([0, 1, 2, 3, 4, 5, 6] : List Nat), Ls k = true := hu
    replace hD : ∀ k ∈ ([8] : List Nat), Ls k = false := Go.Dwo.fa_cons (hD 8 (.inl rfl)) <| Go.Dwo.fa_nil _
    simp only [Go.Dwo.actOf, List.getD_cons_succ, List.getD_cons_zero]
    have qbase : Gq w0 w ∧ w0.heap.size + 3 ≤ w.heap.size := H.up hu hD 0 rfl rfl rfl
    obtain ⟨h0, hz⟩ := qbase
    have bA : Blk w w0.heap.size 24 [.int .i64 xr, .int .i64 xt, .slice xA xn xd] := H.up hu hD 1 rfl rfl rfl
    have bB : Blk w (w0.heap.size + 1) 24 [.int .i64 yr, .int .i64 yt, .slice yA yn yd] := H.up hu hD 2 rfl rfl rfl
    have bR : Blk w (w0.heap.size + 2) 24 [.int .i64 0, .int .i64 0, .slice none 0 0] := H.up hu hD 3 rfl rfl rfl
    have qn10 : ∃ S sn sc A c, vs 5 = .tuple #[.agg #[.int .i64 z1, .int .i64 z2, .slice S sn sc], .int .i64 ff] ∧ ((ff = 0 → S = A ∧ sn = xn + yn ∧ sc = c) ∧ (ff ≠ 0 → S = none ∧ sn = 0 ∧ sc = 0)) ∧ RdT 37 w A L := H.up hu hD 10 rfl rfl rfl
    obtain ⟨S0, sn0, sc0, A0, c0, e10, k10, r10⟩ := qn10
    have f11 : vs 6 = tup (vs 5) 0 := H.up hu hD 11 rfl rfl rfl
    have HDD := Lib.hid hD
    have HH := Lib.hid H
    rw [e10] at f11
    have d0 : w.cell? ⟨w0.heap.size + 2, 0, none⟩ = _ := bR.cell 0
    have y0 := bR.frozen 0
    have d1 : w.cell? ⟨w0.heap.size + 2, 1, none⟩ = _ := bR.cell 1
    have y1 := bR.frozen 1
    have d2 : w.cell? ⟨w0.heap.size + 2, 2, none⟩ = _ := bR.cell 2
    have y2 := bR.frozen 2
    simp only [List.getElem?_cons_zero, List.getElem?_cons_succ] at d0 d1 d2
    simp only [tup] at f11
    replace f11 : vs 6 = .agg #[.int .i64 z1, .int .i64 z2, .slice S0 sn0 sc0] := f11
    have hKK := Lib.hid hK
    clear hK H hu hD
    go_simp
    have HST := Lib.hid (setN_blk [.int .i64 z1, .int .i64 z2, .slice S0 sn0 sc0] bR rfl)
    refine hKK.out _ _ (Go.Dwo.fa_cons (fun _ _ _ h => ⟨setN_below (by omega) [.int .i64 z1, .int .i64 z2, .slice S0 sn0 sc0] w 0 h.1, by simp only [World.setCell, Array.size_modify]; exact h.2⟩) <|
        Go.Dwo.fa_cons (fun _ _ _ h => (setN_heap [.int .i64 z1, .int .i64 z2, .slice S0 sn0 sc0] w 0 _ (by omega)).trans h) <|
        Go.Dwo.fa_cons (fun _ _ _ h => (setN_heap [.int .i64 z1, .int .i64 z2, .slice S0 sn0 sc0] w 0 _ (by omega)).trans h) <|
        Go.Dwo.fa_cons (fun _ hn _ _ => absurd (show (8 : Nat) ∈ ([8] : List Nat) from by decide) hn) <|
        Go.Dwo.fa_cons (fun _ hn _ _ => absurd (show (8 : Nat) ∈ ([4, 5, 8] : List Nat) from by decide) hn) <|
        Go.Dwo.fa_cons (fun _ _ _ h => h) <|
        Go.Dwo.fa_cons (fun _ _ _ h => h) <|
        Go.Dwo.fa_cons (fun _ _ _ h => h) <|
        Go.Dwo.fa_cons (fun _ _ _ h => h) <|
        Go.Dwo.fa_cons (fun _ hn _ _ => absurd (show (8 : Nat) ∈ ([5, 8] : List Nat) from by decide) hn) <|
        Go.Dwo.fa_cons (fun _ _ _ h => (by obtain ⟨S, sn, sc, A, c, h1, h2, h3⟩ := h; exact ⟨S, sn, sc, A, c, h1, h2, h3.kp (setN_kp [.int .i64 z1, .int .i64 z2, .slice S0 sn0 sc0] bR (by decide) 0)⟩)) <|
        Go.Dwo.fa_cons (fun _ _ _ h => h) <|
        Go.Dwo.fa_cons (fun _ _ _ h => h) <|
        Go.Dwo.fa_cons (fun hn _ _ _ => absurd (show (8 : Nat) ∈ ([5, 8] : List Nat) from by decide) hn) <|
        Go.Dwo.fa_cons (fun _ _ _ h => h) <| Go.Dwo.fa_nil _) ?_
    exact Go.Dwo.fa_pick [13] (by kernel_rfl) <| Go.Dwo.fa_cons (fun _ => ⟨S0, sn0, sc0, A0, c0, e10, k10, r10.kp (setN_kp [.int .i64 z1, .int .i64 z2, .slice S0 sn0 sc0] bR (by decide) 0), HST.out⟩) <| Go.Dwo.fa_nil _
  · -- 9: Op.assign t26
    intro Ls vs w Kk H hu hD hK
    replace hu : ∀ k ∈ ([0, 1, 2, 3, 4, 5, 7] : List Nat), Ls k = true := hu
    replace hD : ∀ k ∈ ([9] : List Nat), Ls k = false := Go.Dwo.fa_cons (hD 9 (.inl rfl)) <| Go.Dwo.fa_nil _
    simp only [Go.Dwo.actOf, List.getD_cons_succ, List.getD_cons_zero]
    have qbase : Gq w0 w ∧ w0.heap.size + 3 ≤ w.heap.size := H.up hu hD 0 rfl rfl rfl
    obtain ⟨h0, hz⟩ := qbase
    have bA : Blk w w0.heap.size 24 [.int .i64 xr, .int .i64 xt, .slice xA xn xd] := H.up hu hD 1 rfl rfl rfl
    have bB : Blk w (w0.heap.size + 1) 24 [.int .i64 yr, .int .i64 yt, .slice yA yn yd] := H.up hu hD 2 rfl rfl rfl
    have hKK := Lib.hid hK
    clear hK H hu hD
    go_simp
    refine hKK.out _ _ (fun f _ _ _ _ h => h) ?_
    exact Go.Dwo.fa_pick [14] (by kernel_rfl) <| Go.Dwo.fa_cons (fun _ => rfl) <| Go.Dwo.fa_nil _
  · intro vs w H
    have qbase : Gq w0 w ∧ w0.heap.size + 3 ≤ w.heap.size := Go.Dwo.fa_at H 0 rfl rfl
    obtain ⟨h0, hz⟩ := qbase
    have bA : Blk w w0.heap.size 24 [.int .i64 xr, .int .i64 xt, .slice xA xn xd] := Go.Dwo.fa_at H 1 rfl rfl
    have bB : Blk w (w0.heap.size + 1) 24 [.int .i64 yr, .int .i64 yt, .slice yA yn yd] := Go.Dwo.fa_at H 2 rfl rfl
    have f0 : vs 0 = .agg #[.int .i64 xr, .int .i64 xt, .slice xA xn xd] := Go.Dwo.fa_at H 5 rfl rfl
    have f1 : vs 1 = .slice A1 xn q1 := Go.Dwo.fa_at H 6 rfl rfl
    have f2 : vs 2 = .pointer (some ⟨w0.heap.size + 1, 2, none⟩) := Go.Dwo.fa_at H 7 rfl rfl
    have f3 : vs 3 = .slice yA yn yd := Go.Dwo.fa_at H 8 rfl rfl
    have qn10 : ∃ S sn sc A c, vs 5 = .tuple #[.agg #[.int .i64 z1, .int .i64 z2, .slice S sn sc], .int .i64 ff] ∧ ((ff = 0 → S = A ∧ sn = xn + yn ∧ sc = c) ∧ (ff ≠ 0 → S = none ∧ sn = 0 ∧ sc = 0)) ∧ RdT 37 w A L := Go.Dwo.fa_at H 10 rfl rfl
    obtain ⟨S0, sn0, sc0, A0, c0, e10, k10, r10⟩ := qn10
    have f11 : vs 6 = tup (vs 5) 0 := Go.Dwo.fa_at H 11 rfl rfl
    have f12 : vs 7 = tup (vs 5) 1 := Go.Dwo.fa_at H 12 rfl rfl
    have qn13 : ∃ S sn sc A c, vs 5 = .tuple #[.agg #[.int .i64 z1, .int .i64 z2, .slice S sn sc], .int .i64 ff] ∧ ((ff = 0 → S = A ∧ sn = xn + yn ∧ sc = c) ∧ (ff ≠ 0 → S = none ∧ sn = 0 ∧ sc = 0)) ∧ RdT 37 w A L ∧ Blk w (w0.heap.size + 2) 24 [.int .i64 z1, .int .i64 z2, .slice S sn sc] := Go.Dwo.fa_at H 13 rfl rfl
    obtain ⟨S3, sn3, sc3, A3, c3, e13, k13, r13, b13⟩ := qn13
    have f14 : vs 9 = vs 7 := Go.Dwo.fa_at H 14 rfl rfl
    clear H
    simp only [Nat.zero_add, Nat.reduceAdd]
    have HG7 : Hid (Gq w0 w) := h0
    have HB13 : Hid (Blk w (w0.heap.size + 2) 24 [.int .i64 z1, .int .i64 z2, .slice S3 sn3 sc3]) := b13
    have HR13 : Hid (RdT 37 w A3 L) := r13
    have HK13 := Lib.hid k13
    have HF : Hid (vs 9 = .int .i64 ff) := by show _ = _; rw [f14, f12, e13]; rfl
    simp only [HF.out]
    have k0 : w.cell? ⟨w0.heap.size + 2, 0, none⟩ = some (.int .i64 z1) := HB13.out.cell 0
    have k1 : w.cell? ⟨w0.heap.size + 2, 1, none⟩ = some (.int .i64 z2) := HB13.out.cell 1
    have k2 : w.cell? ⟨w0.heap.size + 2, 2, none⟩ = some (.slice S3 sn3 sc3) := HB13.out.cell 2
    clear f0 f1 f2 f3 e10 f11 f12 e13 f14 h0 hz b13 r13 k13 k10 r10 bA bB
    go_wp2_with fail
    show bodyPost Tryz.prog Tryz.f7 _ _ _ _
    refine bodyPost_ret (v := .tuple #[.agg #[.int .i64 z1, .int .i64 z2, .slice S3 sn3 sc3], .int .i64 ff]) (by simp [results, Tryz.results7, go_sem, k0, k1, k2]) rfl ?_
    exact HFIN.out w S3 sn3 sc3 A3 c3 HG7.out HK13.out HR13.out
end Go.Proofs.YtmknpeoflafaoaaGreatDoor
/- Generated (gen/jnr.py): the contract of the reference's Join. -/
namespace Go.Proofs.YtmknpeoflafaoaaGreatDoor
open Go.RowKit Go.Dw
attribute [local go_sem ↓] Go.wp_at_zero Go.wp_at_succ
attribute [local go_sem] Go.Dwo.Oper.tame

set_option maxRecDepth 100000 in
theorem withinR_any (n lo hi : Int) (w : World) : Calls Tryz.prog 16 #[.int .i64 n, .int .i64 lo, .int .i64 hi] w fun e w' => e = .returned (.bool (decide (lo ≤ n ∧ n ≤ hi))) ∧ w = w' := by
  by_cases h1 : lo ≤ n
  · by_cases h2 : n ≤ hi
    · have HR : Hid (decide (lo ≤ n ∧ n ≤ hi) = true) := decide_eq_true ⟨h1, h2⟩
      rw [HR.out]
      have q1 : decide (lo ≤ n) = true := decide_eq_true h1
      have q2 : decide (n ≤ hi) = true := decide_eq_true h2
      go_enter Tryz.func16, Tryz.ntmps16
      go_wp2_with fail
      go_ret
      exact ⟨rfl, rfl⟩
    · have HR : Hid (decide (lo ≤ n ∧ n ≤ hi) = false) := decide_eq_false (fun h => h2 h.2)
      rw [HR.out]
      have q1 : decide (lo ≤ n) = true := decide_eq_true h1
      have q2 : decide (n ≤ hi) = false := decide_eq_false h2
      go_enter Tryz.func16, Tryz.ntmps16
      go_wp2_with fail
      go_ret
      exact ⟨rfl, rfl⟩
  · have HR : Hid (decide (lo ≤ n ∧ n ≤ hi) = false) := decide_eq_false (fun h => h1 h.1)
    rw [HR.out]
    have q1 : decide (lo ≤ n) = false := decide_eq_false h1
    go_enter Tryz.func16, Tryz.ntmps16
    go_wp2_with fail
    go_ret
    exact ⟨rfl, rfl⟩
def jnrF (w0 : World) (xr xt : Int) (xA : Option Addr) (xn xd : Nat) (yr yt : Int) (yA : Option Addr) (yn yd : Nat) (A1 : Option Addr) (q1 : Nat) (XL SL L : List Value) (ff z1 z2 : Int) (E n dd : Int) : List Go.Dwo.Fact := [
  ⟨[], [], fun _ W => Gq w0 W ∧ w0.heap.size + 3 ≤ W.heap.size⟩,
  ⟨[], [], fun _ W => Blk W w0.heap.size 24 [.int .i64 xr, .int .i64 xt, .slice xA xn xd]⟩,
  ⟨[], [], fun _ W => Blk W (w0.heap.size + 1) 24 [.int .i64 yr, .int .i64 yt, .slice yA yn yd]⟩,
  ⟨[], [13], fun _ W => Blk W (w0.heap.size + 2) 24 [.int .i64 0, .int .i64 0, .slice none 0 0]⟩,
  ⟨[], [9, 10, 13], fun _ W => W.ownsRow (w0.heap.size + 3) 37 7 (.slice A1 xn q1) xn XL⟩,
  ⟨[0], [], fun vs _ => vs 0 = .agg #[.int .i64 xr, .int .i64 xt, .slice xA xn xd]⟩,
  ⟨[1], [], fun vs _ => vs 1 = .slice A1 xn q1⟩,
  ⟨[2], [], fun vs _ => vs 2 = .pointer (some ⟨w0.heap.size + 1, 2, none⟩)⟩,
  ⟨[3], [], fun vs _ => vs 3 = .slice yA yn yd⟩,
  ⟨[4], [], fun vs _ => vs 4 = .agg #[.int .i64 xr, .int .i64 xt, .slice xA xn xd]⟩,
  ⟨[5], [], fun vs _ => vs 5 = .int .i64 E⟩,
  ⟨[6], [], fun vs _ => vs 6 = .int .i64 n⟩,
  ⟨[7], [], fun vs _ => vs 7 = .int .i64 dd⟩,
  ⟨[8], [9, 10, 13], fun vs W => ∃ A c, vs 8 = .slice A yn c ∧ Rd W A SL⟩,
  ⟨[9], [10, 13], fun vs W => ∃ A c, vs 9 = .slice A (xn + yn) c ∧ Rd W A (XL ++ SL)⟩,
  ⟨[10], [], fun vs W => ∃ S sn sc A c, vs 10 = .tuple #[.agg #[.int .i64 z1, .int .i64 z2, .slice S sn sc], .int .i64 ff] ∧ ((ff = 0 → S = A ∧ sn = xn + yn ∧ sc = c) ∧ (ff ≠ 0 → S = none ∧ sn = 0 ∧ sc = 0)) ∧ RdT 37 W A L⟩,
  ⟨[10, 11], [], fun vs _ => vs 11 = tup (vs 10) 0⟩,
  ⟨[10, 12], [], fun vs _ => vs 12 = tup (vs 10) 1⟩,
  ⟨[10, 13], [], fun vs W => ∃ S sn sc A c, vs 10 = .tuple #[.agg #[.int .i64 z1, .int .i64 z2, .slice S sn sc], .int .i64 ff] ∧ ((ff = 0 → S = A ∧ sn = xn + yn ∧ sc = c) ∧ (ff ≠ 0 → S = none ∧ sn = 0 ∧ sc = 0)) ∧ RdT 37 W A L ∧ Blk W (w0.heap.size + 2) 24 [.int .i64 z1, .int .i64 z2, .slice S sn sc]⟩,
  ⟨[12, 14], [], fun vs _ => vs 14 = vs 12⟩]
theorem jnrK (w0 : World) (xr xt : Int) (xA : Option Addr) (xn xd : Nat) (yr yt : Int) (yA : Option Addr) (yn yd : Nat) (A1 : Option Addr) (q1 : Nat) (XL SL L : List Value) (ff z1 z2 : Int) (E n dd : Int) : ∀ f ∈ jnrF w0 xr xt xA xn xd yr yt yA yn yd A1 q1 XL SL L ff z1 z2 E n dd, ∀ vs w w', Gq w w' → f.says vs w → f.says vs w' :=
  Go.Dwo.fa_cons (fun _ _ _ hg h => ⟨h.1.trans hg, Nat.le_trans h.2 (Below.size hg)⟩) <|
  Go.Dwo.fa_cons (fun _ _ _ hg h => blkq h hg) <|
  Go.Dwo.fa_cons (fun _ _ _ hg h => blkq h hg) <|
  Go.Dwo.fa_cons (fun _ _ _ hg h => blkq h hg) <|
  Go.Dwo.fa_cons (fun _ _ _ hg h => own_belowL h hg) <|
  Go.Dwo.fa_cons (fun _ _ _ _ h => h) <|
  Go.Dwo.fa_cons (fun _ _ _ _ h => h) <|
  Go.Dwo.fa_cons (fun _ _ _ _ h => h) <|
  Go.Dwo.fa_cons (fun _ _ _ _ h => h) <|
  Go.Dwo.fa_cons (fun _ _ _ _ h => h) <|
  Go.Dwo.fa_cons (fun _ _ _ _ h => h) <|
  Go.Dwo.fa_cons (fun _ _ _ _ h => h) <|
  Go.Dwo.fa_cons (fun _ _ _ _ h => h) <|
  Go.Dwo.fa_cons (fun _ _ _ hg h => (by obtain ⟨A, c, h1, h2⟩ := h; exact ⟨A, c, h1, h2.below hg⟩)) <|
  Go.Dwo.fa_cons (fun _ _ _ hg h => (by obtain ⟨A, c, h1, h2⟩ := h; exact ⟨A, c, h1, h2.below hg⟩)) <|
  Go.Dwo.fa_cons (fun _ _ _ hg h => (by obtain ⟨S, sn, sc, A, c, h1, h2, h3⟩ := h; exact ⟨S, sn, sc, A, c, h1, h2, h3.below hg⟩)) <|
  Go.Dwo.fa_cons (fun _ _ _ _ h => h) <|
  Go.Dwo.fa_cons (fun _ _ _ _ h => h) <|
  Go.Dwo.fa_cons (fun _ _ _ hg h => (by obtain ⟨S, sn, sc, A, c, h1, h2, h3, h4⟩ := h; exact ⟨S, sn, sc, A, c, h1, h2, h3.below hg, blkq h4 hg⟩)) <|
  Go.Dwo.fa_cons (fun _ _ _ _ h => h) <|
  Go.Dwo.fa_nil _
set_option maxRecDepth 100000 in
set_option maxHeartbeats 8000000 in
theorem joinR_any (x y : EdtM) (n : Int) (w : World) (hx : EdtOk w x) (hy : EdtOk w y) (hp : HasPow w) : Calls Tryz.prog 5 #[x.v, y.v, .int .i64 n] w (EdiR (joinE isNm 1000000 x.x y.x n) w) := by
  obtain ⟨r, hr⟩ : ∃ r, joinE isNm 1000000 x.x y.x n = r := ⟨_, rfl⟩
  obtain ⟨f0, hf⟩ : ∃ f, twoF isNm 1000000 false x.x y.x = f := ⟨_, rfl⟩
  have HTW : Hid (∀ W, Gq w W → Calls Tryz.prog 15 #[x.v, y.v, .bool false] W fun e w' => e = .returned (.int .i64 f0) ∧ Gq W w') := fun W hW => by rw [← hf]; exact pairR_any x y false W (hx.below hW) (hy.below hW) (hp.below hW)
  have HBAD : Hid (f0 ≠ 0 → r = (e0, f0)) := fun hn => by rw [← hr, ← hf] at *; unfold joinE; rw [if_pos hn]
  have HRNG : Hid (f0 = 0 → n < 0 ∨ endF x.x.cs < n → r = (e0, 1)) := fun h0 hn => by rw [← hr]; unfold joinE; rw [if_neg (by rw [hf]; exact fun k => k h0), if_pos hn]
  have HGOOD : Hid (f0 = 0 → ¬ (n < 0 ∨ endF x.x.cs < n) → r = mkE isNm 1000000 ⟨x.rate, x.tracks, srtC (x.x.cs ++ y.x.cs.map (movC (endF x.x.cs - n)))⟩) := fun h0 hn => by rw [← hr]; unfold joinE; rw [if_neg (by rw [hf]; exact fun k => k h0), if_neg hn]; rfl
  have HRX : Hid (f0 = 0 → ediF isNm 1000000 x.x = 0 ∧ ediF isNm 1000000 y.x = 0) := fun h0 => by rw [← hf] at h0; exact ⟨(twoF_ok h0).1, (twoF_ok h0).2.1⟩
  rw [hr]
  have HOX := Lib.hid hx
  have HOY := Lib.hid hy
  have HPO := Lib.hid hp
  clear hr hf hx hy hp
  obtain ⟨X, hX⟩ : ∃ X, x = X := ⟨_, rfl⟩
  obtain ⟨Y, hY⟩ : ∃ Y, y = Y := ⟨_, rfl⟩
  obtain ⟨xr, xt, ⟨xA, xd, xs⟩⟩ := x
  obtain ⟨yr, yt, ⟨yA, yd, ys⟩⟩ := y
  obtain ⟨xn, hxn⟩ : ∃ xn : Nat, xs.length = xn := ⟨_, rfl⟩
  obtain ⟨yn, hyn⟩ : ∃ yn : Nat, ys.length = yn := ⟨_, rfl⟩
  have hxv : X.v = .agg #[.int .i64 xr, .int .i64 xt, .slice xA xn xd] := by rw [← hX, ← hxn]; rfl
  have hyv : Y.v = .agg #[.int .i64 yr, .int .i64 yt, .slice yA yn yd] := by rw [← hY, ← hyn]; rfl
  have HXV := Lib.hid hxv
  have HXS : Hid (X.rate = xr ∧ X.tracks = xt ∧ X.cs = ⟨xA, xd, xs⟩ ∧ X.x.cs = xs.map CliM.x ∧ xs.length = xn) := by rw [← hX]; exact ⟨rfl, rfl, rfl, rfl, hxn⟩
  have HYS : Hid (Y.cs = ⟨yA, yd, ys⟩ ∧ Y.x.cs = ys.map CliM.x ∧ ys.length = yn) := by rw [← hY]; exact ⟨rfl, rfl, hyn⟩
  rw [hX] at HOX HTW HRNG HGOOD HRX ⊢
  rw [hY] at HOY HTW HGOOD HRX ⊢
  rw [hxv, hyv] at HTW ⊢
  clear hX hY hxn hyn hxv hyv
  obtain ⟨wa, hwa⟩ : ∃ wa, wa = w.alloc (.cells #[.int .i64 xr, .int .i64 xt, .slice xA xn xd] 24) := ⟨_, rfl⟩
  obtain ⟨wb, hwb⟩ : ∃ wb, wb = wa.alloc (.cells #[.int .i64 yr, .int .i64 yt, .slice yA yn yd] 24) := ⟨_, rfl⟩
  obtain ⟨wc, hwc⟩ : ∃ wc, wc = wb.alloc (.cells #[.int .i64 0, .int .i64 0, .slice none 0 0] 24) := ⟨_, rfl⟩
  have hza : wa.heap.size = w.heap.size + 1 := by rw [hwa]; simp
  have hzb : wb.heap.size = w.heap.size + 2 := by rw [hwb]; simp; omega
  have hzc : wc.heap.size = w.heap.size + 3 := by rw [hwc]; simp; omega
  have hga : Gq w wa := by rw [hwa]; exact (Gq.refl _).alloc _
  have hgb : Gq wa wb := by rw [hwb]; exact (Gq.refl _).alloc _
  have hgc : Gq wb wc := by rw [hwc]; exact (Gq.refl _).alloc _
  have HG : Hid (Gq w wc) := hga.trans (hgb.trans hgc)
  have HZ : Hid (wc.heap.size = w.heap.size + 3) := hzc
  have HKA : Hid (Blk wc w.heap.size 24 [.int .i64 xr, .int .i64 xt, .slice xA xn xd]) := by
    refine blkq (?_ : Blk wa w.heap.size _ _) (hgb.trans hgc); rw [hwa]; exact Blk.new w _ _
  have HKB : Hid (Blk wc (w.heap.size + 1) 24 [.int .i64 yr, .int .i64 yt, .slice yA yn yd]) := by
    refine blkq (?_ : Blk wb (w.heap.size + 1) _ _) hgc; rw [hwb, ← hza]; exact Blk.new wa _ _
  have HKR : Hid (Blk wc (w.heap.size + 2) 24 [.int .i64 0, .int .i64 0, .slice none 0 0]) := by
    rw [hwc, ← hzb]; exact Blk.new wb _ _
  have HCE : Hid (∀ W, Gq wc W → W.cell? ⟨w.heap.size, 0, none⟩ = some (.int .i64 xr) ∧ W.cell? ⟨w.heap.size, 1, none⟩ = some (.int .i64 xt) ∧ W.cell? ⟨w.heap.size, 2, none⟩ = some (.slice xA xn xd) ∧ W.cell? ⟨w.heap.size + 1, 0, none⟩ = some (.int .i64 yr) ∧ W.cell? ⟨w.heap.size + 1, 1, none⟩ = some (.int .i64 yt) ∧ W.cell? ⟨w.heap.size + 1, 2, none⟩ = some (.slice yA yn yd)) := fun W hW => by
    have k1 := blkq HKA.out hW
    have k2 := blkq HKB.out hW
    exact ⟨k1.cell 0, k1.cell 1, k1.cell 2, k2.cell 0, k2.cell 1, k2.cell 2⟩
  -- an end without an edit
  have HNO : Hid (∀ W, Gq wc W → (W.cell? ⟨w.heap.size + 2, 0, none⟩ = some (.int .i64 0) ∧ W.cell? ⟨w.heap.size + 2, 1, none⟩ = some (.int .i64 0) ∧ W.cell? ⟨w.heap.size + 2, 2, none⟩ = some (.slice none 0 0) ∧ W.frozen? ⟨w.heap.size + 2, 0, none⟩ = false ∧ W.frozen? ⟨w.heap.size + 2, 1, none⟩ = false ∧ W.frozen? ⟨w.heap.size + 2, 2, none⟩ = false) ∧ ∃ W', W' = ((W.setCell ⟨w.heap.size + 2, 0, none⟩ (.int .i64 0)).setCell ⟨w.heap.size + 2, 1, none⟩ (.int .i64 0)).setCell ⟨w.heap.size + 2, 2, none⟩ (.slice none 0 0) ∧ W'.cell? ⟨w.heap.size + 2, 0, none⟩ = some (.int .i64 0) ∧ W'.cell? ⟨w.heap.size + 2, 1, none⟩ = some (.int .i64 0) ∧ W'.cell? ⟨w.heap.size + 2, 2, none⟩ = some (.slice none 0 0) ∧ Gq w W') := fun W hW => by
    have hk := blkq HKR.out hW
    have h1 := setN_blk [.int .i64 0, .int .i64 0, .slice none 0 0] hk rfl
    exact ⟨⟨hk.cell 0, hk.cell 1, hk.cell 2, hk.frozen 0, hk.frozen 1, hk.frozen 2⟩, _, rfl, h1.cell 0, h1.cell 1, h1.cell 2, setN_below (by omega) [.int .i64 0, .int .i64 0, .slice none 0 0] W 0 (HG.out.trans hW)⟩
  have HE0 := Lib.hid runEd0
  obtain ⟨c0, c1, c2, c3, c4, c5⟩ := HCE.out wc (Gq.refl _)
  have HC1 := Lib.hid (HTW.out wc HG.out)
  rw [hwa] at hwb
  rw [hwb] at hwc
  have HWC := Lib.hid hwc
  clear hwa hwb hwc hga hgb hgc hza hzb hzc HTW
  by_cases hf0 : f0 = 0
  case neg =>
    have HR := Lib.hid (HBAD.out hf0)
    have hfb : (f0 != 0) = true := by simpa using hf0
    clear hf0 HBAD HRNG HGOOD HRX
    go_enter Tryz.func5, Tryz.ntmps5
    go_upto_region 1 with (fail)
    rw [← HWC.out]
    go_wp2_with fail
    refine HC1.out.mono ?_
    rintro e w2 ⟨rfl, hg2⟩
    obtain ⟨⟨k0, k1, k2, f0', f1, f2⟩, W', hW', e0', e1, e2, hge⟩ := HNO.out w2 hg2
    have HGE := Lib.hid hge
    have HWW := Lib.hid hW'
    have hrun := HE0.out w2
    clear hg2 hge hW' c0 c1 c2 c3 c4 c5 HC1
    go_wp2_with fail
    rw [← HWW.out]
    exact bodyPost_ret (v := .tuple #[.agg #[.int .i64 0, .int .i64 0, .slice none 0 0], .int .i64 f0]) (by simp [results, Tryz.results5, go_sem, e0', e1, e2]) rfl (ediR_none HR.out HGE.out)
  subst hf0
  obtain ⟨hrx, hry⟩ := HRX.out rfl
  have HRXA := Lib.hid (right_envR hrx)
  have HRYA := Lib.hid (right_envR hry)
  have HEO := Lib.hid (endOk_of hrx)
  have HEY := Lib.hid (endOk_of hry)
  have HEN' : Hid (∀ W, Gq w W → Calls Tryz.prog 17 #[.agg #[.int .i64 xr, .int .i64 xt, .slice xA xn xd]] W fun e w' => e = .returned (.int .i64 (endF X.x.cs)) ∧ Gq W w') := fun W hW => by
    have := endR_any X W (HOX.out.below hW) HEO.out
    rw [HXV.out] at this; exact this
  have HEB : Hid (0 ≤ endF X.x.cs ∧ endF X.x.cs ≤ 200000) := by
    have h2 := HXS.out
    have := endF_bd X.cs.xs HEO.out
    rw [h2.2.2.2.1]
    rw [h2.2.2.1] at this; exact this
  obtain ⟨E, hE⟩ : ∃ E, endF X.x.cs = E := ⟨_, rfl⟩
  rw [hE] at HEN' HEB HRNG HGOOD
  clear hrx hry HRX HBAD
  have HXR : Hid (∀ W, Gq w W → Rd W xA (xs.flatMap CliM.cs) ∧ ∀ c ∈ xs, CliOk W c) := fun W hW => by
    have h1 := HOX.out.below hW
    have h2 := HXS.out.2.2.1
    exact ⟨by have := h1.cr; rw [h2] at this; exact this, fun c hc => h1.co c (by rw [h2]; exact hc)⟩
  have HYR : Hid (∀ W, Gq w W → Rd W yA (ys.flatMap CliM.cs) ∧ ∀ c ∈ ys, CliOk W c) := fun W hW => by
    have h1 := HOY.out.below hW
    have h2 := HYS.out.1
    exact ⟨by have := h1.cr; rw [h2] at this; exact this, fun c hc => h1.co c (by rw [h2]; exact hc)⟩
  have HXL : Hid (xn ≤ 300) := by
    have h2 := HXS.out
    have h3 := HRXA.out.1
    rw [h2.2.2.1] at h3
    show _ ≤ _; rw [← h2.2.2.2.2]; exact h3
  have HYL : Hid (yn ≤ 300) := by
    have h2 := HYS.out
    have h3 := HRYA.out.1
    rw [h2.1] at h3
    show _ ≤ _; rw [← h2.2.2]; exact h3
  have hxl := HXL.out
  have hyl := HYL.out
  obtain ⟨ii, hii, hzi0, hzi1, hzi2⟩ := info_parts infoClP
  have HII := Lib.hid (And.intro hii (And.intro hzi0 (And.intro hzi1 hzi2)))
  clear hii hzi0 hzi1 hzi2
  go_enter Tryz.func5, Tryz.ntmps5
  go_upto_region 1 with (fail)
  rw [← HWC.out]
  go_wp2_with fail
  refine HC1.out.mono ?_
  rintro e w2 ⟨rfl, hg2⟩
  have HG2 : Hid (Gq wc w2) := hg2
  obtain ⟨d0, d1, d2, d3, d4, d5⟩ := HCE.out w2 HG2.out
  have hfb : ((0 : Int) != 0) = false := rfl
  have HC2 := Lib.hid (HEN'.out w2 (HG.out.trans HG2.out))
  obtain ⟨wi, hwi⟩ : ∃ b, decide (0 ≤ n ∧ n ≤ E) = b := ⟨_, rfl⟩
  have HWI := Lib.hid hwi
  have HWB : Hid (∀ W, Calls Tryz.prog 16 #[.int .i64 n, .int .i64 0, .int .i64 E] W fun e w' => e = .returned (.bool wi) ∧ W = w') := fun W => by rw [← hwi]; exact withinR_any n 0 E W
  clear hg2 c0 c1 c2 c3 c4 c5 HC1 HWC hwi
  go_wp2_with fail
  refine HC2.out.mono ?_
  rintro e w3 ⟨rfl, hg3⟩
  have HG3 : Hid (Gq wc w3) := HG2.out.trans hg3
  obtain ⟨b0, b1, b2, b3, b4, b5⟩ := HCE.out w3 HG3.out
  have HC3 := Lib.hid (HWB.out w3)
  clear hg3 d0 d1 d2 d3 d4 d5 HC2
  go_wp2_with fail
  refine HC3.out.mono ?_
  rintro e w4 ⟨rfl, rfl⟩
  cases wi with
  | false =>
    have hr : n < 0 ∨ E < n := by have := of_decide_eq_false HWI.out; omega
    have HR := Lib.hid (HRNG.out (by simp) hr)
    obtain ⟨⟨k0, k1, k2, f0', f1, f2⟩, W', hW', e0', e1, e2, hge⟩ := HNO.out w3 HG3.out
    have HGE := Lib.hid hge
    have HWW := Lib.hid hW'
    have hrun := HE0.out w3
    clear hr hge hW' HRNG HGOOD HC3
    go_wp2_with fail
    rw [← HWW.out]
    exact bodyPost_ret (v := .tuple #[.agg #[.int .i64 0, .int .i64 0, .slice none 0 0], .int .i64 1]) (by simp [results, Tryz.results5, go_sem, e0', e1, e2]) rfl (ediR_none HR.out HGE.out)
  | true =>
  have hr : 0 ≤ n ∧ n ≤ E := of_decide_eq_true HWI.out
  have HR := Lib.hid (HGOOD.out (by simp) (by omega))
  have hEb := HEB.out
  obtain ⟨dd, hdd⟩ : ∃ dd, E - n = dd := ⟨_, rfl⟩
  have hdb : 0 ≤ dd ∧ dd ≤ 200000 := by omega
  have HWD : Hid (IntKind.i64.wrap (E - n) = dd) := by rw [hdd]; exact IntWalk.i64_in _ ⟨by omega, by omega⟩
  rw [hdd] at HR
  have HYAT : Hid (∀ c ∈ ys, 0 ≤ c.at_ ∧ c.at_ ≤ 100000) := by
    have h4 := HEY.out
    rw [HYS.out.1] at h4
    exact fun c hc => ⟨(h4 c hc).1, (h4 c hc).2.1⟩
  obtain ⟨SM, hSM⟩ : ∃ SM : List CliM, ys.map (shfM 0 dd) = SM := ⟨_, rfl⟩
  have HSM : Hid (SM.map CliM.x = Y.x.cs.map (movC dd) ∧ SM.length = yn ∧ ∀ c ∈ SM, ∀ W, Gq w W → CliOk W c) := by
    rw [← hSM]
    refine ⟨?_, by rw [List.length_map]; exact HYS.out.2.2, fun c hc W hW => ?_⟩
    · rw [HYS.out.2.1, List.map_map, List.map_map]
      refine List.map_congr_left fun c hc => ?_
      show (shfM 0 dd c).x = movC dd c.x
      rw [shfM_x]
      unfold shfC
      rw [if_pos (by exact (HYAT.out c hc).1)]
    · obtain ⟨z, hz, rfl⟩ := List.mem_map.1 hc
      exact shfM_ok ((HYR.out W hW).2 z hz) (fun _ => by have := HYAT.out z hz; unfold inI64; omega)
  have HSH' : Hid (∀ W, Gq w W → Calls Tryz.prog 19 #[.slice yA yn yd, .int .i64 0, .int .i64 dd] W fun e w' => ∃ A' c', e = .returned (.slice A' yn c') ∧ Rd w' A' (SM.flatMap CliM.cs) ∧ Gq W w') := fun W hW => by
    have := shiftedR_any yA yd ys 0 dd W (HYR.out W hW).1 (fun z hz _ => by have := HYAT.out z hz; unfold inI64; omega) (by have := HYS.out.2.2; omega)
    rw [HYS.out.2.2, hSM] at this
    exact this.mono fun e w' ⟨A', c', h1, h2, h3⟩ => ⟨A', c', h1, Rd.of_own h2, h3⟩
  have HGD : Hid (r = mkE isNm 1000000 ⟨X.rate, X.tracks, srtC (X.x.cs ++ SM.map CliM.x)⟩) := by rw [HSM.out.1]; exact HR.out
  clear hr hdd hSM HR hEb HRNG HGOOD HC3 HWB HWI HYAT HEY HEO HEB
  go_upto_region 7 with (fail)
  have HRX3 := Lib.hid (HXR.out w3 (HG.out.trans HG3.out)).1
  have HXFL : Hid ((xs.flatMap CliM.cs).length = xn * 7) := by show _ = _; rw [flat_len CliM.cs 7 (fun _ => rfl), HXS.out.2.2.2.2]
  have HZ3 : Hid (w.heap.size + 3 ≤ w3.heap.size) := by have h1 := Below.size HG3.out; have h2 := HZ.out; show _ ≤ _; omega
  go_upto_region 8 with (at_builtin; refine wpList_append_rd (by rfl) (.tmp 23) (.tmp 25) 22 (by rfl) (w.heap.size + 3) 37 ii _ 7 80 Tryz.underlying22 HII.out.1 HII.out.2.1 HII.out.2.2.1 HII.out.2.2.2 rfl (by decide) (.slice none 0 0) 0 [] (by rfl) (World.ownsRow_nil _ _ _ _) xA xn xd (xs.flatMap CliM.cs) (by rfl) HXFL.out HRX3.out (cli_oneP xs) (by unfold maxLen; omega) (by omega) HZ3.out ?_; intro v5 w5 hown5 hg5)
  have HO5 : Hid (w5.ownsRow (w.heap.size + 3) 37 7 v5 xn (xs.flatMap CliM.cs)) := by
    have h1 := hown5
    rw [Nat.zero_add, List.nil_append] at h1; exact h1
  have HG5 : Hid (Gq wc w5) := HG3.out.trans (gq_none hg5)
  obtain ⟨A1, q1, rfl⟩ := slice_of_own HO5.out
  clear hown5 hg5 HRX3
  obtain ⟨ff, hf⟩ : ∃ ff, ediF isNm 1000000 ⟨X.rate, X.tracks, srtC (X.x.cs ++ SM.map CliM.x)⟩ = ff := ⟨_, rfl⟩
  have HRG : Hid (ff ≠ 0 → r = (e0, ff)) := fun hn => by rw [HGD.out]; rw [← hf] at hn ⊢; exact mkE_bad hn
  have HRK : Hid (ff = 0 → r = (⟨X.rate, X.tracks, srtC (X.x.cs ++ SM.map CliM.x)⟩, 0)) := fun hn => by rw [HGD.out]; rw [← hf] at hn; exact mkE_ok hn
  obtain ⟨z1, hz1⟩ : ∃ z : Int, (if ff = 0 then xr else 0) = z := ⟨_, rfl⟩
  obtain ⟨z2, hz2⟩ : ∃ z : Int, (if ff = 0 then xt else 0) = z := ⟨_, rfl⟩
  obtain ⟨XL, hXL⟩ : ∃ L, xs.flatMap CliM.cs = L := ⟨_, rfl⟩
  obtain ⟨SL, hSL⟩ : ∃ L, SM.flatMap CliM.cs = L := ⟨_, rfl⟩
  obtain ⟨L, hL⟩ : ∃ L, (srtF CliM.x (xs ++ SM)).flatMap CliM.cs = L := ⟨_, rfl⟩
  have hXX : (xs ++ SM).map CliM.x = X.x.cs ++ SM.map CliM.x := by rw [List.map_append, HXS.out.2.2.2.1]
  have hlen2 : (xs ++ SM).length = xn + yn := by rw [List.length_append, HXS.out.2.2.2.2, HSM.out.2.1]
  have HMK' : Hid (∀ W A c, Gq w W → Rd W A (XL ++ SL) → Calls Tryz.prog 18 #[.agg #[.int .i64 xr, .int .i64 xt, .slice xA xn xd], .slice A (xn + yn) c] W fun e w' => ∃ S sn sc A' c', e = .returned (.tuple #[.agg #[.int .i64 z1, .int .i64 z2, .slice S sn sc], .int .i64 ff]) ∧ ((ff = 0 → S = A' ∧ sn = xn + yn ∧ sc = c') ∧ (ff ≠ 0 → S = none ∧ sn = 0 ∧ sc = 0)) ∧ RdT 37 w' A' L ∧ Gq W w') := fun W A c hW hr => by
    have h1 := HXS.out
    have := madeR_any xr xt xA xn xd A c (xs ++ SM) W (by rw [← h1.1]; exact HOX.out.rate) (by rw [← h1.2.1]; exact HOX.out.tracks) (by rw [List.flatMap_append, hXL, hSL]; exact hr) (fun z hz => by
      rcases List.mem_append.1 hz with hz | hz
      · exact (HXR.out W hW).2 z hz
      · exact HSM.out.2.2 z hz W hW) (by omega) (HPO.out.below hW)
    have he : ediF isNm 1000000 ⟨xr, xt, srtC ((xs ++ SM).map CliM.x)⟩ = ff := by rw [hXX, ← h1.1, ← h1.2.1]; exact hf
    rw [he, hlen2, hL] at this
    refine this.mono fun e w' ⟨A', c', h1, h2, h3⟩ => ?_
    by_cases h0 : ff = 0
    · rw [h0, ckV_ok] at h1
      exact ⟨A', xn + yn, c', A', c', by rw [← hz1, ← hz2, if_pos h0, if_pos h0, h0]; exact h1, ⟨fun _ => ⟨rfl, rfl, rfl⟩, fun k => absurd h0 k⟩, h2, h3⟩
    · rw [ckV_bad h0] at h1
      exact ⟨none, 0, 0, A', c', by rw [← hz1, ← hz2, if_neg h0, if_neg h0]; exact h1, ⟨fun k => absurd k h0, fun _ => ⟨rfl, rfl, rfl⟩⟩, h2, h3⟩
  have HFIN' : Hid (∀ W S sn sc A' c', Gq w W → ((ff = 0 → S = A' ∧ sn = xn + yn ∧ sc = c') ∧ (ff ≠ 0 → S = none ∧ sn = 0 ∧ sc = 0)) → RdT 37 W A' L → EdiR r w (.returned (.tuple #[.agg #[.int .i64 z1, .int .i64 z2, .slice S sn sc], .int .i64 ff])) W) := fun W S sn sc A' c' hW hk hr => by
    by_cases h0 : ff = 0
    · obtain ⟨rfl, rfl, rfl⟩ := hk.1 h0
      have h1 := HXS.out
      have hm : (srtF CliM.x (xs ++ SM)).map CliM.x = srtC (X.x.cs ++ SM.map CliM.x) := by rw [← hXX]; exact srt_map id CliM.x (xs ++ SM)
      have hsl : (srtF CliM.x (xs ++ SM)).length = xn + yn := by rw [srtF_len]; exact hlen2
      refine ⟨hW, ⟨xr, xt, ⟨S, sc, srtF CliM.x (xs ++ SM)⟩⟩, ?_, ?_, ?_⟩
      · rw [← hz1, ← hz2, if_pos h0, if_pos h0, HRK.out h0, h0]
        show _ = Ending.returned (.tuple #[.agg #[.int .i64 xr, .int .i64 xt, .slice S (srtF CliM.x (xs ++ SM)).length sc], .int .i64 0])
        rw [hsl]
      · rw [HRK.out h0, ← hm, h1.1, h1.2.1]; rfl
      · refine ⟨by rw [← h1.1]; exact HOX.out.rate, by rw [← h1.2.1]; exact HOX.out.tracks, by show (srtF CliM.x (xs ++ SM)).length ≤ _; omega, by show Rd _ _ _; rw [hL]; exact hr.rd, fun z hz => ?_⟩
        rcases List.mem_append.1 ((srt_perm CliM.x (xs ++ SM)).mem_iff.1 hz) with hz | hz
        · exact (HXR.out W hW).2 z hz
        · exact HSM.out.2.2 z hz W hW
    · obtain ⟨rfl, rfl, rfl⟩ := hk.2 h0
      rw [← hz1, ← hz2, if_neg h0, if_neg h0]
      exact ediR_none (HRG.out h0) hW
  have HSLL : Hid (SL.length = yn * 7 ∧ ∀ u ∈ SL, u.oneCell' = true) := by rw [← hSL]; exact ⟨by rw [flat_len CliM.cs 7 (fun _ => rfl), HSM.out.2.1], cli_oneP SM⟩
  have HNB : Hid (xn + yn ≤ maxLen ∧ (xn + yn) * 80 ≤ 140737488355328) := ⟨by unfold maxLen; omega, by omega⟩
  have HEN : Hid (∀ W, Gq w W → Calls Tryz.prog 17 #[.agg #[.int .i64 xr, .int .i64 xt, .slice xA xn xd]] W fun e w' => e = .returned (.int .i64 E) ∧ Gq W w') := HEN'.out
  have HSH : Hid (∀ W, Gq w W → Calls Tryz.prog 19 #[.slice yA yn yd, .int .i64 0, .int .i64 dd] W fun e w' => ∃ A' c', e = .returned (.slice A' yn c') ∧ Rd w' A' SL ∧ Gq W w') := fun W hW => by rw [← hSL]; exact HSH'.out W hW
  obtain ⟨w0, hw0⟩ : ∃ w0, w0 = w := ⟨_, rfl⟩
  have HMK : Hid (∀ W A c, Gq w0 W → Rd W A (XL ++ SL) → Calls Tryz.prog 18 #[.agg #[.int .i64 xr, .int .i64 xt, .slice xA xn xd], .slice A (xn + yn) c] W fun e w' => ∃ S sn sc A' c', e = .returned (.tuple #[.agg #[.int .i64 z1, .int .i64 z2, .slice S sn sc], .int .i64 ff]) ∧ ((ff = 0 → S = A' ∧ sn = xn + yn ∧ sc = c') ∧ (ff ≠ 0 → S = none ∧ sn = 0 ∧ sc = 0)) ∧ RdT 37 w' A' L ∧ Gq W w') := by rw [hw0]; exact HMK'.out
  have HFIN : Hid (∀ W S sn sc A' c', Gq w0 W → ((ff = 0 → S = A' ∧ sn = xn + yn ∧ sc = c') ∧ (ff ≠ 0 → S = none ∧ sn = 0 ∧ sc = 0)) → RdT 37 W A' L → EdiR r w0 (.returned (.tuple #[.agg #[.int .i64 z1, .int .i64 z2, .slice S sn sc], .int .i64 ff])) W) := by rw [hw0]; exact HFIN'.out
  have HBASE : Hid (Gq w0 w5.drew ∧ w0.heap.size + 3 ≤ w5.drew.heap.size) := by
    rw [hw0]; exact ⟨(HG.out.trans HG5.out).drew, by have := Below.size HG5.out; have := HZ.out; show _ ≤ w5.heap.size; omega⟩
  have HBA : Hid (Blk w5.drew w0.heap.size 24 [.int .i64 xr, .int .i64 xt, .slice xA xn xd]) := by rw [hw0]; exact blkq HKA.out HG5.out.drew
  have HBB : Hid (Blk w5.drew (w0.heap.size + 1) 24 [.int .i64 yr, .int .i64 yt, .slice yA yn yd]) := by rw [hw0]; exact blkq HKB.out HG5.out.drew
  have HBR : Hid (Blk w5.drew (w0.heap.size + 2) 24 [.int .i64 0, .int .i64 0, .slice none 0 0]) := by rw [hw0]; exact blkq HKR.out HG5.out.drew
  have HROW : Hid (w5.drew.ownsRow (w0.heap.size + 3) 37 7 (.slice A1 xn q1) xn XL) := by rw [hw0, ← hXL]; exact own_belowL HO5.out (Gq.refl _).drew
  subst hw0
  clear HXR HYR HOX HOY HPO HXS HYS HKA HKB HKR HCE HNO HO5 HMK' HFIN' HRG HRK HGD hf hz1 hz2 hXL hSL hL hXX hlen2 HSM HXV HZ HG HXFL HEN' HSH' hE
  refine Go.Dwo.wp_region_factsK _ (by kernel_rfl) [[], [], [], [2], [], [4], [], [4, 5, 6], [2, 3, 4, 5, 6, 7], [1, 2, 3, 4, 5, 6, 7, 8], [0, 1, 2, 3, 4, 5, 6, 7, 8, 9], [0, 1, 2, 3, 4, 5, 6, 7, 8, 9, 10], [0, 1, 2, 3, 4, 5, 6, 7, 8, 9, 10], [0, 1, 2, 3, 4, 5, 6, 7, 8, 9, 10, 11], [0, 1, 2, 3, 4, 5, 6, 7, 8, 9, 10, 12]] (by kernel_rfl) (by kernel_rfl) [some 27, some 28, some 29, some 30, some 31, some 32, some 33, some 34, some 35, some 36, some 37, some 38, some 39, none, some 7] (by kernel_rfl) (fun vs => by simp only [Go.Dwo.putA, Go.Dwo.putL, if_true, Act.put, List.setIfInBounds_toArray, List.set_cons_zero, List.set_cons_succ]; rfl) (jnrF w0 xr xt xA xn xd yr yt yA yn yd A1 q1 XL SL L ff z1 z2 E n dd) (by kernel_rfl) ?_ ⟨?_, ?_, ?_, ?_, ?_, ?_, ?_, ?_, ?_, ?_, ?_, ?_, ?_, ?_, ?_, trivial⟩ ?_
  · exact Go.Dwo.fa_zero [0, 1, 2, 3, 4] (by kernel_rfl) <| Go.Dwo.fa_cons (HBASE.out) <| Go.Dwo.fa_cons (HBA.out) <| Go.Dwo.fa_cons (HBB.out) <| Go.Dwo.fa_cons (HBR.out) <| Go.Dwo.fa_cons (HROW.out) <| Go.Dwo.fa_nil _
  · -- 0: Op.load 24 t3
    intro Ls vs w Kk H hu hD hK
    replace hu : ∀ k ∈ ([] : List Nat), Ls k = true := hu
    replace hD : ∀ k ∈ ([0, 10, 11, 12, 13, 14] : List Nat), Ls k = false := Go.Dwo.fa_cons (hD 0 (.inl rfl)) <| Go.Dwo.fa_cons (hD 10 (.inr (by decide))) <| Go.Dwo.fa_cons (hD 11 (.inr (by decide))) <| Go.Dwo.fa_cons (hD 12 (.inr (by decide))) <| Go.Dwo.fa_cons (hD 13 (.inr (by decide))) <| Go.Dwo.fa_cons (hD 14 (.inr (by decide))) <| Go.Dwo.fa_nil _
    simp only [Go.Dwo.actOf, List.getD_cons_zero]
    have qbase : Gq w0 w ∧ w0.heap.size + 3 ≤ w.heap.size := H.up hu hD 0 rfl rfl rfl
    obtain ⟨h0, hz⟩ := qbase
    have bA : Blk w w0.heap.size 24 [.int .i64 xr, .int .i64 xt, .slice xA xn xd] := H.up hu hD 1 rfl rfl rfl
    have bB : Blk w (w0.heap.size + 1) 24 [.int .i64 yr, .int .i64 yt, .slice yA yn yd] := H.up hu hD 2 rfl rfl rfl
    have bR : Blk w (w0.heap.size + 2) 24 [.int .i64 0, .int .i64 0, .slice none 0 0] := H.up hu hD 3 rfl rfl rfl
    have d0 : w.cell? ⟨w0.heap.size, 0, none⟩ = _ := bA.cell 0
    have d1 : w.cell? ⟨w0.heap.size, 1, none⟩ = _ := bA.cell 1
    have d2 : w.cell? ⟨w0.heap.size, 2, none⟩ = _ := bA.cell 2
    simp only [List.getElem?_cons_zero, List.getElem?_cons_succ] at d0 d1 d2
    have hKK := Lib.hid hK
    clear hK H hu hD
    go_simp
    refine hKK.out _ _ (fun f _ _ _ _ h => h) ?_
    exact Go.Dwo.fa_pick [5] (by kernel_rfl) <| Go.Dwo.fa_cons (fun _ => rfl) <| Go.Dwo.fa_nil _
  · -- 1: Op.move t9
    intro Ls vs w Kk H hu hD hK
    replace hu : ∀ k ∈ ([] : List Nat), Ls k = true := hu
    replace hD : ∀ k ∈ ([1, 9, 10, 11, 12, 13, 14] : List Nat), Ls k = false := Go.Dwo.fa_cons (hD 1 (.inl rfl)) <| Go.Dwo.fa_cons (hD 9 (.inr (by decide))) <| Go.Dwo.fa_cons (hD 10 (.inr (by decide))) <| Go.Dwo.fa_cons (hD 11 (.inr (by decide))) <| Go.Dwo.fa_cons (hD 12 (.inr (by decide))) <| Go.Dwo.fa_cons (hD 13 (.inr (by decide))) <| Go.Dwo.fa_cons (hD 14 (.inr (by decide))) <| Go.Dwo.fa_nil _
    simp only [Go.Dwo.actOf, List.getD_cons_succ, List.getD_cons_zero]
    have qbase : Gq w0 w ∧ w0.heap.size + 3 ≤ w.heap.size := H.up hu hD 0 rfl rfl rfl
    obtain ⟨h0, hz⟩ := qbase
    have bA : Blk w w0.heap.size 24 [.int .i64 xr, .int .i64 xt, .slice xA xn xd] := H.up hu hD 1 rfl rfl rfl
    have bB : Blk w (w0.heap.size + 1) 24 [.int .i64 yr, .int .i64 yt, .slice yA yn yd] := H.up hu hD 2 rfl rfl rfl
    have bR : Blk w (w0.heap.size + 2) 24 [.int .i64 0, .int .i64 0, .slice none 0 0] := H.up hu hD 3 rfl rfl rfl
    have row : w.ownsRow (w0.heap.size + 3) 37 7 (.slice A1 xn q1) xn XL := H.up hu hD 4 rfl rfl rfl
    have hKK := Lib.hid hK
    clear hK H hu hD
    go_simp
    refine hKK.out _ _ (fun f _ _ _ _ h => h) ?_
    exact Go.Dwo.fa_pick [6] (by kernel_rfl) <| Go.Dwo.fa_cons (fun _ => rfl) <| Go.Dwo.fa_nil _
  · -- 2: Op.fieldAddr 24 t4 2
    intro Ls vs w Kk H hu hD hK
    replace hu : ∀ k ∈ ([] : List Nat), Ls k = true := hu
    replace hD : ∀ k ∈ ([2, 3, 8, 9, 10, 11, 12, 13, 14] : List Nat), Ls k = false := Go.Dwo.fa_cons (hD 2 (.inl rfl)) <| Go.Dwo.fa_cons (hD 3 (.inr (by decide))) <| Go.Dwo.fa_cons (hD 8 (.inr (by decide))) <| Go.Dwo.fa_cons (hD 9 (.inr (by decide))) <| Go.Dwo.fa_cons (hD 10 (.inr (by decide))) <| Go.Dwo.fa_cons (hD 11 (.inr (by decide))) <| Go.Dwo.fa_cons (hD 12 (.inr (by decide))) <| Go.Dwo.fa_cons (hD 13 (.inr (by decide))) <| Go.Dwo.fa_cons (hD 14 (.inr (by decide))) <| Go.Dwo.fa_nil _
    simp only [Go.Dwo.actOf, List.getD_cons_succ, List.getD_cons_zero]
    have qbase : Gq w0 w ∧ w0.heap.size + 3 ≤ w.heap.size := H.up hu hD 0 rfl rfl rfl
    obtain ⟨h0, hz⟩ := qbase
    have bA : Blk w w0.heap.size 24 [.int .i64 xr, .int .i64 xt, .slice xA xn xd] := H.up hu hD 1 rfl rfl rfl
    have bB : Blk w (w0.heap.size + 1) 24 [.int .i64 yr, .int .i64 yt, .slice yA yn yd] := H.up hu hD 2 rfl rfl rfl
    have bR : Blk w (w0.heap.size + 2) 24 [.int .i64 0, .int .i64 0, .slice none 0 0] := H.up hu hD 3 rfl rfl rfl
    have row : w.ownsRow (w0.heap.size + 3) 37 7 (.slice A1 xn q1) xn XL := H.up hu hD 4 rfl rfl rfl
    have hKK := Lib.hid hK
    clear hK H hu hD
    go_simp
    refine hKK.out _ _ (fun f _ _ _ _ h => h) ?_
    exact Go.Dwo.fa_pick [7] (by kernel_rfl) <| Go.Dwo.fa_cons (fun _ => rfl) <| Go.Dwo.fa_nil _
  · -- 3: Op.load 22 t29
    intro Ls vs w Kk H hu hD hK
    replace hu : ∀ k ∈ ([2] : List Nat), Ls k = true := hu
    replace hD : ∀ k ∈ ([3, 8, 9, 10, 11, 12, 13, 14] : List Nat), Ls k = false := Go.Dwo.fa_cons (hD 3 (.inl rfl)) <| Go.Dwo.fa_cons (hD 8 (.inr (by decide))) <| Go.Dwo.fa_cons (hD 9 (.inr (by decide))) <| Go.Dwo.fa_cons (hD 10 (.inr (by decide))) <| Go.Dwo.fa_cons (hD 11 (.inr (by decide))) <| Go.Dwo.fa_cons (hD 12 (.inr (by decide))) <| Go.Dwo.fa_cons (hD 13 (.inr (by decide))) <| Go.Dwo.fa_cons (hD 14 (.inr (by decide))) <| Go.Dwo.fa_nil _
    simp only [Go.Dwo.actOf, List.getD_cons_succ, List.getD_cons_zero]
    have qbase : Gq w0 w ∧ w0.heap.size + 3 ≤ w.heap.size := H.up hu hD 0 rfl rfl rfl
    obtain ⟨h0, hz⟩ := qbase
    have bA : Blk w w0.heap.size 24 [.int .i64 xr, .int .i64 xt, .slice xA xn xd] := H.up hu hD 1 rfl rfl rfl
    have bB : Blk w (w0.heap.size + 1) 24 [.int .i64 yr, .int .i64 yt, .slice yA yn yd] := H.up hu hD 2 rfl rfl rfl
    have bR : Blk w (w0.heap.size + 2) 24 [.int .i64 0, .int .i64 0, .slice none 0 0] := H.up hu hD 3 rfl rfl rfl
    have row : w.ownsRow (w0.heap.size + 3) 37 7 (.slice A1 xn q1) xn XL := H.up hu hD 4 rfl rfl rfl
    have f2 : vs 2 = .pointer (some ⟨w0.heap.size + 1, 2, none⟩) := H.up hu hD 7 rfl rfl rfl
    have d0 : w.cell? ⟨w0.heap.size + 1, 0, none⟩ = _ := bB.cell 0
    have d1 : w.cell? ⟨w0.heap.size + 1, 1, none⟩ = _ := bB.cell 1
    have d2 : w.cell? ⟨w0.heap.size + 1, 2, none⟩ = _ := bB.cell 2
    simp only [List.getElem?_cons_zero, List.getElem?_cons_succ] at d0 d1 d2
    have hKK := Lib.hid hK
    clear hK H hu hD
    go_simp
    refine hKK.out _ _ (fun f _ _ _ _ h => h) ?_
    exact Go.Dwo.fa_pick [8] (by kernel_rfl) <| Go.Dwo.fa_cons (fun _ => rfl) <| Go.Dwo.fa_nil _
  · -- 4: Op.load 24 t3
    intro Ls vs w Kk H hu hD hK
    replace hu : ∀ k ∈ ([] : List Nat), Ls k = true := hu
    replace hD : ∀ k ∈ ([4, 5, 7, 8, 9, 10, 11, 12, 13, 14] : List Nat), Ls k = false := Go.Dwo.fa_cons (hD 4 (.inl rfl)) <| Go.Dwo.fa_cons (hD 5 (.inr (by decide))) <| Go.Dwo.fa_cons (hD 7 (.inr (by decide))) <| Go.Dwo.fa_cons (hD 8 (.inr (by decide))) <| Go.Dwo.fa_cons (hD 9 (.inr (by decide))) <| Go.Dwo.fa_cons (hD 10 (.inr (by decide))) <| Go.Dwo.fa_cons (hD 11 (.inr (by decide))) <| Go.Dwo.fa_cons (hD 12 (.inr (by decide))) <| Go.Dwo.fa_cons (hD 13 (.inr (by decide))) <| Go.Dwo.fa_cons (hD 14 (.inr (by decide))) <| Go.Dwo.fa_nil _
    simp only [Go.Dwo.actOf, List.getD_cons_succ, List.getD_cons_zero]
    have qbase : Gq w0 w ∧ w0.heap.size + 3 ≤ w.heap.size := H.up hu hD 0 rfl rfl rfl
    obtain ⟨h0, hz⟩ := qbase
    have bA : Blk w w0.heap.size 24 [.int .i64 xr, .int .i64 xt, .slice xA xn xd] := H.up hu hD 1 rfl rfl rfl
    have bB : Blk w (w0.heap.size + 1) 24 [.int .i64 yr, .int .i64 yt, .slice yA yn yd] := H.up hu hD 2 rfl rfl rfl
    have bR : Blk w (w0.heap.size + 2) 24 [.int .i64 0, .int .i64 0, .slice none 0 0] := H.up hu hD 3 rfl rfl rfl
    have row : w.ownsRow (w0.heap.size + 3) 37 7 (.slice A1 xn q1) xn XL := H.up hu hD 4 rfl rfl rfl
    have d0 : w.cell? ⟨w0.heap.size, 0, none⟩ = _ := bA.cell 0
    have d1 : w.cell? ⟨w0.heap.size, 1, none⟩ = _ := bA.cell 1
    have d2 : w.cell? ⟨w0.heap.size, 2, none⟩ = _ := bA.cell 2
    simp only [List.getElem?_cons_zero, List.getElem?_cons_succ] at d0 d1 d2
    have hKK := Lib.hid hK
    clear hK H hu hD
    go_simp
    refine hKK.out _ _ (fun f _ _ _ _ h => h) ?_
    exact Go.Dwo.fa_pick [9] (by kernel_rfl) <| Go.Dwo.fa_cons (fun _ => rfl) <| Go.Dwo.fa_nil _
  · -- 5: Op.call { value (Operand.func 36), args := #[t31], argTypes := #[24] }
    intro Ls vs w Kk H hu hD hK
    replace hu : ∀ k ∈ ([4] : List Nat), Ls k = true := hu
    replace hD : ∀ k ∈ ([5, 7, 8, 9, 10, 11, 12, 13, 14] : List Nat), Ls k = false := Go.Dwo.fa_cons (hD 5 (.inl rfl)) <| Go.Dwo.fa_cons (hD 7 (.inr (by decide))) <| Go.Dwo.fa_cons (hD 8 (.inr (by decide))) <| Go.Dwo.fa_cons (hD 9 (.inr (by decide))) <| Go.Dwo.fa_cons (hD 10 (.inr (by decide))) <| Go.Dwo.fa_cons (hD 11 (.inr (by decide))) <| Go.Dwo.fa_cons (hD 12 (.inr (by decide))) <| Go.Dwo.fa_cons (hD 13 (.inr (by decide))) <| Go.Dwo.fa_cons (hD 14 (.inr (by decide))) <| Go.Dwo.fa_nil _
    simp only [Go.Dwo.actOf, List.getD_cons_succ, List.getD_cons_zero]
    have qbase : Gq w0 w ∧ w0.heap.size + 3 ≤ w.heap.size := H.up hu hD 0 rfl rfl rfl
    obtain ⟨h0, hz⟩ := qbase
    have bA : Blk w w0.heap.size 24 [.int .i64 xr, .int .i64 xt, .slice xA xn xd] := H.up hu hD 1 rfl rfl rfl
    have bB : Blk w (w0.heap.size + 1) 24 [.int .i64 yr, .int .i64 yt, .slice yA yn yd] := H.up hu hD 2 rfl rfl rfl
    have bR : Blk w (w0.heap.size + 2) 24 [.int .i64 0, .int .i64 0, .slice none 0 0] := H.up hu hD 3 rfl rfl rfl
    have row : w.ownsRow (w0.heap.size + 3) 37 7 (.slice A1 xn q1) xn XL := H.up hu hD 4 rfl rfl rfl
    have f4 : vs 4 = .agg #[.int .i64 xr, .int .i64 xt, .slice xA xn xd] := H.up hu hD 9 rfl rfl rfl
    have hKK := Lib.hid hK
    clear hK H hu hD
    go_simp
    refine (HEN.out w h0).mono ?_
    rintro e w' ⟨rfl, hb⟩
    refine ⟨_, rfl, hKK.out _ _ (fun f hf _ _ _ h => jnrK w0 xr xt xA xn xd yr yt yA yn yd A1 q1 XL SL L ff z1 z2 E n dd f hf _ _ _ hb h) ?_⟩
    exact Go.Dwo.fa_pick [10] (by kernel_rfl) <| Go.Dwo.fa_cons (fun _ => rfl) <| Go.Dwo.fa_nil _
  · -- 6: Op.move t2
    intro Ls vs w Kk H hu hD hK
    replace hu : ∀ k ∈ ([] : List Nat), Ls k = true := hu
    replace hD : ∀ k ∈ ([6, 7, 8, 9, 10, 11, 12, 13, 14] : List Nat), Ls k = false := Go.Dwo.fa_cons (hD 6 (.inl rfl)) <| Go.Dwo.fa_cons (hD 7 (.inr (by decide))) <| Go.Dwo.fa_cons (hD 8 (.inr (by decide))) <| Go.Dwo.fa_cons (hD 9 (.inr (by decide))) <| Go.Dwo.fa_cons (hD 10 (.inr (by decide))) <| Go.Dwo.fa_cons (hD 11 (.inr (by decide))) <| Go.Dwo.fa_cons (hD 12 (.inr (by decide))) <| Go.Dwo.fa_cons (hD 13 (.inr (by decide))) <| Go.Dwo.fa_cons (hD 14 (.inr (by decide))) <| Go.Dwo.fa_nil _
    simp only [Go.Dwo.actOf, List.getD_cons_succ, List.getD_cons_zero]
    have qbase : Gq w0 w ∧ w0.heap.size + 3 ≤ w.heap.size := H.up hu hD 0 rfl rfl rfl
    obtain ⟨h0, hz⟩ := qbase
    have bA : Blk w w0.heap.size 24 [.int .i64 xr, .int .i64 xt, .slice xA xn xd] := H.up hu hD 1 rfl rfl rfl
    have bB : Blk w (w0.heap.size + 1) 24 [.int .i64 yr, .int .i64 yt, .slice yA yn yd] := H.up hu hD 2 rfl rfl rfl
    have bR : Blk w (w0.heap.size + 2) 24 [.int .i64 0, .int .i64 0, .slice none 0 0] := H.up hu hD 3 rfl rfl rfl
    have row : w.ownsRow (w0.heap.size + 3) 37 7 (.slice A1 xn q1) xn XL := H.up hu hD 4 rfl rfl rfl
    have hKK := Lib.hid hK
    clear hK H hu hD
    go_simp
    refine hKK.out _ _ (fun f _ _ _ _ h => h) ?_
    exact Go.Dwo.fa_pick [11] (by kernel_rfl) <| Go.Dwo.fa_cons (fun _ => rfl) <| Go.Dwo.fa_nil _
  · -- 7: Op.binOp BinOp.sub 3 t32 t33 3
    intro Ls vs w Kk H hu hD hK
    replace hu : ∀ k ∈ ([4, 5, 6] : List Nat), Ls k = true := hu
    replace hD : ∀ k ∈ ([7, 8, 9, 10, 11, 12, 13, 14] : List Nat), Ls k = false := Go.Dwo.fa_cons (hD 7 (.inl rfl)) <| Go.Dwo.fa_cons (hD 8 (.inr (by decide))) <| Go.Dwo.fa_cons (hD 9 (.inr (by decide))) <| Go.Dwo.fa_cons (hD 10 (.inr (by decide))) <| Go.Dwo.fa_cons (hD 11 (.inr (by decide))) <| Go.Dwo.fa_cons (hD 12 (.inr (by decide))) <| Go.Dwo.fa_cons (hD 13 (.inr (by decide))) <| Go.Dwo.fa_cons (hD 14 (.inr (by decide))) <| Go.Dwo.fa_nil _
    simp only [Go.Dwo.actOf, List.getD_cons_succ, List.getD_cons_zero]
    have qbase : Gq w0 w ∧ w0.heap.size + 3 ≤ w.heap.size := H.up hu hD 0 rfl rfl rfl
    obtain ⟨h0, hz⟩ := qbase
    have bA : Blk w w0.heap.size 24 [.int .i64 xr, .int .i64 xt, .slice xA xn xd] := H.up hu hD 1 rfl rfl rfl
    have bB : Blk w (w0.heap.size + 1) 24 [.int .i64 yr, .int .i64 yt, .slice yA yn yd] := H.up hu hD 2 rfl rfl rfl
    have bR : Blk w (w0.heap.size + 2) 24 [.int .i64 0, .int .i64 0, .slice none 0 0] := H.up hu hD 3 rfl rfl rfl
    have row : w.ownsRow (w0.heap.size + 3) 37 7 (.slice A1 xn q1) xn XL := H.up hu hD 4 rfl rfl rfl
    have f5 : vs 5 = .int .i64 E := H.up hu hD 10 rfl rfl rfl
    have f6 : vs 6 = .int .i64 n := H.up hu hD 11 rfl rfl rfl
    have hwd := HWD.out
    have hKK := Lib.hid hK
    clear hK H hu hD
    go_simp
    refine hKK.out _ _ (fun f _ _ _ _ h => h) ?_
    exact Go.Dwo.fa_pick [12] (by kernel_rfl) <| Go.Dwo.fa_cons (fun _ => rfl) <| Go.Dwo.fa_nil _
  · -- 8: Op.call { value (Operand.func 38), args := #[t30, const (0:i64), t34], argTypes := #[22, 3, 3] }
    intro Ls vs w Kk H hu hD hK
    replace hu : ∀ k ∈ ([2, 3, 4, 5, 6, 7] : List Nat), Ls k = true := hu
    replace hD : ∀ k ∈ ([8, 9, 10, 11, 12, 13, 14] : List Nat), Ls k = false := Go.Dwo.fa_cons (hD 8 (.inl rfl)) <| Go.Dwo.fa_cons (hD 9 (.inr (by decide))) <| Go.Dwo.fa_cons (hD 10 (.inr (by decide))) <| Go.Dwo.fa_cons (hD 11 (.inr (by decide))) <| Go.Dwo.fa_cons (hD 12 (.inr (by decide))) <| Go.Dwo.fa_cons (hD 13 (.inr (by decide))) <| Go.Dwo.fa_cons (hD 14 (.inr (by decide))) <| Go.Dwo.fa_nil _
    simp only [Go.Dwo.actOf, List.getD_cons_succ, List.getD_cons_zero]
    have qbase : Gq w0 w ∧ w0.heap.size + 3 ≤ w.heap.size := H.up hu hD 0 rfl rfl rfl
    obtain ⟨h0, hz⟩ := qbase
    have bA : Blk w w0.heap.size 24 [.int .i64 xr, .int .i64 xt, .slice xA xn xd] := H.up hu hD 1 rfl rfl rfl
    have bB : Blk w (w0.heap.size + 1) 24 [.int .i64 yr, .int .i64 yt, .slice yA yn yd] := H.up hu hD 2 rfl rfl rfl
    have bR : Blk w (w0.heap.size + 2) 24 [.int .i64 0, .int .i64 0, .slice none 0 0] := H.up hu hD 3 rfl rfl rfl
    have row : w.ownsRow (w0.heap.size + 3) 37 7 (.slice A1 xn q1) xn XL := H.up hu hD 4 rfl rfl rfl
    have f3 : vs 3 = .slice yA yn yd := H.up hu hD 8 rfl rfl rfl
    have f7 : vs 7 = .int .i64 dd := H.up hu hD 12 rfl rfl rfl
    have hKK := Lib.hid hK
    clear hK H hu hD
    go_simp
    refine (HSH.out w h0).mono ?_
    rintro e w' ⟨A', c', rfl, hr, hb⟩
    refine ⟨_, rfl, hKK.out _ _ (fun f hf _ _ _ h => jnrK w0 xr xt xA xn xd yr yt yA yn yd A1 q1 XL SL L ff z1 z2 E n dd f hf _ _ _ hb h) ?_⟩
    exact Go.Dwo.fa_pick [13] (by kernel_rfl) <| Go.Dwo.fa_cons (fun _ => ⟨A', c', rfl, hr⟩) <| Go.Dwo.fa_nil _
  · -- 9: Op.call { builtin append, args := #[t28, t35], argTypes := #[22, 22] }
    intro Ls vs w Kk H hu hD hK
    replace hu : ∀ k ∈ ([1, 2, 3, 4, 5, 6, 7, 8] : List Nat), Ls k = true := hu
    replace hD : ∀ k ∈ ([9, 10, 11, 12, 13, 14] : List Nat), Ls k = false := Go.Dwo.fa_cons (hD 9 (.inl rfl)) <| Go.Dwo.fa_cons (hD 10 (.inr (by decide))) <| Go.Dwo.fa_cons (hD 11 (.inr (by decide))) <| Go.Dwo.fa_cons (hD 12 (.inr (by decide))) <| Go.Dwo.fa_cons (hD 13 (.inr (by decide))) <| Go.Dwo.fa_cons (hD 14 (.inr (by decide))) <| Go.Dwo.fa_nil _
    simp only [Go.Dwo.actOf, List.getD_cons_succ, List.getD_cons_zero]
    have qbase : Gq w0 w ∧ w0.heap.size + 3 ≤ w.heap.size := H.up hu hD 0 rfl rfl rfl
    obtain ⟨h0, hz⟩ := qbase
    have bA : Blk w w0.heap.size 24 [.int .i64 xr, .int .i64 xt, .slice xA xn xd] := H.up hu hD 1 rfl rfl rfl
    have bB : Blk w (w0.heap.size + 1) 24 [.int .i64 yr, .int .i64 yt, .slice yA yn yd] := H.up hu hD 2 rfl rfl rfl
    have bR : Blk w (w0.heap.size + 2) 24 [.int .i64 0, .int .i64 0, .slice none 0 0] := H.up hu hD 3 rfl rfl rfl
    have row : w.ownsRow (w0.heap.size + 3) 37 7 (.slice A1 xn q1) xn XL := H.up hu hD 4 rfl rfl rfl
    have f1 : vs 1 = .slice A1 xn q1 := H.up hu hD 6 rfl rfl rfl
    have qn8 : ∃ A c, vs 8 = .slice A yn c ∧ Rd w A SL := H.up hu hD 13 rfl rfl rfl
    obtain ⟨A8, c8, e8, r8⟩ := qn8
    have HDD := Lib.hid hD
    have HH := Lib.hid H
    have hKK := Lib.hid hK
    clear hK H hu hD
    simp only [Nat.zero_add, Nat.reduceAdd, f1, e8]
    refine Eq.mpr (if_pos rfl) ?_
    refine Go.Dwo.tame_append_rd (.tmp 28) (.tmp 35) 22 rfl (w0.heap.size + 3) 37 ii _ 7 80 Tryz.underlying22 HII.out.1 HII.out.2.1 HII.out.2.2.1 HII.out.2.2.2 rfl (by decide) (.slice A1 xn q1) xn XL (by rfl) row A8 yn c8 SL (by rfl) HSLL.out.1 r8 HSLL.out.2 HNB.out.1 HNB.out.2 hz ?_
    intro A' c' w' hown hgr
    refine hKK.out _ _ (Go.Dwo.fa_cons (fun _ _ _ h => ⟨Below.grown h.1 hgr (Below.size h.1) (fun k hk => by have := (row.lt k hk).1; omega), Nat.le_trans h.2 hgr.size⟩) <|
        Go.Dwo.fa_cons (fun _ _ _ h => blk_grown2 h hgr (fun e => by have := (row.lt _ e.symm).1; omega)) <|
        Go.Dwo.fa_cons (fun _ _ _ h => blk_grown2 h hgr (fun e => by have := (row.lt _ e.symm).1; omega)) <|
        Go.Dwo.fa_cons (fun _ _ _ h => blk_grown2 h hgr (fun e => by have := (row.lt _ e.symm).1; omega)) <|
        Go.Dwo.fa_cons (fun _ hn _ _ => absurd (show (9 : Nat) ∈ ([9, 10, 13] : List Nat) from by decide) hn) <|
        Go.Dwo.fa_cons (fun _ _ _ h => h) <|
        Go.Dwo.fa_cons (fun _ _ _ h => h) <|
        Go.Dwo.fa_cons (fun _ _ _ h => h) <|
        Go.Dwo.fa_cons (fun _ _ _ h => h) <|
        Go.Dwo.fa_cons (fun _ _ _ h => h) <|
        Go.Dwo.fa_cons (fun _ _ _ h => h) <|
        Go.Dwo.fa_cons (fun _ _ _ h => h) <|
        Go.Dwo.fa_cons (fun _ _ _ h => h) <|
        Go.Dwo.fa_cons (fun _ hn _ _ => absurd (show (9 : Nat) ∈ ([9, 10, 13] : List Nat) from by decide) hn) <|
        Go.Dwo.fa_cons (fun hn _ _ _ => absurd (show (9 : Nat) ∈ ([9] : List Nat) from by decide) hn) <|
        Go.Dwo.fa_cons (fun _ _ hon _ => absurd (hon 10 (show (10 : Nat) ∈ ([10] : List Nat) from by decide)) (by rw [HDD.out 10 (show (10 : Nat) ∈ ([9, 10, 11, 12, 13, 14] : List Nat) from by decide)]; decide)) <|
        Go.Dwo.fa_cons (fun _ _ hon _ => absurd (hon 10 (show (10 : Nat) ∈ ([10, 11] : List Nat) from by decide)) (by rw [HDD.out 10 (show (10 : Nat) ∈ ([9, 10, 11, 12, 13, 14] : List Nat) from by decide)]; decide)) <|
        Go.Dwo.fa_cons (fun _ _ hon _ => absurd (hon 10 (show (10 : Nat) ∈ ([10, 12] : List Nat) from by decide)) (by rw [HDD.out 10 (show (10 : Nat) ∈ ([9, 10, 11, 12, 13, 14] : List Nat) from by decide)]; decide)) <|
        Go.Dwo.fa_cons (fun _ _ hon _ => absurd (hon 10 (show (10 : Nat) ∈ ([10, 13] : List Nat) from by decide)) (by rw [HDD.out 10 (show (10 : Nat) ∈ ([9, 10, 11, 12, 13, 14] : List Nat) from by decide)]; decide)) <|
        Go.Dwo.fa_cons (fun _ _ hon _ => absurd (hon 12 (show (12 : Nat) ∈ ([12, 14] : List Nat) from by decide)) (by rw [HDD.out 12 (show (12 : Nat) ∈ ([9, 10, 11, 12, 13, 14] : List Nat) from by decide)]; decide)) <| Go.Dwo.fa_nil _) ?_
    exact Go.Dwo.fa_pick [14] (by kernel_rfl) <| Go.Dwo.fa_cons (fun _ => ⟨A', c', rfl, Rd.of_own hown⟩) <| Go.Dwo.fa_nil _
  · -- 10: Op.call { value (Operand.func 37), args := #[t27, t36], argTypes := #[24, 22] }
    intro Ls vs w Kk H hu hD hK
    replace hu : ∀ k ∈ ([0, 1, 2, 3, 4, 5, 6, 7, 8, 9] : List Nat), Ls k = true := hu
    replace hD : ∀ k ∈ ([10, 11, 12, 13, 14] : List Nat), Ls k = false := Go.Dwo.fa_cons (hD 10 (.inl rfl)) <| Go.Dwo.fa_cons (hD 11 (.inr (by decide))) <| Go.Dwo.fa_cons (hD 12 (.inr (by decide))) <| Go.Dwo.fa_cons (hD 13 (.inr (by decide))) <| Go.Dwo.fa_cons (hD 14 (.inr (by decide))) <| Go.Dwo.fa_nil _
    simp only [Go.Dwo.actOf, List.getD_cons_succ, List.getD_cons_zero]
    have qbase : Gq w0 w ∧ w0.heap.size + 3 ≤ w.heap.size := H.up hu hD 0 rfl rfl rfl
    obtain ⟨h0, hz⟩ := qbase
    have bA : Blk w w0.heap.size 24 [.int .i64 xr, .int .i64 xt, .slice xA xn xd] := H.up hu hD 1 rfl rfl rfl
    have bB : Blk w (w0.heap.size + 1) 24 [.int .i64 yr, .int .i64 yt, .slice yA yn yd] := H.up hu hD 2 rfl rfl rfl
    have bR : Blk w (w0.heap.size + 2) 24 [.int .i64 0, .int .i64 0, .slice none 0 0] := H.up hu hD 3 rfl rfl rfl
    have f0 : vs 0 = .agg #[.int .i64 xr, .int .i64 xt, .slice xA xn xd] := H.up hu hD 5 rfl rfl rfl
    have qn9 : ∃ A c, vs 9 = .slice A (xn + yn) c ∧ Rd w A (XL ++ SL) := H.up hu hD 14 rfl rfl rfl
    obtain ⟨A9, c9, e9, r9⟩ := qn9
    have hKK := Lib.hid hK
    clear hK H hu hD
    go_simp
    refine (HMK.out w A9 c9 h0 r9).mono ?_
    rintro e w' ⟨S, sn, sc, A', c', rfl, hk, hr, hb⟩
    refine ⟨_, rfl, hKK.out _ _ (fun f hf _ _ _ h => jnrK w0 xr xt xA xn xd yr yt yA yn yd A1 q1 XL SL L ff z1 z2 E n dd f hf _ _ _ hb h) ?_⟩
    exact Go.Dwo.fa_pick [15, 16, 17, 18] (by kernel_rfl) <| Go.Dwo.fa_cons (fun _ => ⟨S, sn, sc, A', c', rfl, hk, hr⟩) <|
        Go.Dwo.fa_cons (fun hL => absurd (show (10 : Nat) ∈ ([0, 1, 2, 3, 4, 5, 6, 7, 8, 9, 10] : List Nat) from by decide) (hL 11 (show (11 : Nat) ∈ ([10, 11] : List Nat) from by decide) (show (11 : Nat) ≠ 10 from by decide)).2) <|
        Go.Dwo.fa_cons (fun hL => absurd (show (10 : Nat) ∈ ([0, 1, 2, 3, 4, 5, 6, 7, 8, 9, 10] : List Nat) from by decide) (hL 12 (show (12 : Nat) ∈ ([10, 12] : List Nat) from by decide) (show (12 : Nat) ≠ 10 from by decide)).2) <|
        Go.Dwo.fa_cons (fun hL => absurd (show (10 : Nat) ∈ ([0, 1, 2, 3, 4, 5, 6, 7, 8, 9, 10, 11] : List Nat) from by decide) (hL 13 (show (13 : Nat) ∈ ([10, 13] : List Nat) from by decide) (show (13 : Nat) ≠ 10 from by decide)).2) <| Go.Dwo.fa_nil _
  · -- 11: Op.extract t37 0
    intro Ls vs w Kk H hu hD hK
    replace hu : ∀ k ∈ ([0, 1, 2, 3, 4, 5, 6, 7, 8, 9, 10] : List Nat), Ls k = true := hu
    replace hD : ∀ k ∈ ([11, 13] : List Nat), Ls k = false := Go.Dwo.fa_cons (hD 11 (.inl rfl)) <| Go.Dwo.fa_cons (hD 13 (.inr (by decide))) <| Go.Dwo.fa_nil _
    simp only [Go.Dwo.actOf, List.getD_cons_succ, List.getD_cons_zero]
    have qbase : Gq w0 w ∧ w0.heap.size + 3 ≤ w.heap.size := H.up hu hD 0 rfl rfl rfl
    obtain ⟨h0, hz⟩ := qbase
    have bA : Blk w w0.heap.size 24 [.int .i64 xr, .int .i64 xt, .slice xA xn xd] := H.up hu hD 1 rfl rfl rfl
    have bB : Blk w (w0.heap.size + 1) 24 [.int .i64 yr, .int .i64 yt, .slice yA yn yd] := H.up hu hD 2 rfl rfl rfl
    have bR : Blk w (w0.heap.size + 2) 24 [.int .i64 0, .int .i64 0, .slice none 0 0] := H.up hu hD 3 rfl rfl rfl
    have qn10 : ∃ S sn sc A c, vs 10 = .tuple #[.agg #[.int .i64 z1, .int .i64 z2, .slice S sn sc], .int .i64 ff] ∧ ((ff = 0 → S = A ∧ sn = xn + yn ∧ sc = c) ∧ (ff ≠ 0 → S = none ∧ sn = 0 ∧ sc = 0)) ∧ RdT 37 w A L := H.up hu hD 15 rfl rfl rfl
    obtain ⟨S0, sn0, sc0, A0, c0, e10, k10, r10⟩ := qn10
    have hKK := Lib.hid hK
    clear hK H hu hD
    go_simp
    refine hKK.out _ _ (fun f _ _ _ _ h => h) ?_
    exact Go.Dwo.fa_pick [16] (by kernel_rfl) <| Go.Dwo.fa_cons (fun _ => by show _ = tup (vs 10) 0; rw [show vs 10 = _ from e10]; rfl) <| Go.Dwo.fa_nil _
  · -- 12: Op.extract t37 1
    intro Ls vs w Kk H hu hD hK
    replace hu : ∀ k ∈ ([0, 1, 2, 3, 4, 5, 6, 7, 8, 9, 10] : List Nat), Ls k = true := hu
    replace hD : ∀ k ∈ ([12, 14] : List Nat), Ls k = false := Go.Dwo.fa_cons (hD 12 (.inl rfl)) <| Go.Dwo.fa_cons (hD 14 (.inr (by decide))) <| Go.Dwo.fa_nil _
    simp only [Go.Dwo.actOf, List.getD_cons_succ, List.getD_cons_zero]
    have qbase : Gq w0 w ∧ w0.heap.size + 3 ≤ w.heap.size := H.up hu hD 0 rfl rfl rfl
    obtain ⟨h0, hz⟩ := qbase
    have bA : Blk w w0.heap.size 24 [.int .i64 xr, .int .i64 xt, .slice xA xn xd] := H.up hu hD 1 rfl rfl rfl
    have bB : Blk w (w0.heap.size + 1) 24 [.int .i64 yr, .int .i64 yt, .slice yA yn yd] := H.up hu hD 2 rfl rfl rfl
    have qn10 : ∃ S sn sc A c, vs 10 = .tuple #[.agg #[.int .i64 z1, .int .i64 z2, .slice S sn sc], .int .i64 ff] ∧ ((ff = 0 → S = A ∧ sn = xn + yn ∧ sc = c) ∧ (ff ≠ 0 → S = none ∧ sn = 0 ∧ sc = 0)) ∧ RdT 37 w A L := H.up hu hD 15 rfl rfl rfl
    obtain ⟨S0, sn0, sc0, A0, c0, e10, k10, r10⟩ := qn10
    have hKK := Lib.hid hK
    clear hK H hu hD
    go_simp
    refine hKK.out _ _ (fun f _ _ _ _ h => h) ?_
    exact Go.Dwo.fa_pick [17, 19] (by kernel_rfl) <| Go.Dwo.fa_cons (fun _ => by show _ = tup (vs 10) 1; rw [show vs 10 = _ from e10]; rfl) <|
        Go.Dwo.fa_cons (fun hL => absurd (show (12 : Nat) ∈ ([0, 1, 2, 3, 4, 5, 6, 7, 8, 9, 10, 12] : List Nat) from by decide) (hL 14 (show (14 : Nat) ∈ ([12, 14] : List Nat) from by decide) (show (14 : Nat) ≠ 12 from by decide)).2) <| Go.Dwo.fa_nil _
  · -- 13: Op.store 24 t6 t38
    intro Ls vs w Kk H hu hD hK
    replace hu : ∀ k ∈ ([0, 1, 2, 3, 4, 5, 6, 7, 8, 9, 10, 11] : List Nat), Ls k = true := hu
    replace hD : ∀ k ∈ ([13] : List Nat), Ls k = false := Go.Dwo.fa_cons (hD 13 (.inl rfl)) <| Go.Dwo.fa_nil _
    simp only [Go.Dwo.actOf, List.getD_cons_succ, List.getD_cons_zero]
    have qbase : Gq w0 w ∧ w0.heap.size + 3 ≤ w.heap.size := H.up hu hD 0 rfl rfl rfl
    obtain ⟨h0, hz⟩ := qbase
    have bA : Blk w w0.heap.size 24 [.int .i64 xr, .int .i64 xt, .slice xA xn xd] := H.up hu hD 1 rfl rfl rfl
    have bB : Blk w (w0.heap.size + 1) 24 [.int .i64 yr, .int .i64 yt, .slice yA yn yd] := H.up hu hD 2 rfl rfl rfl
    have bR : Blk w (w0.heap.size + 2) 24 [.int .i64 0, .int .i64 0, .slice none 0 0] := H.up hu hD 3 rfl rfl rfl
    have qn10 : ∃ S sn sc A c, vs 10 = .tuple #[.agg #[.int .i64 z1, .int .i64 z2, .slice S sn sc], .int .i64 ff] ∧ ((ff = 0 → S = A ∧ sn = xn + yn ∧ sc = c) ∧ (ff ≠ 0 → S = none ∧ sn = 0 ∧ sc = 0)) ∧ RdT 37 w A L := H.up hu hD 15 rfl rfl rfl
    obtain ⟨S0, sn0, sc0, A0, c0, e10, k10, r10⟩ := qn10
    have f11 : vs 11 = tup (vs 10) 0 := H.up hu hD 16 rfl rfl rfl
    have HDD := Lib.hid hD
    have HH := Lib.hid H
    rw [e10] at f11
    have d0 : w.cell? ⟨w0.heap.size + 2, 0, none⟩ = _ := bR.cell 0
    have y0 := bR.frozen 0
    have d1 : w.cell? ⟨w0.heap.size + 2, 1, none⟩ = _ := bR.cell 1
    have y1 := bR.frozen 1
    have d2 : w.cell? ⟨w0.heap.size + 2, 2, none⟩ = _ := bR.cell 2
    have y2 := bR.frozen 2
    simp only [List.getElem?_cons_zero, List.getElem?_cons_succ] at d0 d1 d2
    simp only [tup] at f11
    replace f11 : vs 11 = .agg #[.int .i64 z1, .int .i64 z2, .slice S0 sn0 sc0] := f11
    have hKK := Lib.hid hK
    clear hK H hu hD
    go_simp
    have HST := Lib.hid (setN_blk [.int .i64 z1, .int .i64 z2, .slice S0 sn0 sc0] bR rfl)
    refine hKK.out _ _ (Go.Dwo.fa_cons (fun _ _ _ h => ⟨setN_below (by omega) [.int .i64 z1, .int .i64 z2, .slice S0 sn0 sc0] w 0 h.1, by simp only [World.setCell, Array.size_modify]; exact h.2⟩) <|
        Go.Dwo.fa_cons (fun _ _ _ h => (setN_heap [.int .i64 z1, .int .i64 z2, .slice S0 sn0 sc0] w 0 _ (by omega)).trans h) <|
        Go.Dwo.fa_cons (fun _ _ _ h => (setN_heap [.int .i64 z1, .int .i64 z2, .slice S0 sn0 sc0] w 0 _ (by omega)).trans h) <|
        Go.Dwo.fa_cons (fun _ hn _ _ => absurd (show (13 : Nat) ∈ ([13] : List Nat) from by decide) hn) <|
        Go.Dwo.fa_cons (fun _ hn _ _ => absurd (show (13 : Nat) ∈ ([9, 10, 13] : List Nat) from by decide) hn) <|
        Go.Dwo.fa_cons (fun _ _ _ h => h) <|
        Go.Dwo.fa_cons (fun _ _ _ h => h) <|
        Go.Dwo.fa_cons (fun _ _ _ h => h) <|
        Go.Dwo.fa_cons (fun _ _ _ h => h) <|
        Go.Dwo.fa_cons (fun _ _ _ h => h) <|
        Go.Dwo.fa_cons (fun _ _ _ h => h) <|
        Go.Dwo.fa_cons (fun _ _ _ h => h) <|
        Go.Dwo.fa_cons (fun _ _ _ h => h) <|
        Go.Dwo.fa_cons (fun _ hn _ _ => absurd (show (13 : Nat) ∈ ([9, 10, 13] : List Nat) from by decide) hn) <|
        Go.Dwo.fa_cons (fun _ hn _ _ => absurd (show (13 : Nat) ∈ ([10, 13] : List Nat) from by decide) hn) <|
        Go.Dwo.fa_cons (fun _ _ _ h => (by obtain ⟨S, sn, sc, A, c, h1, h2, h3⟩ := h; exact ⟨S, sn, sc, A, c, h1, h2, h3.kp (setN_kp [.int .i64 z1, .int .i64 z2, .slice S0 sn0 sc0] bR (by decide) 0)⟩)) <|
        Go.Dwo.fa_cons (fun _ _ _ h => h) <|
        Go.Dwo.fa_cons (fun _ _ _ h => h) <|
        Go.Dwo.fa_cons (fun hn _ _ _ => absurd (show (13 : Nat) ∈ ([10, 13] : List Nat) from by decide) hn) <|
        Go.Dwo.fa_cons (fun _ _ _ h => h) <| Go.Dwo.fa_nil _) ?_
    exact Go.Dwo.fa_pick [18] (by kernel_rfl) <| Go.Dwo.fa_cons (fun _ => ⟨S0, sn0, sc0, A0, c0, e10, k10, r10.kp (setN_kp [.int .i64 z1, .int .i64 z2, .slice S0 sn0 sc0] bR (by decide) 0), HST.out⟩) <| Go.Dwo.fa_nil _
  · -- 14: Op.assign t39
    intro Ls vs w Kk H hu hD hK
    replace hu : ∀ k ∈ ([0, 1, 2, 3, 4, 5, 6, 7, 8, 9, 10, 12] : List Nat), Ls k = true := hu
    replace hD : ∀ k ∈ ([14] : List Nat), Ls k = false := Go.Dwo.fa_cons (hD 14 (.inl rfl)) <| Go.Dwo.fa_nil _
    simp only [Go.Dwo.actOf, List.getD_cons_succ, List.getD_cons_zero]
    have qbase : Gq w0 w ∧ w0.heap.size + 3 ≤ w.heap.size := H.up hu hD 0 rfl rfl rfl
    obtain ⟨h0, hz⟩ := qbase
    have bA : Blk w w0.heap.size 24 [.int .i64 xr, .int .i64 xt, .slice xA xn xd] := H.up hu hD 1 rfl rfl rfl
    have bB : Blk w (w0.heap.size + 1) 24 [.int .i64 yr, .int .i64 yt, .slice yA yn yd] := H.up hu hD 2 rfl rfl rfl
    have hKK := Lib.hid hK
    clear hK H hu hD
    go_simp
    refine hKK.out _ _ (fun f _ _ _ _ h => h) ?_
    exact Go.Dwo.fa_pick [19] (by kernel_rfl) <| Go.Dwo.fa_cons (fun _ => rfl) <| Go.Dwo.fa_nil _
  · intro vs w H
    have qbase : Gq w0 w ∧ w0.heap.size + 3 ≤ w.heap.size := Go.Dwo.fa_at H 0 rfl rfl
    obtain ⟨h0, hz⟩ := qbase
    have bA : Blk w w0.heap.size 24 [.int .i64 xr, .int .i64 xt, .slice xA xn xd] := Go.Dwo.fa_at H 1 rfl rfl
    have bB : Blk w (w0.heap.size + 1) 24 [.int .i64 yr, .int .i64 yt, .slice yA yn yd] := Go.Dwo.fa_at H 2 rfl rfl
    have f0 : vs 0 = .agg #[.int .i64 xr, .int .i64 xt, .slice xA xn xd] := Go.Dwo.fa_at H 5 rfl rfl
    have f1 : vs 1 = .slice A1 xn q1 := Go.Dwo.fa_at H 6 rfl rfl
    have f2 : vs 2 = .pointer (some ⟨w0.heap.size + 1, 2, none⟩) := Go.Dwo.fa_at H 7 rfl rfl
    have f3 : vs 3 = .slice yA yn yd := Go.Dwo.fa_at H 8 rfl rfl
    have f4 : vs 4 = .agg #[.int .i64 xr, .int .i64 xt, .slice xA xn xd] := Go.Dwo.fa_at H 9 rfl rfl
    have f5 : vs 5 = .int .i64 E := Go.Dwo.fa_at H 10 rfl rfl
    have f6 : vs 6 = .int .i64 n := Go.Dwo.fa_at H 11 rfl rfl
    have f7 : vs 7 = .int .i64 dd := Go.Dwo.fa_at H 12 rfl rfl
    have qn10 : ∃ S sn sc A c, vs 10 = .tuple #[.agg #[.int .i64 z1, .int .i64 z2, .slice S sn sc], .int .i64 ff] ∧ ((ff = 0 → S = A ∧ sn = xn + yn ∧ sc = c) ∧ (ff ≠ 0 → S = none ∧ sn = 0 ∧ sc = 0)) ∧ RdT 37 w A L := Go.Dwo.fa_at H 15 rfl rfl
    obtain ⟨S0, sn0, sc0, A0, c0, e10, k10, r10⟩ := qn10
    have f11 : vs 11 = tup (vs 10) 0 := Go.Dwo.fa_at H 16 rfl rfl
    have f12 : vs 12 = tup (vs 10) 1 := Go.Dwo.fa_at H 17 rfl rfl
    have qn13 : ∃ S sn sc A c, vs 10 = .tuple #[.agg #[.int .i64 z1, .int .i64 z2, .slice S sn sc], .int .i64 ff] ∧ ((ff = 0 → S = A ∧ sn = xn + yn ∧ sc = c) ∧ (ff ≠ 0 → S = none ∧ sn = 0 ∧ sc = 0)) ∧ RdT 37 w A L ∧ Blk w (w0.heap.size + 2) 24 [.int .i64 z1, .int .i64 z2, .slice S sn sc] := Go.Dwo.fa_at H 18 rfl rfl
    obtain ⟨S3, sn3, sc3, A3, c3, e13, k13, r13, b13⟩ := qn13
    have f14 : vs 14 = vs 12 := Go.Dwo.fa_at H 19 rfl rfl
    clear H
    simp only [Nat.zero_add, Nat.reduceAdd]
    have HG7 : Hid (Gq w0 w) := h0
    have HB13 : Hid (Blk w (w0.heap.size + 2) 24 [.int .i64 z1, .int .i64 z2, .slice S3 sn3 sc3]) := b13
    have HR13 : Hid (RdT 37 w A3 L) := r13
    have HK13 := Lib.hid k13
    have HF : Hid (vs 14 = .int .i64 ff) := by show _ = _; rw [f14, f12, e13]; rfl
    simp only [HF.out]
    have k0 : w.cell? ⟨w0.heap.size + 2, 0, none⟩ = some (.int .i64 z1) := HB13.out.cell 0
    have k1 : w.cell? ⟨w0.heap.size + 2, 1, none⟩ = some (.int .i64 z2) := HB13.out.cell 1
    have k2 : w.cell? ⟨w0.heap.size + 2, 2, none⟩ = some (.slice S3 sn3 sc3) := HB13.out.cell 2
    clear f0 f1 f2 f3 f4 f5 f6 f7 e10 f11 f12 e13 f14 h0 hz b13 r13 k13 k10 r10 bA bB
    go_wp2_with fail
    show bodyPost Tryz.prog Tryz.f5 _ _ _ _
    refine bodyPost_ret (v := .tuple #[.agg #[.int .i64 z1, .int .i64 z2, .slice S3 sn3 sc3], .int .i64 ff]) (by simp [results, Tryz.results5, go_sem, k0, k1, k2]) rfl ?_
    exact HFIN.out w S3 sn3 sc3 A3 c3 HG7.out HK13.out HR13.out
end Go.Proofs.YtmknpeoflafaoaaGreatDoor
/- Generated (gen/two.py): the contract of deadwax/edit.checkTwo. -/
namespace Go.Proofs.YtmknpeoflafaoaaGreatDoor
open Go.RowKit Go.Dw
attribute [local go_sem ↓] Go.wp_at_zero Go.wp_at_succ

set_option maxRecDepth 100000 in
set_option maxHeartbeats 8000000 in
theorem checkTwo_any (x y : EdtM) (w : World) (hx : EdtOk w x) (hy : EdtOk w y) : Calls Tryz.prog 10 #[x.v, y.v] w fun e w' => e = .returned (.int .i64 (twoF isNm 1000000 false x.x y.x)) ∧ Gq w w' := by
  obtain ⟨f, hf⟩ : ∃ f, ediF isNm 1000000 x.x = f := ⟨_, rfl⟩
  obtain ⟨g, hg⟩ : ∃ f, ediF isNm 1000000 y.x = f := ⟨_, rfl⟩
  have HCX : Hid (∀ W, Gq w W → Calls Tryz.prog 23 #[x.v] W fun e w' => e = .returned (.int .i64 f) ∧ Gq W w') := fun W hW => by rw [← hf]; exact check_any x W (hx.below hW)
  have HCY : Hid (∀ W, Gq w W → Calls Tryz.prog 23 #[y.v] W fun e w' => e = .returned (.int .i64 g) ∧ Gq W w') := fun W hW => by rw [← hg]; exact check_any y W (hy.below hW)
  obtain ⟨r, hr⟩ : ∃ r, twoF isNm 1000000 false x.x y.x = r := ⟨_, rfl⟩
  have H1 : Hid (f ≠ 0 → r = f) := fun hn => by rw [← hr, ← hf] at *; exact twoF_1 hn
  have H2 : Hid (f = 0 → g ≠ 0 → r = g) := fun h0 hn => by rw [← hr, ← hf, ← hg] at *; exact twoF_2 h0 hn
  have H3 : Hid (f = 0 → g = 0 → r = if x.x.rate ≠ y.x.rate ∨ (false = false ∧ x.x.tracks ≠ y.x.tracks) then 6 else 0) := fun h0 h1 => by rw [← hr]; exact twoF_3 (by rw [hf]; exact h0) (by rw [hg]; exact h1)
  rw [hr]
  clear hf hg hr hx hy
  obtain ⟨xr, xt, ⟨xA, xd, xs⟩⟩ := x
  obtain ⟨yr, yt, ⟨yA, yd, ys⟩⟩ := y
  have H3 : Hid (f = 0 → g = 0 → r = if xr ≠ yr ∨ (false = false ∧ xt ≠ yt) then 6 else 0) := H3
  simp only [EdtM.v, Slc.v] at HCX HCY ⊢
  generalize (xs.length : Nat) = xn at *
  generalize (ys.length : Nat) = yn at *
  obtain ⟨wa, hwa⟩ : ∃ wa, wa = w.alloc (.cells #[.int .i64 xr, .int .i64 xt, .slice xA xn xd] 24) := ⟨_, rfl⟩
  obtain ⟨wb, hwb⟩ : ∃ wb, wb = wa.alloc (.cells #[.int .i64 yr, .int .i64 yt, .slice yA yn yd] 24) := ⟨_, rfl⟩
  have hz : wa.heap.size = w.heap.size + 1 := by rw [hwa]; simp
  have hga : Gq w wa := by rw [hwa]; exact (Gq.refl _).alloc _
  have hgb : Gq wa wb := by rw [hwb]; exact (Gq.refl _).alloc _
  have HG : Hid (Gq w wb) := hga.trans hgb
  have HKA : Hid (Blk wb w.heap.size 24 [.int .i64 xr, .int .i64 xt, .slice xA xn xd]) := by
    refine blkq (?_ : Blk wa w.heap.size _ _) hgb; rw [hwa]; exact Blk.new w _ _
  have HKB : Hid (Blk wb (w.heap.size + 1) 24 [.int .i64 yr, .int .i64 yt, .slice yA yn yd]) := by rw [hwb, ← hz]; exact Blk.new wa _ _
  have HCE : Hid (∀ W, Gq wb W → W.cell? ⟨w.heap.size, 0, none⟩ = some (.int .i64 xr) ∧ W.cell? ⟨w.heap.size, 1, none⟩ = some (.int .i64 xt) ∧ W.cell? ⟨w.heap.size, 2, none⟩ = some (.slice xA xn xd) ∧ W.cell? ⟨w.heap.size + 1, 0, none⟩ = some (.int .i64 yr) ∧ W.cell? ⟨w.heap.size + 1, 1, none⟩ = some (.int .i64 yt) ∧ W.cell? ⟨w.heap.size + 1, 2, none⟩ = some (.slice yA yn yd)) := fun W hW => by
    have k1 := blkq HKA.out hW
    have k2 := blkq HKB.out hW
    exact ⟨k1.cell 0, k1.cell 1, k1.cell 2, k2.cell 0, k2.cell 1, k2.cell 2⟩
  obtain ⟨c0, c1, c2, c3, c4, c5⟩ := HCE.out wb (Gq.refl _)
  have HC1 := Lib.hid (HCX.out wb HG.out)
  rw [hwa] at hwb
  have HWB := Lib.hid hwb
  clear hwa hwb hga hgb HCX
  go_enter Tryz.func10, Tryz.ntmps10
  go_upto_region 1 with (fail)
  rw [← HWB.out]
  go_wp2_with fail
  refine HC1.out.mono ?_
  rintro e w2 ⟨rfl, hg2⟩
  have HG2 : Hid (Gq wb w2) := hg2
  obtain ⟨d0, d1, d2, d3, d4, d5⟩ := HCE.out w2 hg2
  have HC2 := Lib.hid (HCY.out w2 (HG.out.trans hg2))
  clear hg2 c0 c1 c2 c3 c4 c5 HC1 HCY
  by_cases hf0 : f = 0
  case neg =>
    have HR := Lib.hid (H1.out hf0)
    have hfb : (f != 0) = true := by simpa using hf0
    clear hf0
    go_wp2_with fail
    go_ret
    exact ⟨by rw [HR.out]; rfl, HG.out.trans HG2.out⟩
  subst hf0
  have hfb : ((0 : Int) != 0) = false := rfl
  go_wp2_with fail
  refine HC2.out.mono ?_
  rintro e w3 ⟨rfl, hg3⟩
  have HG3 : Hid (Gq wb w3) := HG2.out.trans hg3
  obtain ⟨b0, b1, b2, b3, b4, b5⟩ := HCE.out w3 HG3.out
  clear hg3 d0 d1 d2 d3 d4 d5 HC2
  by_cases hg0 : g = 0
  case neg =>
    have HR := Lib.hid (H2.out (by simp) hg0)
    have hgb : (g != 0) = true := by simpa using hg0
    clear hg0
    go_wp2_with fail
    go_ret
    exact ⟨by rw [HR.out]; rfl, HG.out.trans HG3.out⟩
  subst hg0
  have HR := Lib.hid (H3.out (by simp) (by simp))
  clear H1 H2 H3
  by_cases h1 : xr = yr
  case neg =>
    have HR2 : Hid (r = 6) := by show _ = _; rw [HR.out, if_pos (.inl h1)]
    have q1 : (xr != yr) = true := by simpa using h1
    clear h1
    go_wp2_with fail
    go_ret
    exact ⟨by rw [HR2.out]; rfl, HG.out.trans HG3.out⟩
  have q1 : (xr != yr) = false := by simpa using h1
  by_cases h2 : xt = yt
  case neg =>
    have HR2 : Hid (r = 6) := by show _ = _; rw [HR.out, if_pos (.inr ⟨by simp, h2⟩)]
    have q2 : (xt != yt) = true := by simpa using h2
    clear h1 h2
    go_wp2_with fail
    go_ret
    exact ⟨by rw [HR2.out]; rfl, HG.out.trans HG3.out⟩
  have HR2 : Hid (r = 0) := by show _ = _; rw [HR.out, if_neg (fun h => by rcases h with h | h; exact h h1; exact h.2 h2)]
  have q2 : (xt != yt) = false := by simpa using h2
  clear h1 h2
  go_wp2_with fail
  go_ret
  exact ⟨by rw [HR2.out]; rfl, HG.out.trans HG3.out⟩
end Go.Proofs.YtmknpeoflafaoaaGreatDoor
/- Generated (gen/jna.py): the contract of edit.Join. -/
namespace Go.Proofs.YtmknpeoflafaoaaGreatDoor
open Go.RowKit Go.Dw
attribute [local go_sem ↓] Go.wp_at_zero Go.wp_at_succ

theorem movC_x (d : Int) (c : CliM) : movC d c.x = CliM.x ⟨c.m, c.ch, c.fr, c.tr, c.at_ + d, c.ln, c.e⟩ := rfl
theorem cliT_mov {w : World} {c : CliM} (h : CliT w c) {d : Int} (hi : inI64 (c.at_ + d)) : CliT w ⟨c.m, c.ch, c.fr, c.tr, c.at_ + d, c.ln, c.e⟩ :=
  ⟨⟨h.1.m, h.1.ch, h.1.fr, h.1.tr, hi, h.1.ln, h.1.el, h.1.er, h.1.eo⟩, h.2⟩
/-- what is known of a right edit's clips -/
theorem right_env {e : EdtM} (h : ediF isNm 1000000 e.x = 0) : e.cs.xs.length ≤ 300 ∧ ∀ c ∈ e.cs.xs, c.e.xs.length ≤ 50 := by
  have hr := ediF_ok h
  refine ⟨by have := hr.l; simpa [EdtM.x] using this, fun c hc => ?_⟩
  have h1 := cliF_env (ediF_cli h c.x (List.mem_map_of_mem hc))
  exact (envF_ok h1).2.1
set_option maxRecDepth 100000 in
set_option maxHeartbeats 8000000 in
theorem join_any (x y : EdtM) (n : Int) (w : World) (hx : EdtOk w x) (hy : EdtOk w y) : Calls Tryz.prog 4 #[x.v, y.v, .int .i64 n] w (EdiR (joinE isNm 1000000 x.x y.x n) w) := by
  obtain ⟨r, hr⟩ : ∃ r, joinE isNm 1000000 x.x y.x n = r := ⟨_, rfl⟩
  obtain ⟨f, hf⟩ : ∃ f, twoF isNm 1000000 false x.x y.x = f := ⟨_, rfl⟩
  have HTW : Hid (∀ W, Gq w W → Calls Tryz.prog 10 #[x.v, y.v] W fun e w' => e = .returned (.int .i64 f) ∧ Gq W w') := fun W hW => by rw [← hf]; exact checkTwo_any x y W (hx.below hW) (hy.below hW)
  have HBAD : Hid (f ≠ 0 → r = (e0, f)) := fun hn => by rw [← hr, ← hf] at *; unfold joinE; rw [if_pos hn]
  have HRNG : Hid (f = 0 → n < 0 ∨ endF x.x.cs < n → r = (e0, 1)) := fun h0 hn => by rw [← hr]; unfold joinE; rw [if_neg (by rw [hf]; exact fun k => k h0), if_pos hn]
  have HGOOD : Hid (f = 0 → ¬ (n < 0 ∨ endF x.x.cs < n) → r = mkE isNm 1000000 ⟨x.rate, x.tracks, srtC (x.x.cs ++ y.x.cs.map (movC (endF x.x.cs - n)))⟩) := fun h0 hn => by rw [← hr]; unfold joinE; rw [if_neg (by rw [hf]; exact fun k => k h0), if_neg hn]; rfl
  have HRX : Hid (f = 0 → ediF isNm 1000000 x.x = 0 ∧ ediF isNm 1000000 y.x = 0) := fun h0 => by rw [← hf] at h0; exact ⟨(twoF_ok h0).1, (twoF_ok h0).2.1⟩
  rw [hr]
  have HOX := Lib.hid hx
  have HOY := Lib.hid hy
  clear hr hf hx hy
  obtain ⟨X, hX⟩ : ∃ X, x = X := ⟨_, rfl⟩
  obtain ⟨Y, hY⟩ : ∃ Y, y = Y := ⟨_, rfl⟩
  obtain ⟨xr, xt, ⟨xA, xd, xs⟩⟩ := x
  obtain ⟨yr, yt, ⟨yA, yd, ys⟩⟩ := y
  obtain ⟨xn, hxn⟩ : ∃ xn : Nat, xs.length = xn := ⟨_, rfl⟩
  obtain ⟨yn, hyn⟩ : ∃ yn : Nat, ys.length = yn := ⟨_, rfl⟩
  have hxv : X.v = .agg #[.int .i64 xr, .int .i64 xt, .slice xA xn xd] := by rw [← hX, ← hxn]; rfl
  have hyv : Y.v = .agg #[.int .i64 yr, .int .i64 yt, .slice yA yn yd] := by rw [← hY, ← hyn]; rfl
  have HXS : Hid (X.rate = xr ∧ X.tracks = xt ∧ X.cs = ⟨xA, xd, xs⟩ ∧ X.x.cs = xs.map CliM.x ∧ xs.length = xn) := by rw [← hX]; exact ⟨rfl, rfl, rfl, rfl, hxn⟩
  have HYS : Hid (Y.cs = ⟨yA, yd, ys⟩ ∧ Y.x.cs = ys.map CliM.x ∧ ys.length = yn) := by rw [← hY]; exact ⟨rfl, rfl, hyn⟩
  rw [hX] at HOX HTW HRNG HGOOD HRX ⊢
  rw [hY] at HOY HTW HGOOD HRX ⊢
  rw [hxv, hyv] at HTW ⊢
  clear hX hY hxn hyn hxv hyv
  obtain ⟨wa, hwa⟩ : ∃ wa, wa = w.alloc (.cells #[.int .i64 xr, .int .i64 xt, .slice xA xn xd] 24) := ⟨_, rfl⟩
  obtain ⟨wb, hwb⟩ : ∃ wb, wb = wa.alloc (.cells #[.int .i64 yr, .int .i64 yt, .slice yA yn yd] 24) := ⟨_, rfl⟩
  obtain ⟨wc, hwc⟩ : ∃ wc, wc = wb.alloc (.cells #[.int .i64 0, .int .i64 0, .slice none 0 0] 24) := ⟨_, rfl⟩
  have hza : wa.heap.size = w.heap.size + 1 := by rw [hwa]; simp
  have hzb : wb.heap.size = w.heap.size + 2 := by rw [hwb]; simp; omega
  have hzc : wc.heap.size = w.heap.size + 3 := by rw [hwc]; simp; omega
  have hga : Gq w wa := by rw [hwa]; exact (Gq.refl _).alloc _
  have hgb : Gq wa wb := by rw [hwb]; exact (Gq.refl _).alloc _
  have hgc : Gq wb wc := by rw [hwc]; exact (Gq.refl _).alloc _
  have HG : Hid (Gq w wc) := hga.trans (hgb.trans hgc)
  have HZ : Hid (wc.heap.size = w.heap.size + 3) := hzc
  have HKA : Hid (Blk wc w.heap.size 24 [.int .i64 xr, .int .i64 xt, .slice xA xn xd]) := by
    refine blkq (?_ : Blk wa w.heap.size _ _) (hgb.trans hgc); rw [hwa]; exact Blk.new w _ _
  have HKB : Hid (Blk wc (w.heap.size + 1) 24 [.int .i64 yr, .int .i64 yt, .slice yA yn yd]) := by
    refine blkq (?_ : Blk wb (w.heap.size + 1) _ _) hgc; rw [hwb, ← hza]; exact Blk.new wa _ _
  have HKR : Hid (Blk wc (w.heap.size + 2) 24 [.int .i64 0, .int .i64 0, .slice none 0 0]) := by
    rw [hwc, ← hzb]; exact Blk.new wb _ _
  have HCE : Hid (∀ W, Gq wc W → W.cell? ⟨w.heap.size, 0, none⟩ = some (.int .i64 xr) ∧ W.cell? ⟨w.heap.size, 1, none⟩ = some (.int .i64 xt) ∧ W.cell? ⟨w.heap.size, 2, none⟩ = some (.slice xA xn xd) ∧ W.cell? ⟨w.heap.size + 1, 0, none⟩ = some (.int .i64 yr) ∧ W.cell? ⟨w.heap.size + 1, 1, none⟩ = some (.int .i64 yt) ∧ W.cell? ⟨w.heap.size + 1, 2, none⟩ = some (.slice yA yn yd)) := fun W hW => by
    have k1 := blkq HKA.out hW
    have k2 := blkq HKB.out hW
    exact ⟨k1.cell 0, k1.cell 1, k1.cell 2, k2.cell 0, k2.cell 1, k2.cell 2⟩
  -- the result's box
  have HRB : Hid (∀ W, Blk W (w.heap.size + 2) 24 [.int .i64 0, .int .i64 0, .slice none 0 0] → W.cell? ⟨w.heap.size + 2, 0, none⟩ = some (.int .i64 0) ∧ W.cell? ⟨w.heap.size + 2, 1, none⟩ = some (.int .i64 0) ∧ W.cell? ⟨w.heap.size + 2, 2, none⟩ = some (.slice none 0 0) ∧ W.frozen? ⟨w.heap.size + 2, 0, none⟩ = false ∧ W.frozen? ⟨w.heap.size + 2, 1, none⟩ = false ∧ W.frozen? ⟨w.heap.size + 2, 2, none⟩ = false) := fun W k =>
    ⟨k.cell 0, k.cell 1, k.cell 2, k.frozen 0, k.frozen 1, k.frozen 2⟩
  have HEND : Hid (∀ W (a b c : Value), Gq w W → Blk W (w.heap.size + 2) 24 [.int .i64 0, .int .i64 0, .slice none 0 0] → (((((W.setCell ⟨w.heap.size + 2, 0, none⟩ a).setCell ⟨w.heap.size + 2, 1, none⟩ b).setCell ⟨w.heap.size + 2, 2, none⟩ c).cell? ⟨w.heap.size + 2, 0, none⟩ = some a ∧ (((W.setCell ⟨w.heap.size + 2, 0, none⟩ a).setCell ⟨w.heap.size + 2, 1, none⟩ b).setCell ⟨w.heap.size + 2, 2, none⟩ c).cell? ⟨w.heap.size + 2, 1, none⟩ = some b ∧ (((W.setCell ⟨w.heap.size + 2, 0, none⟩ a).setCell ⟨w.heap.size + 2, 1, none⟩ b).setCell ⟨w.heap.size + 2, 2, none⟩ c).cell? ⟨w.heap.size + 2, 2, none⟩ = some c) ∧ Gq W (((W.setCell ⟨w.heap.size + 2, 0, none⟩ a).setCell ⟨w.heap.size + 2, 1, none⟩ b).setCell ⟨w.heap.size + 2, 2, none⟩ c) = Gq W (setN W (w.heap.size + 2) 0 [a, b, c]) ∧ Gq w (((W.setCell ⟨w.heap.size + 2, 0, none⟩ a).setCell ⟨w.heap.size + 2, 1, none⟩ b).setCell ⟨w.heap.size + 2, 2, none⟩ c))) := fun W a b c hg hk => by
    have h1 := setN_blk [a, b, c] hk rfl
    exact ⟨⟨h1.cell 0, h1.cell 1, h1.cell 2⟩, rfl, setN_below (by omega) [a, b, c] W 0 hg⟩
  have HE0 := Lib.hid runE0
  obtain ⟨c0, c1, c2, c3, c4, c5⟩ := HCE.out wc (Gq.refl _)
  have HC1 := Lib.hid (HTW.out wc HG.out)
  rw [hwa] at hwb
  rw [hwb] at hwc
  have HWC := Lib.hid hwc
  clear hwa hwb hwc hga hgb hgc hza hzb hzc HTW
  by_cases hf0 : f = 0
  case neg =>
    have HR := Lib.hid (HBAD.out hf0)
    have hfb : (f != 0) = true := by simpa using hf0
    clear hf0 HBAD HRNG HGOOD HRX
    go_enter Tryz.func4, Tryz.ntmps4
    go_upto_region 1 with (fail)
    rw [← HWC.out]
    go_wp2_with fail
    refine HC1.out.mono ?_
    rintro e w2 ⟨rfl, hg2⟩
    have HG2 : Hid (Gq w w2) := HG.out.trans hg2
    obtain ⟨k0, k1, k2, f0, f1, f2⟩ := HRB.out w2 (blkq HKR.out hg2)
    obtain ⟨⟨e0', e1, e2⟩, -, hge⟩ := HEND.out w2 (.int .i64 0) (.int .i64 0) (.slice none 0 0) HG2.out (blkq HKR.out hg2)
    have HGE := Lib.hid hge
    have hrun := HE0.out w2
    clear hg2 hge c0 c1 c2 c3 c4 c5 HC1
    go_wp2_with fail
    exact bodyPost_ret (v := .tuple #[.agg #[.int .i64 0, .int .i64 0, .slice none 0 0], .int .i64 f]) (by simp [results, Tryz.results4, go_sem, e0', e1, e2]) rfl (ediR_none HR.out HGE.out)
  subst hf0
  obtain ⟨hrx, hry⟩ := HRX.out rfl
  have HRXA := Lib.hid (right_env hrx)
  have HRYA := Lib.hid (right_env hry)
  have HEO := Lib.hid (endOk_of hrx)
  have HEY := Lib.hid (endOk_of hry)
  clear hrx hry HRX HBAD
  have HENX : Hid (∀ W, Gq w W → Calls Tryz.prog 11 #[.slice xA xn xd] W fun e w' => e = .returned (.int .i64 (endF X.x.cs)) ∧ Gq W w') := fun W hW => by
    have h1 := HOX.out
    have h2 := HXS.out
    have := end_any xA xd xs W (by have := (h1.below hW).cr; rw [h2.2.2.1] at this; exact this) (by have := h1.cl; rw [h2.2.2.1] at this; exact this) (by have := HEO.out; rw [h2.2.2.1] at this; exact this)
    rw [h2.2.2.2.2] at this
    rw [h2.2.2.2.1]; exact this
  have HEB : Hid (0 ≤ endF X.x.cs ∧ endF X.x.cs ≤ 200000) := by
    have h2 := HXS.out
    have := endF_bd X.cs.xs HEO.out
    rw [h2.2.2.2.1]
    rw [h2.2.2.1] at this; exact this
  obtain ⟨E, hE⟩ : ∃ E, endF X.x.cs = E := ⟨_, rfl⟩
  rw [hE] at HENX HEB HRNG HGOOD
  clear hE
  go_enter Tryz.func4, Tryz.ntmps4
  go_upto_region 1 with (fail)
  rw [← HWC.out]
  go_wp2_with fail
  refine HC1.out.mono ?_
  rintro e w2 ⟨rfl, hg2⟩
  have HG2 : Hid (Gq wc w2) := hg2
  obtain ⟨d0, d1, d2, d3, d4, d5⟩ := HCE.out w2 HG2.out
  have HC2 := Lib.hid (HENX.out w2 (HG.out.trans HG2.out))
  have hfb : ((0 : Int) != 0) = false := rfl
  clear hg2 c0 c1 c2 c3 c4 c5 HC1 HENX
  go_wp2_with fail
  refine HC2.out.mono ?_
  rintro e w3 ⟨rfl, hg3⟩
  have HG3 : Hid (Gq wc w3) := HG2.out.trans hg3
  have HK3 := Lib.hid (blkq HKR.out HG3.out)
  obtain ⟨b0, b1, b2, b3, b4, b5⟩ := HCE.out w3 HG3.out
  clear hg3 d0 d1 d2 d3 d4 d5 HC2 HWC
  by_cases hr : n < 0 ∨ E < n
  · have HR := Lib.hid (HRNG.out (by simp) hr)
    have hcs : decide (n < 0) = true ∨ (decide (n < 0) = false ∧ decide (E < n) = true) := by
      by_cases q1 : n < 0
      · exact .inl (decide_eq_true q1)
      · exact .inr ⟨decide_eq_false q1, decide_eq_true (by omega)⟩
    obtain ⟨k0, k1, k2, f0, f1, f2⟩ := HRB.out w3 HK3.out
    obtain ⟨⟨e0', e1, e2⟩, -, hge⟩ := HEND.out w3 (.int .i64 0) (.int .i64 0) (.slice none 0 0) (HG.out.trans HG3.out) HK3.out
    have HGE := Lib.hid hge
    have hrun := HE0.out w3
    clear hr hge HRNG HGOOD
    rcases hcs with h1 | ⟨h1, h2⟩
    all_goals
      go_wp2_with fail
      exact bodyPost_ret (v := .tuple #[.agg #[.int .i64 0, .int .i64 0, .slice none 0 0], .int .i64 1]) (by simp [results, Tryz.results4, go_sem, e0', e1, e2]) rfl (ediR_none HR.out HGE.out)
  have HR := Lib.hid (HGOOD.out (by simp) hr)
  have h1 : decide (n < 0) = false := decide_eq_false (by omega)
  have h2 : decide (E < n) = false := decide_eq_false (by omega)
  have hEb := HEB.out
  obtain ⟨dd, hdd⟩ : ∃ dd, E - n = dd := ⟨_, rfl⟩
  have hdb : 0 ≤ dd ∧ dd ≤ 200000 := by omega
  have hwd : IntKind.i64.wrap (E - n) = dd := by rw [hdd]; exact IntWalk.i64_in _ ⟨by omega, by omega⟩
  rw [hdd] at HR
  clear hr HRNG HGOOD HEB hEb hdd
  have HXR : Hid (∀ W, Gq w W → Rd W xA (xs.flatMap CliM.cs) ∧ ∀ c ∈ xs, CliOk W c) := fun W hW => by
    have h1 := HOX.out.below hW
    have h2 := HXS.out.2.2.1
    exact ⟨by have := h1.cr; rw [h2] at this; exact this, fun c hc => h1.co c (by rw [h2]; exact hc)⟩
  have HYR : Hid (∀ W, Gq w W → Rd W yA (ys.flatMap CliM.cs) ∧ ∀ c ∈ ys, CliOk W c) := fun W hW => by
    have h1 := HOY.out.below hW
    have h2 := HYS.out.1
    exact ⟨by have := h1.cr; rw [h2] at this; exact this, fun c hc => h1.co c (by rw [h2]; exact hc)⟩
  have HXL : Hid (xs.length ≤ 300 ∧ (∀ c ∈ xs, c.e.xs.length ≤ 1000000000)) := by
    have h2 := HXS.out.2.2.1
    have h3 := HRXA.out
    rw [h2] at h3
    exact ⟨h3.1, fun c hc => Nat.le_trans (h3.2 c hc) (by decide)⟩
  have HYL : Hid (ys.length ≤ 300 ∧ (∀ c ∈ ys, c.e.xs.length ≤ 1000000000) ∧ ∀ c ∈ ys, 0 ≤ c.at_ ∧ c.at_ ≤ 100000) := by
    have h2 := HYS.out.1
    have h3 := HRYA.out
    have h4 := HEY.out
    rw [h2] at h3 h4
    exact ⟨h3.1, fun c hc => Nat.le_trans (h3.2 c hc) (by decide), fun c hc => ⟨(h4 c hc).1, (h4 c hc).2.1⟩⟩
  have hxl := HXL.out.1
  have hyl := HYL.out.1
  have HW1 := Lib.hid (owned_any xA xd xs w3 (HXR.out w3 (HG.out.trans HG3.out)).1 (HXR.out w3 (HG.out.trans HG3.out)).2 HXL.out.2 (by omega))
  rw [HXS.out.2.2.2.2] at HW1
  have HKA3 := Lib.hid (blkq HKA.out HG3.out)
  have HZ3 : Hid (w.heap.size + 3 ≤ w3.heap.size) := by have := Below.size HG3.out; have := HZ.out; show _ ≤ _; omega
  have HXL1 := Lib.hid hxl
  clear HXL HEO HEY HRXA HRYA hxl
  go_wp2_with fail
  refine HW1.out.mono ?_
  rintro e w4 ⟨A1, q1, l1, rfl, hx1, hown1, ht1, hg4⟩
  have HG4 : Hid (Gq w3 w4) := hg4
  have HO1 : Hid (w4.ownsRow (w.heap.size + 3) 37 7 (.slice A1 l1.length q1) l1.length (l1.flatMap CliM.cs)) := own_base hown1 HZ3.out
  have HX1 : Hid (l1.map CliM.x = xs.map CliM.x) := hx1
  have HT1 : Hid (∀ y ∈ l1, CliT w4 y) := ht1
  have hka := blkq HKA3.out hg4
  have hfz := hka.frozen 2
  have hc2 : w4.cell? ⟨w.heap.size, 2, none⟩ = some (.slice xA xn xd) := hka.cell 2
  obtain ⟨w5, hw5⟩ : ∃ w5, w5 = w4.setCell ⟨w.heap.size, 2, none⟩ (.slice A1 l1.length q1) := ⟨_, rfl⟩
  have hka5 := hka.set_ 2 (.slice A1 l1.length q1)
  rw [← hw5] at hka5
  have HKA5 : Hid (Blk w5 w.heap.size 24 [.int .i64 xr, .int .i64 xt, .slice A1 l1.length q1]) := hka5
  have HG5 : Hid (Gq w w5) := by rw [hw5]; exact ((HG.out.trans HG3.out).trans HG4.out).setCell (p := ⟨w.heap.size, 2, none⟩) (Nat.le_refl _) _
  have HO5 : Hid (w5.ownsRow (w.heap.size + 3) 37 7 (.slice A1 l1.length q1) l1.length (l1.flatMap CliM.cs)) := by rw [hw5]; exact own_set HO1.out (by show w.heap.size < _; omega) _
  have HKP5 : Hid (KpT 48 w4 w5) := by rw [hw5]; exact (KpT.refl _ _).setCell ⟨_, _, hka⟩ (by decide)
  have HT5 : Hid (∀ y ∈ l1, CliT w5 y) := fun y hy => (HT1.out y hy).kp HKP5.out
  have HKB5 : Hid (Blk w5 (w.heap.size + 1) 24 [.int .i64 yr, .int .i64 yt, .slice yA yn yd]) := by
    rw [hw5]; exact blk_setO (blkq HKB.out (HG3.out.trans HG4.out)) (by show w.heap.size + 1 ≠ w.heap.size; omega) _
  have HKR5 : Hid (Blk w5 (w.heap.size + 2) 24 [.int .i64 0, .int .i64 0, .slice none 0 0]) := by
    rw [hw5]; exact blk_setO (blkq HKR.out (HG3.out.trans HG4.out)) (by show w.heap.size + 2 ≠ w.heap.size; omega) _
  have HZ5 : Hid (w.heap.size + 3 ≤ w5.heap.size) := by
    have h1 := HZ3.out
    have h2 := Below.size HG4.out
    show _ ≤ _
    rw [hw5]; simp only [World.setCell, Array.size_modify]; omega
  have m5 : w5.cell? ⟨w.heap.size + 1, 2, none⟩ = some (.slice yA yn yd) := HKB5.out.cell 2
  have HW2 := Lib.hid (owned_any yA yd ys w5 (HYR.out w5 HG5.out).1 (HYR.out w5 HG5.out).2 HYL.out.2.1 (by omega))
  rw [HYS.out.2.2] at HW2
  have HW5 := Lib.hid hw5
  clear hx1 hown1 ht1 hg4 hka hka5 hw5 b0 b1 b2 b3 b4 b5 HW1
  go_upto_region 8 with (fail)
  rw [← HW5.out]
  go_wp2_with fail
  refine HW2.out.mono ?_
  rintro e w6 ⟨A2, q2, l2, rfl, hx2, hown2, ht2, hg6⟩
  have HG6 : Hid (Gq w5 w6) := hg6
  have HGW : Hid (Gq w w6) := HG5.out.trans HG6.out
  have HLX : Hid (l2.map CliM.x = ys.map CliM.x) := hx2
  have HL2 : Hid (l2.length ≤ 300 ∧ ∀ c ∈ l2, 0 ≤ c.at_ ∧ c.at_ ≤ 100000) := by
    have h1 := congrArg List.length hx2
    rw [List.length_map, List.length_map] at h1
    refine ⟨by omega, fun c hc => ?_⟩
    have h2 : c.x ∈ l2.map CliM.x := List.mem_map_of_mem hc
    rw [hx2] at h2
    obtain ⟨z, hz, e⟩ := List.mem_map.1 h2
    have h3 := HYL.out.2.2 z hz
    have h4 : z.at_ = c.at_ := congrArg Cli.at_ e
    omega
  have HL1 : Hid (l1.length ≤ 300) := by
    have h1 := congrArg List.length HX1.out
    rw [List.length_map, List.length_map] at h1
    have := HXS.out.2.2.2.2
    have h2 := HXL1.out
    show _ ≤ _; omega
  have HAP0 : Hid (∀ b, (Value.slice A2 l2.length q2).ownBlock = some b → (Value.slice A1 l1.length q1).ownBlock ≠ some b) := fun b hb he => by
    have h1 := (hown2.lt b hb).1
    have h2 := (HO5.out.lt b he).2
    omega
  have HO26 : Hid (w6.ownsRow (w.heap.size + 3) 37 7 (.slice A2 l2.length q2) l2.length (l2.flatMap CliM.cs)) := own_base hown2 HZ5.out
  have HT26 : Hid (∀ y ∈ l2, CliT w6 y) := ht2
  have HT16 : Hid (∀ y ∈ l1, CliT w6 y) := fun y hy => (HT5.out y hy).gq HG6.out
  have HO16 : Hid (w6.ownsRow (w.heap.size + 3) 37 7 (.slice A1 l1.length q1) l1.length (l1.flatMap CliM.cs)) := own_belowL HO5.out HG6.out
  have HKA6 := Lib.hid (blkq HKA5.out HG6.out)
  have HKR6 := Lib.hid (blkq HKR5.out HG6.out)
  have HZ6 : Hid (w.heap.size + 3 ≤ w6.heap.size) := Nat.le_trans HZ5.out (Below.size HG6.out)
  have hl2 := HL2.out.1
  have hl1 := HL1.out
  obtain ⟨ii, hii, hzi0, hzi1, hzi2⟩ := info_parts infoClO
  have HII := Lib.hid (And.intro hii (And.intro hzi0 (And.intro hzi1 hzi2)))
  clear hx2 hown2 ht2 hg6 m5 HW2 hii hzi0 hzi1 hzi2 HKB5 HYL HXR HYR hyl
  go_wp2_with fail
  go_loopw [38] (fun kv wq => ∃ (k : Nat) (zs : List CliM) (AO : Option Addr) (cO : Nat), k ≤ l2.length ∧ kv = .int .i64 (k : Int) ∧ Hid (zs.length = l1.length + k) ∧ Hid (Blk wq w.heap.size 24 [.int .i64 xr, .int .i64 xt, .slice AO zs.length cO]) ∧ Hid (Blk wq (w.heap.size + 2) 24 [.int .i64 0, .int .i64 0, .slice none 0 0]) ∧ Hid (wq.ownsRow (w.heap.size + 3) 37 7 (.slice AO zs.length cO) zs.length (zs.flatMap CliM.cs)) ∧ Hid (zs.map CliM.x = xs.map CliM.x ++ (l2.take k).map (fun c => movC dd c.x)) ∧ Hid (∀ y ∈ zs, CliT wq y) ∧ Hid (wq.ownsRow (w.heap.size + 3) 37 7 (.slice A2 l2.length q2) l2.length (l2.flatMap CliM.cs)) ∧ Hid (∀ b, (Value.slice A2 l2.length q2).ownBlock = some b → (Value.slice AO zs.length cO).ownBlock ≠ some b) ∧ Hid (∀ y ∈ l2, CliT wq y) ∧ Hid (Gq w wq) ∧ Hid (w.heap.size + 3 ≤ wq.heap.size)) (fun kv _ => l2.length - (intOf kv).toNat)
  case atStart => exact ⟨0, l1, A1, q1, Nat.zero_le _, rfl, rfl, HKA6, HKR6, HO16, by show _ = _; rw [HX1.out]; simp, HT16, HO26, HAP0, HT26, HGW, HZ6⟩
  case round =>
    clear HKA6 HKR6 HO16 HT16 HO26 HAP0 HT26 HGW HZ6
    obtain ⟨k, zs, AO, cO, hk, rfl, HZL, HKA7, HKR7, HO7, HZX, HZT, HO27, HAP, HT2, HG7, HZ7⟩ := hrel
    by_cases hlt : k < l2.length
    case neg =>
      have hd0 : decide (k < l2.length) = false := by simpa using hlt
      have HZX2 : Hid (zs.map CliM.x = X.x.cs ++ Y.x.cs.map (movC dd)) := by
        have h1 := HZX.out
        have h2 := congrArg (List.map (movC dd)) HLX.out
        rw [List.take_of_length_le (by omega)] at h1
        rw [List.map_map, List.map_map] at h2
        show _ = _
        rw [h1, HXS.out.2.2.2.1, HYS.out.2.1, List.map_map]
        exact congrArg _ h2
      have HORD := Lib.hid (ordered_any (w.heap.size + 3) (w.heap.size + 3) AO zs.length cO zs wr (Nat.le_refl _) HO7.out rfl (by have := HZL.out; omega))
      have c2 : wr.cell? ⟨w.heap.size, 2, none⟩ = some (.slice AO zs.length cO) := HKA7.out.cell 2
      clear HZX hlt HO27 HAP HT2 HLX HO7
      go_wp2_with fail
      refine HORD.out.mono ?_
      rintro e w8 ⟨rfl, hown8, hkp8, hbl8⟩
      have HG8 : Hid (Gq w w8) := Below.trans HG7.out (Below.mono hbl8 (by omega))
      have HKA8 : Hid (Blk w8 w.heap.size 24 [.int .i64 xr, .int .i64 xt, .slice AO zs.length cO]) := (hbl8.block _ (by omega)).trans HKA7.out
      have HKR8 : Hid (Blk w8 (w.heap.size + 2) 24 [.int .i64 0, .int .i64 0, .slice none 0 0]) := (hbl8.block _ (by omega)).trans HKR7.out
      have hlen : (srtF CliM.x zs).length = zs.length := (srt_perm CliM.x zs).length_eq
      have HOK8 : Hid (EdtOk w8 ⟨xr, xt, ⟨AO, cO, srtF CliM.x zs⟩⟩) := by
        have h1 := HOX.out
        have h2 := HXS.out
        refine ⟨by have := h1.rate; rw [h2.1] at this; exact this, by have := h1.tracks; rw [h2.2.1] at this; exact this, ?_, ?_, fun c hc => ?_⟩
        · have h3 := HZL.out; show (srtF CliM.x zs).length ≤ _; omega
        · exact Rd.of_own hown8
        · exact ((HZT.out c ((srt_perm CliM.x zs).mem_iff.1 hc)).kp hkp8).1
      have HKP8 : Hid (KpT 48 wr w8) := hkp8
      obtain ⟨g, hg⟩ : ∃ g, ediF isNm 1000000 (EdtM.x ⟨xr, xt, ⟨AO, cO, srtF CliM.x zs⟩⟩) = g := ⟨_, rfl⟩
      have HCK : Hid (Calls Tryz.prog 14 #[.agg #[.int .i64 xr, .int .i64 xt, .slice AO zs.length cO]] w8 fun e w' => e = .returned (.tuple #[ckV g (.agg #[.int .i64 xr, .int .i64 xt, .slice AO zs.length cO]), .int .i64 g]) ∧ Gq w8 w') := by
        have := checked_any ⟨xr, xt, ⟨AO, cO, srtF CliM.x zs⟩⟩ w8 HOK8.out
        rw [hg] at this
        simp only [EdtM.v, Slc.v] at this
        rw [hlen] at this
        exact this
      have HXE : Hid (EdtM.x ⟨xr, xt, ⟨AO, cO, srtF CliM.x zs⟩⟩ = ⟨X.rate, X.tracks, srtC (X.x.cs ++ Y.x.cs.map (movC dd))⟩) := by
        have hm : (srtF CliM.x zs).map CliM.x = srtC (X.x.cs ++ Y.x.cs.map (movC dd)) := by rw [← HZX2.out]; exact srt_map id CliM.x zs
        show _ = _
        rw [← hm, HXS.out.1, HXS.out.2.1]; rfl
      have HRG : Hid (g ≠ 0 → r = (e0, g)) := fun hn => by rw [HR.out, ← HXE.out]; rw [← hg] at hn ⊢; exact mkE_bad hn
      have HRK : Hid (g = 0 → r = (EdtM.x ⟨xr, xt, ⟨AO, cO, srtF CliM.x zs⟩⟩, 0)) := fun hn => by rw [HR.out, ← HXE.out]; rw [← hg] at hn; exact mkE_ok hn
      have HROW : Hid (RdT 37 w8 AO ((srtF CliM.x zs).flatMap CliM.cs)) := RdT.of_own hown8
      have HLEN := Lib.hid hlen
      have d0 : w8.cell? ⟨w.heap.size, 0, none⟩ = some (.int .i64 xr) := HKA8.out.cell 0
      have d1 : w8.cell? ⟨w.heap.size, 1, none⟩ = some (.int .i64 xt) := HKA8.out.cell 1
      have d2 : w8.cell? ⟨w.heap.size, 2, none⟩ = some (.slice AO zs.length cO) := HKA8.out.cell 2
      clear hown8 hkp8 hbl8 c2 HORD hlen HZX2 HXE HR hg
      go_wp2_with fail
      refine HCK.out.mono ?_
      rintro e w9 ⟨rfl, hg9⟩
      have HGQ9 : Hid (Gq w8 w9) := hg9
      have HG9 : Hid (Gq w w9) := HG8.out.trans hg9
      have hkr := blkq HKR8.out hg9
      have HKR9 := Lib.hid hkr
      obtain ⟨k0, k1, k2, f0, f1, f2⟩ := HRB.out w9 hkr
      clear hg9 hkr d0 d1 d2 HCK
      by_cases hg0 : g = 0
      · subst hg0
        rw [ckV_ok]
        have HRR := Lib.hid (HRK.out (by simp))
        obtain ⟨⟨e0', e1, e2⟩, -, hge⟩ := HEND.out w9 (.int .i64 xr) (.int .i64 xt) (.slice AO zs.length cO) HG9.out HKR9.out
        have HGE := Lib.hid hge
        have HFIN : Hid (EdtOk (setN w9 (w.heap.size + 2) 0 [.int .i64 xr, .int .i64 xt, .slice AO zs.length cO]) ⟨xr, xt, ⟨AO, cO, srtF CliM.x zs⟩⟩) := by
          have h1 := HOK8.out
          have kc : KpT 37 w8 (setN w9 (w.heap.size + 2) 0 [.int .i64 xr, .int .i64 xt, .slice AO zs.length cO]) := (KpT.of_below HGQ9.out).trans (setN_kp _ HKR9.out (by decide) 0)
          have kp : KpT 48 wr (setN w9 (w.heap.size + 2) 0 [.int .i64 xr, .int .i64 xt, .slice AO zs.length cO]) := HKP8.out.trans ((KpT.of_below HGQ9.out).trans (setN_kp _ HKR9.out (by decide) 0))
          exact ⟨h1.rate, h1.tracks, h1.cl, (HROW.out.kp kc).rd, fun c hc => ((HZT.out c ((srt_perm CliM.x zs).mem_iff.1 hc)).kp kp).1⟩
        have HV : Hid (EdtM.v ⟨xr, xt, ⟨AO, cO, srtF CliM.x zs⟩⟩ = .agg #[.int .i64 xr, .int .i64 xt, .slice AO zs.length cO]) := by
          show _ = _
          simp only [EdtM.v, Slc.v]
          rw [HLEN.out]
        simp only [setN, Nat.zero_add, Nat.reduceAdd] at HFIN
        clear hge HRG HRK
        go_wp2_with fail
        refine bodyPost_ret (v := .tuple #[.agg #[.int .i64 xr, .int .i64 xt, .slice AO zs.length cO], .int .i64 0]) (by simp [results, Tryz.results4, go_sem, e0', e1, e2]) rfl ⟨HGE.out, ⟨xr, xt, ⟨AO, cO, srtF CliM.x zs⟩⟩, ?_, ?_, HFIN.out⟩
        · rw [HV.out, HRR.out]
        · rw [HRR.out]
      · rw [ckV_bad hg0]
        have HRR := Lib.hid (HRG.out hg0)
        obtain ⟨⟨e0', e1, e2⟩, -, hge⟩ := HEND.out w9 (.int .i64 0) (.int .i64 0) (.slice none 0 0) HG9.out HKR9.out
        have HGE := Lib.hid hge
        clear hge HRG HRK hg0
        go_wp2_with fail
        exact bodyPost_ret (v := .tuple #[.agg #[.int .i64 0, .int .i64 0, .slice none 0 0], .int .i64 g]) (by simp [results, Tryz.results4, go_sem, e0', e1, e2]) rfl (ediR_none HRR.out HGE.out)
    have hd0 : decide (k < l2.length) = true := by simpa using hlt
    have i0 : (0 : Int) ≤ (k : Int) := by omega
    have i1 : (k : Int) < (l2.length : Int) := by omega
    obtain ⟨b, off, hA2, hbb, hcs⟩ := cli_at (Rd.of_own HO27.out) (show 0 < l2.length by omega)
    subst hA2
    obtain ⟨p0, p1, p2, p3, p4, p5, p6⟩ := hcs k hlt
    have HCO : Hid (CliT wr l2[k]) := HT2.out _ (List.getElem_mem _)
    have HCB : Hid (0 ≤ l2[k].at_ ∧ l2[k].at_ ≤ 100000) := HL2.out.2 _ (List.getElem_mem _)
    have HTK : Hid ((l2.take (k + 1)).map (fun c => movC dd c.x) = (l2.take k).map (fun c => movC dd c.x) ++ [movC dd l2[k].x]) := by
      show _ = _; rw [List.take_succ_eq_append_getElem hlt, List.map_append]; rfl
    clear hcs
    obtain ⟨Z, hZ⟩ : ∃ X, l2[k] = X := ⟨_, rfl⟩
    rw [hZ] at p0 p1 p2 p3 p4 p5 p6 HCO HCB HTK
    clear hZ
    obtain ⟨zm, hzm⟩ : ∃ z : CliM, z = ⟨Z.m, Z.ch, Z.fr, Z.tr, Z.at_ + dd, Z.ln, Z.e⟩ := ⟨_, rfl⟩
    have HZM : Hid (CliT wr zm) := by rw [hzm]; exact cliT_mov HCO.out (by have := HCB.out; unfold inI64; omega)
    have HZXM : Hid (zm.x = movC dd Z.x) := by rw [hzm]; rfl
    obtain ⟨xm, xc, xf, xt', xa, xl, ⟨EA, ed, es⟩⟩ := Z
    obtain ⟨en, hen⟩ : ∃ n, es.length = n := ⟨_, rfl⟩
    have HZC : Hid (zm.cs = [.string xm, .int .i64 xc, .int .i64 xf, .int .i64 xt', .int .i64 (xa + dd), .int .i64 xl, .slice EA en ed]) := by rw [hzm, ← hen]; rfl
    simp only at p0 p1 p2 p3 p4 p5 p6 HCB
    rw [hen] at p6
    have hab := HCB.out
    have hwa2 : IntKind.i64.wrap (xa + dd) = xa + dd := IntWalk.i64_in _ ⟨by omega, by omega⟩
    clear hzm hen HCO hab
    obtain ⟨wa, hwa⟩ : ∃ wa, wa = wr.alloc (.cells #[.string xm, .int .i64 xc, .int .i64 xf, .int .i64 xt', .int .i64 xa, .int .i64 xl, .slice EA en ed] 37) := ⟨_, rfl⟩
    have HKC : Hid (Blk wa wr.heap.size 37 [.string xm, .int .i64 xc, .int .i64 xf, .int .i64 xt', .int .i64 xa, .int .i64 xl, .slice EA en ed]) := by rw [hwa]; exact Blk.new wr _ _
    have a4 : wa.cell? ⟨wr.heap.size, 4, none⟩ = some (.int .i64 xa) := HKC.out.cell 4
    have f4 := HKC.out.frozen 4
    have HGA : Hid (Gq wr wa) := by rw [hwa]; exact (Gq.refl _).alloc _
    have HWA := Lib.hid hwa
    clear hwa
    go_upto_region 11 with (fail)
    rw [← HWA.out]
    obtain ⟨wd, hwd'⟩ : ∃ wd, wd = wa.setCell ⟨wr.heap.size, 4, none⟩ (.int .i64 (xa + dd)) := ⟨_, rfl⟩
    have HKD : Hid (Blk wd wr.heap.size 37 [.string xm, .int .i64 xc, .int .i64 xf, .int .i64 xt', .int .i64 (xa + dd), .int .i64 xl, .slice EA en ed]) := by rw [hwd']; exact HKC.out.set_ 4 (.int .i64 (xa + dd))
    have HGD : Hid (Gq wr wd) := by rw [hwd']; exact HGA.out.setCell (p := ⟨wr.heap.size, 4, none⟩) (Nat.le_refl _) _
    have HKA8 := Lib.hid (blkq HKA7.out HGD.out)
    have HKR8 := Lib.hid (blkq HKR7.out HGD.out)
    have HO8 : Hid (wd.ownsRow (w.heap.size + 3) 37 7 (.slice AO zs.length cO) zs.length (zs.flatMap CliM.cs)) := own_belowL HO7.out HGD.out
    have HO28 : Hid (wd.ownsRow (w.heap.size + 3) 37 7 (.slice (some ⟨b, off, none⟩) l2.length q2) l2.length (l2.flatMap CliM.cs)) := own_belowL HO27.out HGD.out
    have HT8 : Hid (∀ y ∈ zs ++ [zm], CliT wd y) := fun y hy => by
      rcases List.mem_append.1 hy with hy | hy
      · exact (HZT.out y hy).gq HGD.out
      · rw [List.mem_singleton.1 hy]; exact HZM.out.gq HGD.out
    have HT28 : Hid (∀ y ∈ l2, CliT wd y) := fun y hy => (HT2.out y hy).gq HGD.out
    have HG8 : Hid (Gq w wd) := HG7.out.trans HGD.out
    have HZ8 : Hid (w.heap.size + 3 ≤ wd.heap.size) := Nat.le_trans HZ7.out (Below.size HGD.out)
    have HB8 : Hid (∀ b', (Value.slice (some ⟨b, off, none⟩) l2.length q2).ownBlock = some b' → b' < wd.heap.size) := fun b' hb' => (HO28.out.lt b' hb').2
    have HZX9 : Hid ((zs ++ [zm]).map CliM.x = xs.map CliM.x ++ (l2.take (k + 1)).map (fun c => movC dd c.x)) := by
      show _ = _; rw [HTK.out, List.map_append, HZX.out, List.append_assoc, List.map_cons, List.map_nil, HZXM.out]
    have a0 : wd.cell? ⟨wr.heap.size, 0, none⟩ = some (.string xm) := HKD.out.cell 0
    have a1 : wd.cell? ⟨wr.heap.size, 1, none⟩ = some (.int .i64 xc) := HKD.out.cell 1
    have a2 : wd.cell? ⟨wr.heap.size, 2, none⟩ = some (.int .i64 xf) := HKD.out.cell 2
    have a3 : wd.cell? ⟨wr.heap.size, 3, none⟩ = some (.int .i64 xt') := HKD.out.cell 3
    have a5 : wd.cell? ⟨wr.heap.size, 4, none⟩ = some (.int .i64 (xa + dd)) := HKD.out.cell 4
    have a6 : wd.cell? ⟨wr.heap.size, 5, none⟩ = some (.int .i64 xl) := HKD.out.cell 5
    have a7 : wd.cell? ⟨wr.heap.size, 6, none⟩ = some (.slice EA en ed) := HKD.out.cell 6
    have v2 : wd.cell? ⟨w.heap.size, 2, none⟩ = some (.slice AO zs.length cO) := HKA8.out.cell 2
    have HWD := Lib.hid hwd'
    clear hwd' p0 p1 p2 p3 p4 p5 p6 HKA7 HKR7 HO7 HO27 HZT HT2 HTK HZX HZXM HZM
    go_upto_region 12 with (fail)
    rw [← HWD.out]
    have HKA9 : Hid (∀ w9, (wd.alloc (.cells #[.string xm, .int .i64 xc, .int .i64 xf, .int .i64 xt', .int .i64 (xa + dd), .int .i64 xl, .slice EA en ed] 37)).grownBy w9 (Value.slice AO zs.length cO).ownBlock → Blk w9 w.heap.size 24 [.int .i64 xr, .int .i64 xt, .slice AO zs.length cO] ∧ w9.cell? ⟨w.heap.size, 2, none⟩ = some (.slice AO zs.length cO) ∧ w9.frozen? ⟨w.heap.size, 2, none⟩ = false) := fun w9 hg => by
      have k1 := blk_grown2 (blkq HKA8.out ((Gq.refl _).alloc _)) hg (fun e => by have := (HO8.out.lt _ e.symm).1; omega)
      exact ⟨k1, k1.cell 2, k1.frozen 2⟩
    have hzl9 := HZL.out
    have hz9 : zs.length ≤ 600 := by omega
    clear a4 f4 hzl9
    go_wp2_with (at_builtin; (refine wpList_append_lies _ rfl _ _ 22 rfl (w.heap.size + 3) 37 ii _ 7 80 Tryz.underlying22 HII.out.1 HII.out.2.1 HII.out.2.2.1 HII.out.2.2.2 rfl (by decide) _ _ _ rfl (HO8.out.alloc _) ⟨wd.heap.size, 0, none⟩ 1 1 [.string xm, .int .i64 xc, .int .i64 xf, .int .i64 xt', .int .i64 (xa + dd), .int .i64 xl, .slice EA en ed] (by rfl) (by rfl) (World.news_of_block (cs := #[.string xm, .int .i64 xc, .int .i64 xf, .int .i64 xt', .int .i64 (xa + dd), .int .i64 xl, .slice EA en ed]) (t := 37) (fr := (0, 0)) (by exact heap_alloc_new wd _)) (by simp [Value.oneCell']) (by decide) (by unfold maxLen; omega) (by omega) (by have := HZ8.out; simp; omega) _ rfl ?_); intro g9 cap9 w9 hown9 hgrow9 hat9 hg9; obtain ⟨hka9, hv9, hf9⟩ := HKA9.out w9 hgrow9)
    have hgA : (wd.alloc (.cells #[.string xm, .int .i64 xc, .int .i64 xf, .int .i64 xt', .int .i64 (xa + dd), .int .i64 xl, .slice EA en ed] 37)).grownBy w9 (Value.slice AO zs.length cO).ownBlock := hgrow9
    have hoA := HO8.out.alloc (.cells #[.string xm, .int .i64 xc, .int .i64 xf, .int .i64 xt', .int .i64 (xa + dd), .int .i64 xl, .slice EA en ed] 37)
    have hsA : (wd.alloc (.cells #[.string xm, .int .i64 xc, .int .i64 xf, .int .i64 xt', .int .i64 (xa + dd), .int .i64 xl, .slice EA en ed] 37)).heap.size = wd.heap.size + 1 := by simp
    have hg9' : Below (w.heap.size + 3) wd w9 := ((Below.refl _ wd).alloc HZ8.out _).grown hgA (by rw [hsA]; have := HZ8.out; omega) (fun k hk => (hoA.lt k hk).1)
    obtain ⟨w10, hw10⟩ : ∃ w10, w9.setCell ⟨w.heap.size, 2, none⟩ (.slice (some ⟨g9, 0, none⟩) (zs.length + 1) cap9) = w10 := ⟨_, rfl⟩
    have hkp9 : KpT 48 wd w9 := ((KpT.refl _ _).alloc _).trans (KpT.own hoA hgA (by decide))
    have hkpA : KpT 48 wd w10 := by rw [← hw10]; exact hkp9.setCell ⟨_, _, hka9⟩ (by decide)
    have HLZ : Hid ((zs ++ [zm]).length = zs.length + 1) := by show _ = _; simp
    have HKA10 : Hid (Blk w10 w.heap.size 24 [.int .i64 xr, .int .i64 xt, .slice (some ⟨g9, 0, none⟩) (zs ++ [zm]).length cap9]) := by rw [← hw10, HLZ.out]; exact hka9.set_ 2 _
    have HKR10 : Hid (Blk w10 (w.heap.size + 2) 24 [.int .i64 0, .int .i64 0, .slice none 0 0]) := by
      rw [← hw10]; exact blk_setO ((hg9'.block _ (by omega)).trans HKR8.out) (by show w.heap.size + 2 ≠ w.heap.size; omega) _
    have HO10 : Hid (w10.ownsRow (w.heap.size + 3) 37 7 (.slice (some ⟨g9, 0, none⟩) (zs ++ [zm]).length cap9) (zs ++ [zm]).length ((zs ++ [zm]).flatMap CliM.cs)) := by
      have h1 := own_set hown9 (p := ⟨w.heap.size, 2, none⟩) (by show w.heap.size < _; omega) (.slice (some ⟨g9, 0, none⟩) (zs.length + 1) cap9)
      rw [hw10] at h1
      rw [HLZ.out, flat_snoc, HZC.out]; exact h1
    have HO210 : Hid (w10.ownsRow (w.heap.size + 3) 37 7 (.slice (some ⟨b, off, none⟩) l2.length q2) l2.length (l2.flatMap CliM.cs)) := by
      rw [← hw10]
      exact own_set ((HO28.out.alloc _).kept hgA (.inr fun e => HAP.out b rfl e.symm)) (by show w.heap.size < _; omega) _
    have HAP10 : Hid (∀ b', (Value.slice (some ⟨b, off, none⟩) l2.length q2).ownBlock = some b' → (Value.slice (some ⟨g9, 0, none⟩) (zs ++ [zm]).length cap9).ownBlock ≠ some b') :=
      own_apart (w := wd.alloc (.cells #[.string xm, .int .i64 xc, .int .i64 xf, .int .i64 xt', .int .i64 (xa + dd), .int .i64 xl, .slice EA en ed] 37)) (v := .slice AO zs.length cO) rfl hat9 HAP.out (fun b' hb' => by have := HB8.out b' hb'; rw [hsA]; omega)
    have HT10 : Hid (∀ y ∈ zs ++ [zm], CliT w10 y) := fun y hy => (HT8.out y hy).kp hkpA
    have HT210 : Hid (∀ y ∈ l2, CliT w10 y) := fun y hy => (HT28.out y hy).kp hkpA
    have HG10 : Hid (Gq w w10) := by
      rw [← hw10]; exact (Below.trans HG8.out (Below.mono hg9' (by omega))).setCell (p := ⟨w.heap.size, 2, none⟩) (Nat.le_refl _) _
    have HZ10 : Hid (w.heap.size + 3 ≤ w10.heap.size) := by
      have h1 := hg9'.size
      have h2 := HZ8.out
      show _ ≤ _
      rw [← hw10]; simp only [World.setCell, Array.size_modify]; omega
    have HL10 : Hid ((zs ++ [zm]).length = l1.length + (k + 1)) := by have h1 := HLZ.out; have h2 := HZL.out; show _ = _; omega
    clear hka9 hgA hoA hsA hg9' hkp9 hkpA hown9 hgrow9 hat9 hg9
    go_wp2_with fail
    rw [hw10]
    go_roundw
    case rel => exact ⟨k + 1, zs ++ [zm], _, _, hlt, by go_num, HL10, HKA10, HKR10, HO10, HZX9, HT10, HO210, HAP10, HT210, HG10, HZ10⟩
    case measure => simp [intOf]; omega
end Go.Proofs.YtmknpeoflafaoaaGreatDoor
/- Generated (gen/mixa.py): the contract of edit.Mix. -/
namespace Go.Proofs.YtmknpeoflafaoaaGreatDoor
open Go.RowKit Go.Dw
attribute [local go_sem ↓] Go.wp_at_zero Go.wp_at_succ
attribute [local go_sem] Go.Dwo.Oper.tame

theorem cli_oneM (l : List CliM) : ∀ u ∈ l.flatMap CliM.cs, u.oneCell' = true := fun u hu => by
  obtain ⟨p, _, hp⟩ := List.mem_flatMap.1 hu
  simp [CliM.cs] at hp
  rcases hp with rfl | rfl | rfl | rfl | rfl | rfl | rfl <;> rfl
def mixF (w0 : World) (xr xt : Int) (xA : Option Addr) (xn xd : Nat) (yr yt : Int) (yA : Option Addr) (yn yd : Nat) (LX LY : List Cli) : List Go.Dwo.Fact := [
  ⟨[], [], fun _ W => Gq w0 W ∧ w0.heap.size + 3 ≤ W.heap.size⟩,
  ⟨[], [9], fun _ W => Blk W w0.heap.size 24 [.int .i64 xr, .int .i64 xt, .slice xA xn xd]⟩,
  ⟨[], [], fun _ W => Blk W (w0.heap.size + 1) 24 [.int .i64 yr, .int .i64 yt, .slice yA yn yd]⟩,
  ⟨[], [], fun _ W => Blk W (w0.heap.size + 2) 24 [.int .i64 0, .int .i64 0, .slice none 0 0]⟩,
  ⟨[0], [], fun vs _ => vs 0 = .pointer (some ⟨w0.heap.size, 2, none⟩)⟩,
  ⟨[1], [], fun vs _ => vs 1 = .slice xA xn xd⟩,
  ⟨[3], [], fun vs _ => vs 3 = .pointer (some ⟨w0.heap.size + 1, 2, none⟩)⟩,
  ⟨[4], [], fun vs _ => vs 4 = .slice yA yn yd⟩,
  ⟨[8], [], fun vs _ => vs 8 = .pointer (some ⟨w0.heap.size, 2, none⟩)⟩,
  ⟨[2], [6, 7, 9], fun vs W => ∃ A q, ∃ l : List CliM, vs 2 = .slice A l.length q ∧ W.ownsRow (w0.heap.size + 3) 37 7 (.slice A l.length q) l.length (l.flatMap CliM.cs) ∧ l.map CliM.x = LX ∧ ∀ y ∈ l, CliT W y⟩,
  ⟨[5], [6, 7, 9], fun vs W => ∃ A q, ∃ l : List CliM, vs 5 = .slice A l.length q ∧ W.ownsRow (w0.heap.size + 3) 37 7 (.slice A l.length q) l.length (l.flatMap CliM.cs) ∧ l.map CliM.x = LY ∧ ∀ y ∈ l, CliT W y⟩,
  ⟨[2, 5], [6, 7, 9], fun vs _ => ∀ b, (vs 5).ownBlock = some b → (vs 2).ownBlock ≠ some b⟩,
  ⟨[6], [7, 9], fun vs W => ∃ A q, ∃ l : List CliM, vs 6 = .slice A l.length q ∧ W.ownsRow (w0.heap.size + 3) 37 7 (.slice A l.length q) l.length (l.flatMap CliM.cs) ∧ l.map CliM.x = LX ++ LY ∧ ∀ y ∈ l, CliT W y⟩,
  ⟨[7], [9], fun vs W => ∃ A q, ∃ l : List CliM, vs 7 = .slice A l.length q ∧ W.ownsRow (w0.heap.size + 3) 37 7 (.slice A l.length q) l.length (l.flatMap CliM.cs) ∧ l.map CliM.x = srtC (LX ++ LY) ∧ ∀ y ∈ l, CliT W y⟩,
  ⟨[7, 9], [], fun vs W => ∃ A q, ∃ l : List CliM, vs 7 = .slice A l.length q ∧ Blk W w0.heap.size 24 [.int .i64 xr, .int .i64 xt, .slice A l.length q] ∧ W.ownsRow (w0.heap.size + 3) 37 7 (.slice A l.length q) l.length (l.flatMap CliM.cs) ∧ l.map CliM.x = srtC (LX ++ LY) ∧ ∀ y ∈ l, CliT W y⟩]
theorem mixK (w0 : World) (xr xt : Int) (xA : Option Addr) (xn xd : Nat) (yr yt : Int) (yA : Option Addr) (yn yd : Nat) (LX LY : List Cli) : ∀ f ∈ mixF w0 xr xt xA xn xd yr yt yA yn yd LX LY, ∀ vs w w', Gq w w' → f.says vs w → f.says vs w' :=
  Go.Dwo.fa_cons (fun _ _ _ hg h => ⟨h.1.trans hg, Nat.le_trans h.2 (Below.size hg)⟩) <|
  Go.Dwo.fa_cons (fun _ _ _ hg h => blkq h hg) <|
  Go.Dwo.fa_cons (fun _ _ _ hg h => blkq h hg) <|
  Go.Dwo.fa_cons (fun _ _ _ hg h => blkq h hg) <|
  Go.Dwo.fa_cons (fun _ _ _ _ h => h) <|
  Go.Dwo.fa_cons (fun _ _ _ _ h => h) <|
  Go.Dwo.fa_cons (fun _ _ _ _ h => h) <|
  Go.Dwo.fa_cons (fun _ _ _ _ h => h) <|
  Go.Dwo.fa_cons (fun _ _ _ _ h => h) <|
  Go.Dwo.fa_cons (fun _ _ _ hg h => (by obtain ⟨A, q, l, h1, h2, h3, h4⟩ := h; exact ⟨A, q, l, h1, own_belowL h2 hg, h3, fun y hy => (h4 y hy).gq hg⟩)) <|
  Go.Dwo.fa_cons (fun _ _ _ hg h => (by obtain ⟨A, q, l, h1, h2, h3, h4⟩ := h; exact ⟨A, q, l, h1, own_belowL h2 hg, h3, fun y hy => (h4 y hy).gq hg⟩)) <|
  Go.Dwo.fa_cons (fun _ _ _ _ h => h) <|
  Go.Dwo.fa_cons (fun _ _ _ hg h => (by obtain ⟨A, q, l, h1, h2, h3, h4⟩ := h; exact ⟨A, q, l, h1, own_belowL h2 hg, h3, fun y hy => (h4 y hy).gq hg⟩)) <|
  Go.Dwo.fa_cons (fun _ _ _ hg h => (by obtain ⟨A, q, l, h1, h2, h3, h4⟩ := h; exact ⟨A, q, l, h1, own_belowL h2 hg, h3, fun y hy => (h4 y hy).gq hg⟩)) <|
  Go.Dwo.fa_cons (fun _ _ _ hg h => (by obtain ⟨A, q, l, h1, h2, h3, h4, h5⟩ := h; exact ⟨A, q, l, h1, blkq h2 hg, own_belowL h3 hg, h4, fun y hy => (h5 y hy).gq hg⟩)) <|
  Go.Dwo.fa_nil _
set_option maxRecDepth 100000 in
set_option maxHeartbeats 8000000 in
theorem mix_any (x y : EdtM) (w : World) (hx : EdtOk w x) (hy : EdtOk w y) : Calls Tryz.prog 6 #[x.v, y.v] w (EdiR (mixE isNm 1000000 x.x y.x) w) := by
  obtain ⟨r, hr⟩ : ∃ r, mixE isNm 1000000 x.x y.x = r := ⟨_, rfl⟩
  obtain ⟨f, hf⟩ : ∃ f, twoF isNm 1000000 false x.x y.x = f := ⟨_, rfl⟩
  have HTW : Hid (∀ W, Gq w W → Calls Tryz.prog 10 #[x.v, y.v] W fun e w' => e = .returned (.int .i64 f) ∧ Gq W w') := fun W hW => by rw [← hf]; exact checkTwo_any x y W (hx.below hW) (hy.below hW)
  have HBAD : Hid (f ≠ 0 → r = (e0, f)) := fun hn => by rw [← hr, ← hf] at *; unfold mixE; rw [if_pos hn]
  have HGOOD : Hid (f = 0 → r = mkE isNm 1000000 ⟨x.rate, x.tracks, srtC (x.x.cs ++ y.x.cs)⟩) := fun h0 => by rw [← hr]; unfold mixE; rw [if_neg (by rw [hf]; exact fun k => k h0)]; rfl
  have HRX : Hid (f = 0 → ediF isNm 1000000 x.x = 0 ∧ ediF isNm 1000000 y.x = 0) := fun h0 => by rw [← hf] at h0; exact ⟨(twoF_ok h0).1, (twoF_ok h0).2.1⟩
  rw [hr]
  have HOX := Lib.hid hx
  have HOY := Lib.hid hy
  clear hr hf hx hy
  obtain ⟨X, hX⟩ : ∃ X, x = X := ⟨_, rfl⟩
  obtain ⟨Y, hY⟩ : ∃ Y, y = Y := ⟨_, rfl⟩
  obtain ⟨xr, xt, ⟨xA, xd, xs⟩⟩ := x
  obtain ⟨yr, yt, ⟨yA, yd, ys⟩⟩ := y
  obtain ⟨xn, hxn⟩ : ∃ xn : Nat, xs.length = xn := ⟨_, rfl⟩
  obtain ⟨yn, hyn⟩ : ∃ yn : Nat, ys.length = yn := ⟨_, rfl⟩
  have hxv : X.v = .agg #[.int .i64 xr, .int .i64 xt, .slice xA xn xd] := by rw [← hX, ← hxn]; rfl
  have hyv : Y.v = .agg #[.int .i64 yr, .int .i64 yt, .slice yA yn yd] := by rw [← hY, ← hyn]; rfl
  have HXS : Hid (X.rate = xr ∧ X.tracks = xt ∧ X.cs = ⟨xA, xd, xs⟩ ∧ X.x.cs = xs.map CliM.x ∧ xs.length = xn) := by rw [← hX]; exact ⟨rfl, rfl, rfl, rfl, hxn⟩
  have HYS : Hid (Y.cs = ⟨yA, yd, ys⟩ ∧ Y.x.cs = ys.map CliM.x ∧ ys.length = yn) := by rw [← hY]; exact ⟨rfl, rfl, hyn⟩
  rw [hX] at HOX HTW HGOOD HRX ⊢
  rw [hY] at HOY HTW HGOOD HRX ⊢
  rw [hxv, hyv] at HTW ⊢
  clear hX hY hxn hyn hxv hyv
  obtain ⟨wa, hwa⟩ : ∃ wa, wa = w.alloc (.cells #[.int .i64 xr, .int .i64 xt, .slice xA xn xd] 24) := ⟨_, rfl⟩
  obtain ⟨wb, hwb⟩ : ∃ wb, wb = wa.alloc (.cells #[.int .i64 yr, .int .i64 yt, .slice yA yn yd] 24) := ⟨_, rfl⟩
  obtain ⟨wc, hwc⟩ : ∃ wc, wc = wb.alloc (.cells #[.int .i64 0, .int .i64 0, .slice none 0 0] 24) := ⟨_, rfl⟩
  have hza : wa.heap.size = w.heap.size + 1 := by rw [hwa]; simp
  have hzb : wb.heap.size = w.heap.size + 2 := by rw [hwb]; simp; omega
  have hzc : wc.heap.size = w.heap.size + 3 := by rw [hwc]; simp; omega
  have hga : Gq w wa := by rw [hwa]; exact (Gq.refl _).alloc _
  have hgb : Gq wa wb := by rw [hwb]; exact (Gq.refl _).alloc _
  have hgc : Gq wb wc := by rw [hwc]; exact (Gq.refl _).alloc _
  have HG : Hid (Gq w wc) := hga.trans (hgb.trans hgc)
  have HZ : Hid (wc.heap.size = w.heap.size + 3) := hzc
  have HKA : Hid (Blk wc w.heap.size 24 [.int .i64 xr, .int .i64 xt, .slice xA xn xd]) := by
    refine blkq (?_ : Blk wa w.heap.size _ _) (hgb.trans hgc); rw [hwa]; exact Blk.new w _ _
  have HKB : Hid (Blk wc (w.heap.size + 1) 24 [.int .i64 yr, .int .i64 yt, .slice yA yn yd]) := by
    refine blkq (?_ : Blk wb (w.heap.size + 1) _ _) hgc; rw [hwb, ← hza]; exact Blk.new wa _ _
  have HKR : Hid (Blk wc (w.heap.size + 2) 24 [.int .i64 0, .int .i64 0, .slice none 0 0]) := by
    rw [hwc, ← hzb]; exact Blk.new wb _ _
  have HCE : Hid (∀ W, Gq wc W → W.cell? ⟨w.heap.size, 0, none⟩ = some (.int .i64 xr) ∧ W.cell? ⟨w.heap.size, 1, none⟩ = some (.int .i64 xt) ∧ W.cell? ⟨w.heap.size, 2, none⟩ = some (.slice xA xn xd) ∧ W.cell? ⟨w.heap.size + 1, 0, none⟩ = some (.int .i64 yr) ∧ W.cell? ⟨w.heap.size + 1, 1, none⟩ = some (.int .i64 yt) ∧ W.cell? ⟨w.heap.size + 1, 2, none⟩ = some (.slice yA yn yd)) := fun W hW => by
    have k1 := blkq HKA.out hW
    have k2 := blkq HKB.out hW
    exact ⟨k1.cell 0, k1.cell 1, k1.cell 2, k2.cell 0, k2.cell 1, k2.cell 2⟩
  -- the result's box
  have HRB : Hid (∀ W, Blk W (w.heap.size + 2) 24 [.int .i64 0, .int .i64 0, .slice none 0 0] → W.cell? ⟨w.heap.size + 2, 0, none⟩ = some (.int .i64 0) ∧ W.cell? ⟨w.heap.size + 2, 1, none⟩ = some (.int .i64 0) ∧ W.cell? ⟨w.heap.size + 2, 2, none⟩ = some (.slice none 0 0) ∧ W.frozen? ⟨w.heap.size + 2, 0, none⟩ = false ∧ W.frozen? ⟨w.heap.size + 2, 1, none⟩ = false ∧ W.frozen? ⟨w.heap.size + 2, 2, none⟩ = false) := fun W k =>
    ⟨k.cell 0, k.cell 1, k.cell 2, k.frozen 0, k.frozen 1, k.frozen 2⟩
  have HEND : Hid (∀ W (a b c : Value), Gq w W → Blk W (w.heap.size + 2) 24 [.int .i64 0, .int .i64 0, .slice none 0 0] → (((((W.setCell ⟨w.heap.size + 2, 0, none⟩ a).setCell ⟨w.heap.size + 2, 1, none⟩ b).setCell ⟨w.heap.size + 2, 2, none⟩ c).cell? ⟨w.heap.size + 2, 0, none⟩ = some a ∧ (((W.setCell ⟨w.heap.size + 2, 0, none⟩ a).setCell ⟨w.heap.size + 2, 1, none⟩ b).setCell ⟨w.heap.size + 2, 2, none⟩ c).cell? ⟨w.heap.size + 2, 1, none⟩ = some b ∧ (((W.setCell ⟨w.heap.size + 2, 0, none⟩ a).setCell ⟨w.heap.size + 2, 1, none⟩ b).setCell ⟨w.heap.size + 2, 2, none⟩ c).cell? ⟨w.heap.size + 2, 2, none⟩ = some c) ∧ Gq W (((W.setCell ⟨w.heap.size + 2, 0, none⟩ a).setCell ⟨w.heap.size + 2, 1, none⟩ b).setCell ⟨w.heap.size + 2, 2, none⟩ c) = Gq W (setN W (w.heap.size + 2) 0 [a, b, c]) ∧ Gq w (((W.setCell ⟨w.heap.size + 2, 0, none⟩ a).setCell ⟨w.heap.size + 2, 1, none⟩ b).setCell ⟨w.heap.size + 2, 2, none⟩ c))) := fun W a b c hg hk => by
    have h1 := setN_blk [a, b, c] hk rfl
    exact ⟨⟨h1.cell 0, h1.cell 1, h1.cell 2⟩, rfl, setN_below (by omega) [a, b, c] W 0 hg⟩
  have HE0 := Lib.hid runE0
  obtain ⟨c0, c1, c2, c3, c4, c5⟩ := HCE.out wc (Gq.refl _)
  have HC1 := Lib.hid (HTW.out wc HG.out)
  rw [hwa] at hwb
  rw [hwb] at hwc
  have HWC := Lib.hid hwc
  clear hwa hwb hwc hga hgb hgc hza hzb hzc HTW
  by_cases hf0 : f = 0
  case neg =>
    have HR := Lib.hid (HBAD.out hf0)
    have hfb : (f != 0) = true := by simpa using hf0
    clear hf0 HBAD HGOOD HRX
    go_enter Tryz.func6, Tryz.ntmps6
    go_upto_region 1 with (fail)
    rw [← HWC.out]
    go_wp2_with fail
    refine HC1.out.mono ?_
    rintro e w2 ⟨rfl, hg2⟩
    have HG2 : Hid (Gq w w2) := HG.out.trans hg2
    obtain ⟨k0, k1, k2, f0, f1, f2⟩ := HRB.out w2 (blkq HKR.out hg2)
    obtain ⟨⟨e0', e1, e2⟩, -, hge⟩ := HEND.out w2 (.int .i64 0) (.int .i64 0) (.slice none 0 0) HG2.out (blkq HKR.out hg2)
    have HGE := Lib.hid hge
    have hrun := HE0.out w2
    clear hg2 hge c0 c1 c2 c3 c4 c5 HC1
    go_wp2_with fail
    exact bodyPost_ret (v := .tuple #[.agg #[.int .i64 0, .int .i64 0, .slice none 0 0], .int .i64 f]) (by simp [results, Tryz.results6, go_sem, e0', e1, e2]) rfl (ediR_none HR.out HGE.out)
  subst hf0
  obtain ⟨hrx, hry⟩ := HRX.out rfl
  have HRXA := Lib.hid (right_env hrx)
  have HRYA := Lib.hid (right_env hry)
  have HR := Lib.hid (HGOOD.out (by simp))
  clear hrx hry HRX HBAD HGOOD
  go_enter Tryz.func6, Tryz.ntmps6
  go_upto_region 1 with (fail)
  rw [← HWC.out]
  go_wp2_with fail
  refine HC1.out.mono ?_
  rintro e w2 ⟨rfl, hg2⟩
  have HG2 : Hid (Gq wc w2) := hg2
  obtain ⟨d0, d1, d2, d3, d4, d5⟩ := HCE.out w2 HG2.out
  have hfb : ((0 : Int) != 0) = false := rfl
  clear hg2 d0 d1 d2 d3 d4 d5 c0 c1 c2 c3 c4 c5 HC1 HWC
  have HXR : Hid (∀ W, Gq w W → Rd W xA (xs.flatMap CliM.cs) ∧ ∀ c ∈ xs, CliOk W c) := fun W hW => by
    have h1 := HOX.out.below hW
    have h2 := HXS.out.2.2.1
    exact ⟨by have := h1.cr; rw [h2] at this; exact this, fun c hc => h1.co c (by rw [h2]; exact hc)⟩
  have HYR : Hid (∀ W, Gq w W → Rd W yA (ys.flatMap CliM.cs) ∧ ∀ c ∈ ys, CliOk W c) := fun W hW => by
    have h1 := HOY.out.below hW
    have h2 := HYS.out.1
    exact ⟨by have := h1.cr; rw [h2] at this; exact this, fun c hc => h1.co c (by rw [h2]; exact hc)⟩
  have HXL : Hid (xs.length ≤ 300 ∧ (∀ c ∈ xs, c.e.xs.length ≤ 1000000000)) := by
    have h2 := HXS.out.2.2.1
    have h3 := HRXA.out
    rw [h2] at h3
    exact ⟨h3.1, fun c hc => Nat.le_trans (h3.2 c hc) (by decide)⟩
  have HYL : Hid (ys.length ≤ 300 ∧ (∀ c ∈ ys, c.e.xs.length ≤ 1000000000)) := by
    have h2 := HYS.out.1
    have h3 := HRYA.out
    rw [h2] at h3
    exact ⟨h3.1, fun c hc => Nat.le_trans (h3.2 c hc) (by decide)⟩
  obtain ⟨LX, hLX⟩ : ∃ L, xs.map CliM.x = L := ⟨_, rfl⟩
  obtain ⟨LY, hLY⟩ : ∃ L, ys.map CliM.x = L := ⟨_, rfl⟩
  have HLL : Hid (LX.length ≤ 300 ∧ LY.length ≤ 300) := by
    have h1 := HXL.out.1
    have h2 := HYL.out.1
    exact ⟨by rw [← hLX, List.length_map]; exact h1, by rw [← hLY, List.length_map]; exact h2⟩
  have HWX : Hid (∀ W, Gq w W → Calls Tryz.prog 12 #[.slice xA xn xd] W fun e w' => ∃ A' c', ∃ ys : List CliM, e = .returned (.slice A' ys.length c') ∧ w'.ownsRow W.heap.size 37 7 (.slice A' ys.length c') ys.length (ys.flatMap CliM.cs) ∧ ys.map CliM.x = LX ∧ (∀ y ∈ ys, CliT w' y) ∧ Gq W w') := fun W hW => by
    have := owned_any xA xd xs W (HXR.out W hW).1 (HXR.out W hW).2 HXL.out.2 (by have := HXL.out.1; omega)
    rw [HXS.out.2.2.2.2, hLX] at this
    exact this.mono fun e w' ⟨A', c', l, h1, h2, h3, h4, h5⟩ => ⟨A', c', l, h1, h3, h2, h4, h5⟩
  have HWY : Hid (∀ W, Gq w W → Calls Tryz.prog 12 #[.slice yA yn yd] W fun e w' => ∃ A' c', ∃ ys : List CliM, e = .returned (.slice A' ys.length c') ∧ w'.ownsRow W.heap.size 37 7 (.slice A' ys.length c') ys.length (ys.flatMap CliM.cs) ∧ ys.map CliM.x = LY ∧ (∀ y ∈ ys, CliT w' y) ∧ Gq W w') := fun W hW => by
    have := owned_any yA yd ys W (HYR.out W hW).1 (HYR.out W hW).2 HYL.out.2 (by have := HYL.out.1; omega)
    rw [HYS.out.2.2, hLY] at this
    exact this.mono fun e w' ⟨A', c', l, h1, h2, h3, h4, h5⟩ => ⟨A', c', l, h1, h3, h2, h4, h5⟩
  have HLXY : Hid (X.x.cs = LX ∧ Y.x.cs = LY) := ⟨by rw [HXS.out.2.2.2.1, hLX], by rw [HYS.out.2.1, hLY]⟩
  obtain ⟨ii, hii, hzi0, hzi1, hzi2⟩ := info_parts infoClO
  have HII := Lib.hid (And.intro hii (And.intro hzi0 (And.intro hzi1 hzi2)))
  clear hLX hLY HXR HYR HXL HYL hii hzi0 hzi1 hzi2
  go_upto_region 4 with (fail)
  obtain ⟨w0, hw0⟩ : ∃ w0, w0 = w := ⟨_, rfl⟩
  have HBASE : Hid (Gq w0 w2.drew ∧ w0.heap.size + 3 ≤ w2.drew.heap.size) := by
    rw [hw0]; exact ⟨(HG.out.trans HG2.out).drew, by have := Below.size HG2.out; have := HZ.out; show _ ≤ w2.heap.size; omega⟩
  have HBA : Hid (Blk w2.drew w0.heap.size 24 [.int .i64 xr, .int .i64 xt, .slice xA xn xd]) := by rw [hw0]; exact blkq HKA.out HG2.out.drew
  have HBB : Hid (Blk w2.drew (w0.heap.size + 1) 24 [.int .i64 yr, .int .i64 yt, .slice yA yn yd]) := by rw [hw0]; exact blkq HKB.out HG2.out.drew
  have HBR : Hid (Blk w2.drew (w0.heap.size + 2) 24 [.int .i64 0, .int .i64 0, .slice none 0 0]) := by rw [hw0]; exact blkq HKR.out HG2.out.drew
  subst hw0
  clear HG2 HKA HKB HKR HG HZ HCE
  refine Go.Dwo.wp_region_factsK _ (by kernel_rfl) [[], [0], [0, 1], [], [3], [3, 4], [0, 1, 2, 3, 4, 5], [0, 1, 2, 3, 4, 5, 6], [], [0, 1, 2, 3, 4, 5, 6, 7, 8]] (by kernel_rfl) (by kernel_rfl) [some 14, some 15, some 16, some 17, some 18, some 19, some 20, some 21, some 22, none] (by kernel_rfl) (fun vs => by simp only [Go.Dwo.putA, Go.Dwo.putL, if_true, Act.put, List.setIfInBounds_toArray, List.set_cons_zero, List.set_cons_succ]; rfl) (mixF w0 xr xt xA xn xd yr yt yA yn yd LX LY) (by kernel_rfl) ?_ ⟨?_, ?_, ?_, ?_, ?_, ?_, ?_, ?_, ?_, ?_, trivial⟩ ?_
  · exact Go.Dwo.fa_zero [0, 1, 2, 3] (by kernel_rfl) <| Go.Dwo.fa_cons (HBASE.out) <| Go.Dwo.fa_cons (HBA.out) <| Go.Dwo.fa_cons (HBB.out) <| Go.Dwo.fa_cons (HBR.out) <| Go.Dwo.fa_nil _
  · -- 0: Op.fieldAddr 24 t2 2
    intro Ls vs w Kk H hu hD hK
    replace hu : ∀ k ∈ ([] : List Nat), Ls k = true := hu
    replace hD : ∀ k ∈ ([0, 1, 2, 6, 7, 9] : List Nat), Ls k = false := Go.Dwo.fa_cons (hD 0 (.inl rfl)) <| Go.Dwo.fa_cons (hD 1 (.inr (by decide))) <| Go.Dwo.fa_cons (hD 2 (.inr (by decide))) <| Go.Dwo.fa_cons (hD 6 (.inr (by decide))) <| Go.Dwo.fa_cons (hD 7 (.inr (by decide))) <| Go.Dwo.fa_cons (hD 9 (.inr (by decide))) <| Go.Dwo.fa_nil _
    simp only [Go.Dwo.actOf, List.getD_cons_zero]
    have qbase : Gq w0 w ∧ w0.heap.size + 3 ≤ w.heap.size := H.up hu hD 0 rfl rfl rfl
    obtain ⟨h0, hz⟩ := qbase
    have bA : Blk w w0.heap.size 24 [.int .i64 xr, .int .i64 xt, .slice xA xn xd] := H.up hu hD 1 rfl rfl rfl
    have bB : Blk w (w0.heap.size + 1) 24 [.int .i64 yr, .int .i64 yt, .slice yA yn yd] := H.up hu hD 2 rfl rfl rfl
    have bR : Blk w (w0.heap.size + 2) 24 [.int .i64 0, .int .i64 0, .slice none 0 0] := H.up hu hD 3 rfl rfl rfl
    have hKK := Lib.hid hK
    clear hK H hu hD
    go_simp
    refine hKK.out _ _ (fun f _ _ _ _ h => h) ?_
    exact Go.Dwo.fa_pick [4] (by kernel_rfl) <| Go.Dwo.fa_cons (fun _ => rfl) <| Go.Dwo.fa_nil _
  · -- 1: Op.load 22 t14
    intro Ls vs w Kk H hu hD hK
    replace hu : ∀ k ∈ ([0] : List Nat), Ls k = true := hu
    replace hD : ∀ k ∈ ([1, 2, 6, 7, 9] : List Nat), Ls k = false := Go.Dwo.fa_cons (hD 1 (.inl rfl)) <| Go.Dwo.fa_cons (hD 2 (.inr (by decide))) <| Go.Dwo.fa_cons (hD 6 (.inr (by decide))) <| Go.Dwo.fa_cons (hD 7 (.inr (by decide))) <| Go.Dwo.fa_cons (hD 9 (.inr (by decide))) <| Go.Dwo.fa_nil _
    simp only [Go.Dwo.actOf, List.getD_cons_succ, List.getD_cons_zero]
    have qbase : Gq w0 w ∧ w0.heap.size + 3 ≤ w.heap.size := H.up hu hD 0 rfl rfl rfl
    obtain ⟨h0, hz⟩ := qbase
    have bA : Blk w w0.heap.size 24 [.int .i64 xr, .int .i64 xt, .slice xA xn xd] := H.up hu hD 1 rfl rfl rfl
    have bB : Blk w (w0.heap.size + 1) 24 [.int .i64 yr, .int .i64 yt, .slice yA yn yd] := H.up hu hD 2 rfl rfl rfl
    have bR : Blk w (w0.heap.size + 2) 24 [.int .i64 0, .int .i64 0, .slice none 0 0] := H.up hu hD 3 rfl rfl rfl
    have f0 : vs 0 = .pointer (some ⟨w0.heap.size, 2, none⟩) := H.up hu hD 4 rfl rfl rfl
    have d2 : w.cell? ⟨w0.heap.size, 2, none⟩ = _ := bA.cell 2
    simp only [List.getElem?_cons_zero, List.getElem?_cons_succ] at d2
    have hKK := Lib.hid hK
    clear hK H hu hD
    go_simp
    refine hKK.out _ _ (fun f _ _ _ _ h => h) ?_
    exact Go.Dwo.fa_pick [5] (by kernel_rfl) <| Go.Dwo.fa_cons (fun _ => rfl) <| Go.Dwo.fa_nil _
  · -- 2: Op.call { value (Operand.func 31), args := #[t15], argTypes := #[22] }
    intro Ls vs w Kk H hu hD hK
    replace hu : ∀ k ∈ ([0, 1] : List Nat), Ls k = true := hu
    replace hD : ∀ k ∈ ([2, 6, 7, 9] : List Nat), Ls k = false := Go.Dwo.fa_cons (hD 2 (.inl rfl)) <| Go.Dwo.fa_cons (hD 6 (.inr (by decide))) <| Go.Dwo.fa_cons (hD 7 (.inr (by decide))) <| Go.Dwo.fa_cons (hD 9 (.inr (by decide))) <| Go.Dwo.fa_nil _
    simp only [Go.Dwo.actOf, List.getD_cons_succ, List.getD_cons_zero]
    have qbase : Gq w0 w ∧ w0.heap.size + 3 ≤ w.heap.size := H.up hu hD 0 rfl rfl rfl
    obtain ⟨h0, hz⟩ := qbase
    have bA : Blk w w0.heap.size 24 [.int .i64 xr, .int .i64 xt, .slice xA xn xd] := H.up hu hD 1 rfl rfl rfl
    have bB : Blk w (w0.heap.size + 1) 24 [.int .i64 yr, .int .i64 yt, .slice yA yn yd] := H.up hu hD 2 rfl rfl rfl
    have bR : Blk w (w0.heap.size + 2) 24 [.int .i64 0, .int .i64 0, .slice none 0 0] := H.up hu hD 3 rfl rfl rfl
    have f1 : vs 1 = .slice xA xn xd := H.up hu hD 5 rfl rfl rfl
    have HDD := Lib.hid hD
    have HH := Lib.hid H
    have hKK := Lib.hid hK
    clear hK H hu hD
    go_simp
    refine (HWX.out w h0).mono ?_
    rintro e w' ⟨A', q', l', rfl, hown, hlx, hct, hb⟩
    refine ⟨_, rfl, hKK.out _ _ (fun f hf _ _ _ h => mixK w0 xr xt xA xn xd yr yt yA yn yd LX LY f hf _ _ _ hb h) ?_⟩
    exact Go.Dwo.fa_pick [9, 11] (by kernel_rfl) <| Go.Dwo.fa_cons (fun _ => ⟨A', q', l', rfl, own_base hown hz, hlx, hct⟩) <|
        Go.Dwo.fa_cons (fun hL => (by obtain ⟨A, q, l, e5, o5, -, -⟩ := HH.out.at_ 10 rfl (fun k hk => by rw [List.mem_singleton.1 hk]; exact (hL 5 (by decide) (by decide)).1) (fun k hk => HDD.out k (by simp only [List.mem_cons, List.not_mem_nil, or_false] at hk ⊢; omega)); intro b hb he; have hb : (vs 5).ownBlock = some b := hb; rw [show vs 5 = _ from e5] at hb; have h1 := (o5.lt b hb).2; have h2 := (hown.lt b he).1; omega)) <| Go.Dwo.fa_nil _
  · -- 3: Op.fieldAddr 24 t3 2
    intro Ls vs w Kk H hu hD hK
    replace hu : ∀ k ∈ ([] : List Nat), Ls k = true := hu
    replace hD : ∀ k ∈ ([3, 4, 5, 6, 7, 9] : List Nat), Ls k = false := Go.Dwo.fa_cons (hD 3 (.inl rfl)) <| Go.Dwo.fa_cons (hD 4 (.inr (by decide))) <| Go.Dwo.fa_cons (hD 5 (.inr (by decide))) <| Go.Dwo.fa_cons (hD 6 (.inr (by decide))) <| Go.Dwo.fa_cons (hD 7 (.inr (by decide))) <| Go.Dwo.fa_cons (hD 9 (.inr (by decide))) <| Go.Dwo.fa_nil _
    simp only [Go.Dwo.actOf, List.getD_cons_succ, List.getD_cons_zero]
    have qbase : Gq w0 w ∧ w0.heap.size + 3 ≤ w.heap.size := H.up hu hD 0 rfl rfl rfl
    obtain ⟨h0, hz⟩ := qbase
    have bA : Blk w w0.heap.size 24 [.int .i64 xr, .int .i64 xt, .slice xA xn xd] := H.up hu hD 1 rfl rfl rfl
    have bB : Blk w (w0.heap.size + 1) 24 [.int .i64 yr, .int .i64 yt, .slice yA yn yd] := H.up hu hD 2 rfl rfl rfl
    have bR : Blk w (w0.heap.size + 2) 24 [.int .i64 0, .int .i64 0, .slice none 0 0] := H.up hu hD 3 rfl rfl rfl
    have hKK := Lib.hid hK
    clear hK H hu hD
    go_simp
    refine hKK.out _ _ (fun f _ _ _ _ h => h) ?_
    exact Go.Dwo.fa_pick [6] (by kernel_rfl) <| Go.Dwo.fa_cons (fun _ => rfl) <| Go.Dwo.fa_nil _
  · -- 4: Op.load 22 t17
    intro Ls vs w Kk H hu hD hK
    replace hu : ∀ k ∈ ([3] : List Nat), Ls k = true := hu
    replace hD : ∀ k ∈ ([4, 5, 6, 7, 9] : List Nat), Ls k = false := Go.Dwo.fa_cons (hD 4 (.inl rfl)) <| Go.Dwo.fa_cons (hD 5 (.inr (by decide))) <| Go.Dwo.fa_cons (hD 6 (.inr (by decide))) <| Go.Dwo.fa_cons (hD 7 (.inr (by decide))) <| Go.Dwo.fa_cons (hD 9 (.inr (by decide))) <| Go.Dwo.fa_nil _
    simp only [Go.Dwo.actOf, List.getD_cons_succ, List.getD_cons_zero]
    have qbase : Gq w0 w ∧ w0.heap.size + 3 ≤ w.heap.size := H.up hu hD 0 rfl rfl rfl
    obtain ⟨h0, hz⟩ := qbase
    have bA : Blk w w0.heap.size 24 [.int .i64 xr, .int .i64 xt, .slice xA xn xd] := H.up hu hD 1 rfl rfl rfl
    have bB : Blk w (w0.heap.size + 1) 24 [.int .i64 yr, .int .i64 yt, .slice yA yn yd] := H.up hu hD 2 rfl rfl rfl
    have bR : Blk w (w0.heap.size + 2) 24 [.int .i64 0, .int .i64 0, .slice none 0 0] := H.up hu hD 3 rfl rfl rfl
    have f3 : vs 3 = .pointer (some ⟨w0.heap.size + 1, 2, none⟩) := H.up hu hD 6 rfl rfl rfl
    have d2 : w.cell? ⟨w0.heap.size + 1, 2, none⟩ = _ := bB.cell 2
    simp only [List.getElem?_cons_zero, List.getElem?_cons_succ] at d2
    have hKK := Lib.hid hK
    clear hK H hu hD
    go_simp
    refine hKK.out _ _ (fun f _ _ _ _ h => h) ?_
    exact Go.Dwo.fa_pick [7] (by kernel_rfl) <| Go.Dwo.fa_cons (fun _ => rfl) <| Go.Dwo.fa_nil _
  · -- 5: Op.call { value (Operand.func 31), args := #[t18], argTypes := #[22] }
    intro Ls vs w Kk H hu hD hK
    replace hu : ∀ k ∈ ([3, 4] : List Nat), Ls k = true := hu
    replace hD : ∀ k ∈ ([5, 6, 7, 9] : List Nat), Ls k = false := Go.Dwo.fa_cons (hD 5 (.inl rfl)) <| Go.Dwo.fa_cons (hD 6 (.inr (by decide))) <| Go.Dwo.fa_cons (hD 7 (.inr (by decide))) <| Go.Dwo.fa_cons (hD 9 (.inr (by decide))) <| Go.Dwo.fa_nil _
    simp only [Go.Dwo.actOf, List.getD_cons_succ, List.getD_cons_zero]
    have qbase : Gq w0 w ∧ w0.heap.size + 3 ≤ w.heap.size := H.up hu hD 0 rfl rfl rfl
    obtain ⟨h0, hz⟩ := qbase
    have bA : Blk w w0.heap.size 24 [.int .i64 xr, .int .i64 xt, .slice xA xn xd] := H.up hu hD 1 rfl rfl rfl
    have bB : Blk w (w0.heap.size + 1) 24 [.int .i64 yr, .int .i64 yt, .slice yA yn yd] := H.up hu hD 2 rfl rfl rfl
    have bR : Blk w (w0.heap.size + 2) 24 [.int .i64 0, .int .i64 0, .slice none 0 0] := H.up hu hD 3 rfl rfl rfl
    have f4 : vs 4 = .slice yA yn yd := H.up hu hD 7 rfl rfl rfl
    have HDD := Lib.hid hD
    have HH := Lib.hid H
    have hKK := Lib.hid hK
    clear hK H hu hD
    go_simp
    refine (HWY.out w h0).mono ?_
    rintro e w' ⟨A', q', l', rfl, hown, hlx, hct, hb⟩
    refine ⟨_, rfl, hKK.out _ _ (fun f hf _ _ _ h => mixK w0 xr xt xA xn xd yr yt yA yn yd LX LY f hf _ _ _ hb h) ?_⟩
    exact Go.Dwo.fa_pick [10, 11] (by kernel_rfl) <| Go.Dwo.fa_cons (fun _ => ⟨A', q', l', rfl, own_base hown hz, hlx, hct⟩) <|
        Go.Dwo.fa_cons (fun hL => (by obtain ⟨A, q, l, e5, o5, -, -⟩ := HH.out.at_ 9 rfl (fun k hk => by rw [List.mem_singleton.1 hk]; exact (hL 2 (by decide) (by decide)).1) (fun k hk => HDD.out k (by simp only [List.mem_cons, List.not_mem_nil, or_false] at hk ⊢; omega)); intro b hb he; have he : (vs 2).ownBlock = some b := he; rw [show vs 2 = _ from e5] at he; have h1 := (o5.lt b he).2; have h2 := (hown.lt b hb).1; omega)) <| Go.Dwo.fa_nil _
  · -- 6: Op.call { builtin append, args := #[t16, t19], argTypes := #[22, 22] }
    intro Ls vs w Kk H hu hD hK
    replace hu : ∀ k ∈ ([0, 1, 2, 3, 4, 5] : List Nat), Ls k = true := hu
    replace hD : ∀ k ∈ ([6, 7, 9] : List Nat), Ls k = false := Go.Dwo.fa_cons (hD 6 (.inl rfl)) <| Go.Dwo.fa_cons (hD 7 (.inr (by decide))) <| Go.Dwo.fa_cons (hD 9 (.inr (by decide))) <| Go.Dwo.fa_nil _
    simp only [Go.Dwo.actOf, List.getD_cons_succ, List.getD_cons_zero]
    have qbase : Gq w0 w ∧ w0.heap.size + 3 ≤ w.heap.size := H.up hu hD 0 rfl rfl rfl
    obtain ⟨h0, hz⟩ := qbase
    have bA : Blk w w0.heap.size 24 [.int .i64 xr, .int .i64 xt, .slice xA xn xd] := H.up hu hD 1 rfl rfl rfl
    have bB : Blk w (w0.heap.size + 1) 24 [.int .i64 yr, .int .i64 yt, .slice yA yn yd] := H.up hu hD 2 rfl rfl rfl
    have bR : Blk w (w0.heap.size + 2) 24 [.int .i64 0, .int .i64 0, .slice none 0 0] := H.up hu hD 3 rfl rfl rfl
    have qn2 : ∃ A q, ∃ l : List CliM, vs 2 = .slice A l.length q ∧ w.ownsRow (w0.heap.size + 3) 37 7 (.slice A l.length q) l.length (l.flatMap CliM.cs) ∧ l.map CliM.x = LX ∧ ∀ y ∈ l, CliT w y := H.up hu hD 9 rfl rfl rfl
    obtain ⟨A2, q2, l2, e2, o2, x2, t2⟩ := qn2
    have qn5 : ∃ A q, ∃ l : List CliM, vs 5 = .slice A l.length q ∧ w.ownsRow (w0.heap.size + 3) 37 7 (.slice A l.length q) l.length (l.flatMap CliM.cs) ∧ l.map CliM.x = LY ∧ ∀ y ∈ l, CliT w y := H.up hu hD 10 rfl rfl rfl
    obtain ⟨A5, q5, l5, e5, o5, x5, t5⟩ := qn5
    have n25 : ∀ b, (vs 5).ownBlock = some b → (vs 2).ownBlock ≠ some b := H.up hu hD 11 rfl rfl rfl
    have HDD := Lib.hid hD
    have HH := Lib.hid H
    have hKK := Lib.hid hK
    clear hK H hu hD
    simp only [Nat.zero_add, Nat.reduceAdd, e2, e5]
    refine Eq.mpr (if_pos rfl) ?_
    have hl2 : l2.length ≤ 300 := by have := congrArg List.length x2; rw [List.length_map] at this; have := HLL.out.1; omega
    have hl5 : l5.length ≤ 300 := by have := congrArg List.length x5; rw [List.length_map] at this; have := HLL.out.2; omega
    refine Go.Dwo.tame_append_rd (.tmp 16) (.tmp 19) 22 rfl (w0.heap.size + 3) 37 ii _ 7 80 Tryz.underlying22 HII.out.1 HII.out.2.1 HII.out.2.2.1 HII.out.2.2.2 rfl (by decide) (.slice A2 l2.length q2) l2.length (l2.flatMap CliM.cs) (by rfl) o2 A5 l5.length q5 (l5.flatMap CliM.cs) (by rfl) (flat_len CliM.cs 7 (fun _ => rfl) l5) (Rd.of_own o5) (cli_oneM l5) (by unfold maxLen; omega) (by omega) hz ?_
    intro A' c' w' hown hgr
    rw [← List.length_append, ← List.flatMap_append] at hown
    rw [← List.length_append]
    refine hKK.out _ _ (Go.Dwo.fa_cons (fun _ _ _ h => ⟨Below.grown h.1 hgr (Below.size h.1) (fun k hk => by have := (o2.lt k hk).1; omega), Nat.le_trans h.2 hgr.size⟩) <|
        Go.Dwo.fa_cons (fun _ _ _ h => blk_grown2 h hgr (fun e => by have := (o2.lt _ e.symm).1; omega)) <|
        Go.Dwo.fa_cons (fun _ _ _ h => blk_grown2 h hgr (fun e => by have := (o2.lt _ e.symm).1; omega)) <|
        Go.Dwo.fa_cons (fun _ _ _ h => blk_grown2 h hgr (fun e => by have := (o2.lt _ e.symm).1; omega)) <|
        Go.Dwo.fa_cons (fun _ _ _ h => h) <|
        Go.Dwo.fa_cons (fun _ _ _ h => h) <|
        Go.Dwo.fa_cons (fun _ _ _ h => h) <|
        Go.Dwo.fa_cons (fun _ _ _ h => h) <|
        Go.Dwo.fa_cons (fun _ _ _ h => h) <|
        Go.Dwo.fa_cons (fun _ hn _ _ => absurd (show (6 : Nat) ∈ ([6, 7, 9] : List Nat) from by decide) hn) <|
        Go.Dwo.fa_cons (fun _ hn _ _ => absurd (show (6 : Nat) ∈ ([6, 7, 9] : List Nat) from by decide) hn) <|
        Go.Dwo.fa_cons (fun _ hn _ _ => absurd (show (6 : Nat) ∈ ([6, 7, 9] : List Nat) from by decide) hn) <|
        Go.Dwo.fa_cons (fun hn _ _ _ => absurd (show (6 : Nat) ∈ ([6] : List Nat) from by decide) hn) <|
        Go.Dwo.fa_cons (fun _ _ hon _ => absurd (hon 7 (show (7 : Nat) ∈ ([7] : List Nat) from by decide)) (by rw [HDD.out 7 (show (7 : Nat) ∈ ([6, 7, 9] : List Nat) from by decide)]; decide)) <|
        Go.Dwo.fa_cons (fun _ _ hon _ => absurd (hon 7 (show (7 : Nat) ∈ ([7, 9] : List Nat) from by decide)) (by rw [HDD.out 7 (show (7 : Nat) ∈ ([6, 7, 9] : List Nat) from by decide)]; decide)) <| Go.Dwo.fa_nil _) ?_
    exact Go.Dwo.fa_pick [12] (by kernel_rfl) <| Go.Dwo.fa_cons (fun _ => ⟨A', c', l2 ++ l5, rfl, hown, by rw [List.map_append, x2, x5], fun y hy => by rcases List.mem_append.1 hy with hy | hy; exact (t2 y hy).kp (KpT.own o2 hgr (by decide)); exact (t5 y hy).kp (KpT.own o2 hgr (by decide))⟩) <| Go.Dwo.fa_nil _
  · -- 7: Op.call { value (Operand.func 32), args := #[t20], argTypes := #[22] }
    intro Ls vs w Kk H hu hD hK
    replace hu : ∀ k ∈ ([0, 1, 2, 3, 4, 5, 6] : List Nat), Ls k = true := hu
    replace hD : ∀ k ∈ ([7, 9] : List Nat), Ls k = false := Go.Dwo.fa_cons (hD 7 (.inl rfl)) <| Go.Dwo.fa_cons (hD 9 (.inr (by decide))) <| Go.Dwo.fa_nil _
    simp only [Go.Dwo.actOf, List.getD_cons_succ, List.getD_cons_zero]
    have qbase : Gq w0 w ∧ w0.heap.size + 3 ≤ w.heap.size := H.up hu hD 0 rfl rfl rfl
    obtain ⟨h0, hz⟩ := qbase
    have bA : Blk w w0.heap.size 24 [.int .i64 xr, .int .i64 xt, .slice xA xn xd] := H.up hu hD 1 rfl rfl rfl
    have bB : Blk w (w0.heap.size + 1) 24 [.int .i64 yr, .int .i64 yt, .slice yA yn yd] := H.up hu hD 2 rfl rfl rfl
    have bR : Blk w (w0.heap.size + 2) 24 [.int .i64 0, .int .i64 0, .slice none 0 0] := H.up hu hD 3 rfl rfl rfl
    have qn6 : ∃ A q, ∃ l : List CliM, vs 6 = .slice A l.length q ∧ w.ownsRow (w0.heap.size + 3) 37 7 (.slice A l.length q) l.length (l.flatMap CliM.cs) ∧ l.map CliM.x = LX ++ LY ∧ ∀ y ∈ l, CliT w y := H.up hu hD 12 rfl rfl rfl
    obtain ⟨A6, q6, l6, e6, o6, x6, t6⟩ := qn6
    have HDD := Lib.hid hD
    have HH := Lib.hid H
    have hKK := Lib.hid hK
    clear hK H hu hD
    have hl6 : l6.length ≤ 600 := by have := congrArg List.length x6; rw [List.length_map, List.length_append] at this; have := HLL.out; omega
    have HORD := Lib.hid (ordered_any (w0.heap.size + 3) (w0.heap.size + 3) A6 l6.length q6 l6 w (Nat.le_refl _) o6 rfl (by omega))
    simp only [Nat.zero_add, Nat.reduceAdd, e6]
    go_simp
    refine HORD.out.mono ?_
    rintro e w' ⟨rfl, hown, hkp, hbl⟩
    have hlen : (srtF CliM.x l6).length = l6.length := (srt_perm CliM.x l6).length_eq
    refine ⟨_, rfl, hKK.out _ _ (Go.Dwo.fa_cons (fun _ _ _ h => ⟨Below.trans h.1 (Below.mono hbl (by omega)), Nat.le_trans h.2 hbl.size⟩) <|
        Go.Dwo.fa_cons (fun _ _ _ h => (hbl.block _ (by omega)).trans h) <|
        Go.Dwo.fa_cons (fun _ _ _ h => (hbl.block _ (by omega)).trans h) <|
        Go.Dwo.fa_cons (fun _ _ _ h => (hbl.block _ (by omega)).trans h) <|
        Go.Dwo.fa_cons (fun _ _ _ h => h) <|
        Go.Dwo.fa_cons (fun _ _ _ h => h) <|
        Go.Dwo.fa_cons (fun _ _ _ h => h) <|
        Go.Dwo.fa_cons (fun _ _ _ h => h) <|
        Go.Dwo.fa_cons (fun _ _ _ h => h) <|
        Go.Dwo.fa_cons (fun _ hn _ _ => absurd (show (7 : Nat) ∈ ([6, 7, 9] : List Nat) from by decide) hn) <|
        Go.Dwo.fa_cons (fun _ hn _ _ => absurd (show (7 : Nat) ∈ ([6, 7, 9] : List Nat) from by decide) hn) <|
        Go.Dwo.fa_cons (fun _ hn _ _ => absurd (show (7 : Nat) ∈ ([6, 7, 9] : List Nat) from by decide) hn) <|
        Go.Dwo.fa_cons (fun _ hn _ _ => absurd (show (7 : Nat) ∈ ([7, 9] : List Nat) from by decide) hn) <|
        Go.Dwo.fa_cons (fun hn _ _ _ => absurd (show (7 : Nat) ∈ ([7] : List Nat) from by decide) hn) <|
        Go.Dwo.fa_cons (fun hn _ _ _ => absurd (show (7 : Nat) ∈ ([7, 9] : List Nat) from by decide) hn) <| Go.Dwo.fa_nil _) ?_⟩
    exact Go.Dwo.fa_pick [13, 14] (by kernel_rfl) <| Go.Dwo.fa_cons (fun _ => ⟨A6, q6, srtF CliM.x l6, by rw [hlen]; rfl, by rw [hlen]; exact hown, by rw [← x6]; exact srt_map id CliM.x l6, fun y hy => (t6 y ((srt_perm CliM.x l6).mem_iff.1 hy)).kp hkp⟩) <|
        Go.Dwo.fa_cons (fun hL => absurd (show (7 : Nat) ∈ ([0, 1, 2, 3, 4, 5, 6, 7, 8] : List Nat) from by decide) (hL 9 (show (9 : Nat) ∈ ([7, 9] : List Nat) from by decide) (show (9 : Nat) ≠ 7 from by decide)).2) <| Go.Dwo.fa_nil _
  · -- 8: Op.fieldAddr 24 t2 2
    intro Ls vs w Kk H hu hD hK
    replace hu : ∀ k ∈ ([] : List Nat), Ls k = true := hu
    replace hD : ∀ k ∈ ([8, 9] : List Nat), Ls k = false := Go.Dwo.fa_cons (hD 8 (.inl rfl)) <| Go.Dwo.fa_cons (hD 9 (.inr (by decide))) <| Go.Dwo.fa_nil _
    simp only [Go.Dwo.actOf, List.getD_cons_succ, List.getD_cons_zero]
    have qbase : Gq w0 w ∧ w0.heap.size + 3 ≤ w.heap.size := H.up hu hD 0 rfl rfl rfl
    obtain ⟨h0, hz⟩ := qbase
    have bA : Blk w w0.heap.size 24 [.int .i64 xr, .int .i64 xt, .slice xA xn xd] := H.up hu hD 1 rfl rfl rfl
    have bB : Blk w (w0.heap.size + 1) 24 [.int .i64 yr, .int .i64 yt, .slice yA yn yd] := H.up hu hD 2 rfl rfl rfl
    have bR : Blk w (w0.heap.size + 2) 24 [.int .i64 0, .int .i64 0, .slice none 0 0] := H.up hu hD 3 rfl rfl rfl
    have hKK := Lib.hid hK
    clear hK H hu hD
    go_simp
    refine hKK.out _ _ (fun f _ _ _ _ h => h) ?_
    exact Go.Dwo.fa_pick [8] (by kernel_rfl) <| Go.Dwo.fa_cons (fun _ => rfl) <| Go.Dwo.fa_nil _
  · -- 9: Op.store 22 t22 t21
    intro Ls vs w Kk H hu hD hK
    replace hu : ∀ k ∈ ([0, 1, 2, 3, 4, 5, 6, 7, 8] : List Nat), Ls k = true := hu
    replace hD : ∀ k ∈ ([9] : List Nat), Ls k = false := Go.Dwo.fa_cons (hD 9 (.inl rfl)) <| Go.Dwo.fa_nil _
    simp only [Go.Dwo.actOf, List.getD_cons_succ, List.getD_cons_zero]
    have qbase : Gq w0 w ∧ w0.heap.size + 3 ≤ w.heap.size := H.up hu hD 0 rfl rfl rfl
    obtain ⟨h0, hz⟩ := qbase
    have bA : Blk w w0.heap.size 24 [.int .i64 xr, .int .i64 xt, .slice xA xn xd] := H.up hu hD 1 rfl rfl rfl
    have bB : Blk w (w0.heap.size + 1) 24 [.int .i64 yr, .int .i64 yt, .slice yA yn yd] := H.up hu hD 2 rfl rfl rfl
    have bR : Blk w (w0.heap.size + 2) 24 [.int .i64 0, .int .i64 0, .slice none 0 0] := H.up hu hD 3 rfl rfl rfl
    have f8 : vs 8 = .pointer (some ⟨w0.heap.size, 2, none⟩) := H.up hu hD 8 rfl rfl rfl
    have qn7 : ∃ A q, ∃ l : List CliM, vs 7 = .slice A l.length q ∧ w.ownsRow (w0.heap.size + 3) 37 7 (.slice A l.length q) l.length (l.flatMap CliM.cs) ∧ l.map CliM.x = srtC (LX ++ LY) ∧ ∀ y ∈ l, CliT w y := H.up hu hD 13 rfl rfl rfl
    obtain ⟨A7, q7, l7, e7, o7, x7, t7⟩ := qn7
    have HDD := Lib.hid hD
    have HH := Lib.hid H
    have d2 : w.cell? ⟨w0.heap.size, 2, none⟩ = _ := bA.cell 2
    simp only [List.getElem?_cons_zero, List.getElem?_cons_succ] at d2
    have fz := bA.frozen 2
    have hKK := Lib.hid hK
    clear hK H hu hD
    go_simp
    refine hKK.out _ _ (Go.Dwo.fa_cons (fun _ _ _ h => ⟨h.1.setCell (p := ⟨w0.heap.size, 2, none⟩) (Nat.le_refl _) _, by simp only [World.setCell, Array.size_modify]; exact h.2⟩) <|
        Go.Dwo.fa_cons (fun _ hn _ _ => absurd (show (9 : Nat) ∈ ([9] : List Nat) from by decide) hn) <|
        Go.Dwo.fa_cons (fun _ _ _ h => blk_setO h (by show w0.heap.size + 1 ≠ w0.heap.size; omega) _) <|
        Go.Dwo.fa_cons (fun _ _ _ h => blk_setO h (by show w0.heap.size + 2 ≠ w0.heap.size; omega) _) <|
        Go.Dwo.fa_cons (fun _ _ _ h => h) <|
        Go.Dwo.fa_cons (fun _ _ _ h => h) <|
        Go.Dwo.fa_cons (fun _ _ _ h => h) <|
        Go.Dwo.fa_cons (fun _ _ _ h => h) <|
        Go.Dwo.fa_cons (fun _ _ _ h => h) <|
        Go.Dwo.fa_cons (fun _ hn _ _ => absurd (show (9 : Nat) ∈ ([6, 7, 9] : List Nat) from by decide) hn) <|
        Go.Dwo.fa_cons (fun _ hn _ _ => absurd (show (9 : Nat) ∈ ([6, 7, 9] : List Nat) from by decide) hn) <|
        Go.Dwo.fa_cons (fun _ hn _ _ => absurd (show (9 : Nat) ∈ ([6, 7, 9] : List Nat) from by decide) hn) <|
        Go.Dwo.fa_cons (fun _ hn _ _ => absurd (show (9 : Nat) ∈ ([7, 9] : List Nat) from by decide) hn) <|
        Go.Dwo.fa_cons (fun _ hn _ _ => absurd (show (9 : Nat) ∈ ([9] : List Nat) from by decide) hn) <|
        Go.Dwo.fa_cons (fun hn _ _ _ => absurd (show (9 : Nat) ∈ ([7, 9] : List Nat) from by decide) hn) <| Go.Dwo.fa_nil _) ?_
    exact Go.Dwo.fa_pick [14] (by kernel_rfl) <| Go.Dwo.fa_cons (fun _ => ⟨A7, q7, l7, e7, bA.set_ 2 _, own_set o7 (by show w0.heap.size < _; omega) _, x7, fun y hy => (t7 y hy).kp ((KpT.refl _ _).setCell ⟨_, _, bA⟩ (by decide))⟩) <| Go.Dwo.fa_nil _
  · intro vs w H
    have qbase : Gq w0 w ∧ w0.heap.size + 3 ≤ w.heap.size := Go.Dwo.fa_at H 0 rfl rfl
    obtain ⟨h0, hz⟩ := qbase
    have bB : Blk w (w0.heap.size + 1) 24 [.int .i64 yr, .int .i64 yt, .slice yA yn yd] := Go.Dwo.fa_at H 2 rfl rfl
    have bR : Blk w (w0.heap.size + 2) 24 [.int .i64 0, .int .i64 0, .slice none 0 0] := Go.Dwo.fa_at H 3 rfl rfl
    have f0 : vs 0 = .pointer (some ⟨w0.heap.size, 2, none⟩) := Go.Dwo.fa_at H 4 rfl rfl
    have f1 : vs 1 = .slice xA xn xd := Go.Dwo.fa_at H 5 rfl rfl
    have f3 : vs 3 = .pointer (some ⟨w0.heap.size + 1, 2, none⟩) := Go.Dwo.fa_at H 6 rfl rfl
    have f4 : vs 4 = .slice yA yn yd := Go.Dwo.fa_at H 7 rfl rfl
    have f8 : vs 8 = .pointer (some ⟨w0.heap.size, 2, none⟩) := Go.Dwo.fa_at H 8 rfl rfl
    have qn9 : ∃ A q, ∃ l : List CliM, vs 7 = .slice A l.length q ∧ Blk w w0.heap.size 24 [.int .i64 xr, .int .i64 xt, .slice A l.length q] ∧ w.ownsRow (w0.heap.size + 3) 37 7 (.slice A l.length q) l.length (l.flatMap CliM.cs) ∧ l.map CliM.x = srtC (LX ++ LY) ∧ ∀ y ∈ l, CliT w y := Go.Dwo.fa_at H 14 rfl rfl
    obtain ⟨A9, q9, l9, e9, k9, o9, x9, t9⟩ := qn9
    clear H
    simp only [Nat.zero_add, Nat.reduceAdd]
    have HG7 : Hid (Gq w0 w) := h0
    have HKA7 : Hid (Blk w w0.heap.size 24 [.int .i64 xr, .int .i64 xt, .slice A9 l9.length q9]) := k9
    have HKR7 : Hid (Blk w (w0.heap.size + 2) 24 [.int .i64 0, .int .i64 0, .slice none 0 0]) := bR
    have HROW : Hid (RdT 37 w A9 (l9.flatMap CliM.cs)) := RdT.of_own o9
    have HZT : Hid (∀ y ∈ l9, CliT w y) := t9
    have HZX : Hid (l9.map CliM.x = srtC (LX ++ LY)) := x9
    simp only [f0, f1, f3, f4, f8, e9]
    clear f0 f1 f3 f4 f8 e9 h0 bB bR k9 o9 t9 x9
    generalize vs 2 = z2
    generalize vs 5 = z5
    generalize vs 6 = z6
    have HOK8 : Hid (EdtOk w ⟨xr, xt, ⟨A9, q9, l9⟩⟩) := by
      have h1 := HOX.out
      have h2 := HXS.out
      have h3 := congrArg List.length HZX.out
      have h4 : (srtC (LX ++ LY)).length = (LX ++ LY).length := (srt_perm id (LX ++ LY)).length_eq
      rw [List.length_map] at h3
      rw [List.length_append] at h4
      have h5 := HLL.out
      refine ⟨by have := h1.rate; rw [h2.1] at this; exact this, by have := h1.tracks; rw [h2.2.1] at this; exact this, ?_, ?_, fun c hc => (HZT.out c hc).1⟩
      · show l9.length ≤ _; omega
      · exact HROW.out.rd
    obtain ⟨g, hg⟩ : ∃ g, ediF isNm 1000000 (EdtM.x ⟨xr, xt, ⟨A9, q9, l9⟩⟩) = g := ⟨_, rfl⟩
    have HXE : Hid (EdtM.x ⟨xr, xt, ⟨A9, q9, l9⟩⟩ = ⟨X.rate, X.tracks, srtC (X.x.cs ++ Y.x.cs)⟩) := by
      have hm := HZX.out
      show _ = _
      rw [HLXY.out.1, HLXY.out.2, ← hm, HXS.out.1, HXS.out.2.1]; rfl
    have HCK : Hid (Calls Tryz.prog 14 #[.agg #[.int .i64 xr, .int .i64 xt, .slice A9 l9.length q9]] w fun e w' => e = .returned (.tuple #[ckV g (.agg #[.int .i64 xr, .int .i64 xt, .slice A9 l9.length q9]), .int .i64 g]) ∧ Gq w w') := by
      have := checked_any ⟨xr, xt, ⟨A9, q9, l9⟩⟩ w HOK8.out
      rw [hg] at this
      simp only [EdtM.v, Slc.v] at this
      exact this
    have HRG : Hid (g ≠ 0 → r = (e0, g)) := fun hn => by rw [HR.out, ← HXE.out]; rw [← hg] at hn ⊢; exact mkE_bad hn
    have HRK : Hid (g = 0 → r = (EdtM.x ⟨xr, xt, ⟨A9, q9, l9⟩⟩, 0)) := fun hn => by rw [HR.out, ← HXE.out]; rw [← hg] at hn; exact mkE_ok hn
    have d0 : w.cell? ⟨w0.heap.size, 0, none⟩ = some (.int .i64 xr) := HKA7.out.cell 0
    have d1 : w.cell? ⟨w0.heap.size, 1, none⟩ = some (.int .i64 xt) := HKA7.out.cell 1
    have d2 : w.cell? ⟨w0.heap.size, 2, none⟩ = some (.slice A9 l9.length q9) := HKA7.out.cell 2
    clear HXE HR hg
    go_wp2_with fail
    refine HCK.out.mono ?_
    rintro e w9 ⟨rfl, hg9⟩
    have HGQ9 : Hid (Gq w w9) := hg9
    have HG9 : Hid (Gq w0 w9) := HG7.out.trans hg9
    have hkr := blkq HKR7.out hg9
    have HKR9 := Lib.hid hkr
    obtain ⟨k0, k1, k2, f0, f1, f2⟩ := HRB.out w9 hkr
    clear hg9 hkr d0 d1 d2 HCK
    by_cases hg0 : g = 0
    · subst hg0
      rw [ckV_ok]
      have HRR := Lib.hid (HRK.out (by simp))
      obtain ⟨⟨e0', e1, e2⟩, -, hge⟩ := HEND.out w9 (.int .i64 xr) (.int .i64 xt) (.slice A9 l9.length q9) HG9.out HKR9.out
      have HGE := Lib.hid hge
      have HFIN : Hid (EdtOk (setN w9 (w0.heap.size + 2) 0 [.int .i64 xr, .int .i64 xt, .slice A9 l9.length q9]) ⟨xr, xt, ⟨A9, q9, l9⟩⟩) := by
        have h1 := HOK8.out
        have kc : KpT 37 w (setN w9 (w0.heap.size + 2) 0 [.int .i64 xr, .int .i64 xt, .slice A9 l9.length q9]) := (KpT.of_below HGQ9.out).trans (setN_kp _ HKR9.out (by decide) 0)
        have kp : KpT 48 w (setN w9 (w0.heap.size + 2) 0 [.int .i64 xr, .int .i64 xt, .slice A9 l9.length q9])   := ((KpT.of_below HGQ9.out).trans (setN_kp _ HKR9.out (by decide) 0))
        exact ⟨h1.rate, h1.tracks, h1.cl, (HROW.out.kp kc).rd, fun c hc => ((HZT.out c hc).kp kp).1⟩
      have HV : Hid (EdtM.v ⟨xr, xt, ⟨A9, q9, l9⟩⟩ = .agg #[.int .i64 xr, .int .i64 xt, .slice A9 l9.length q9]) := by
        show _ = _
        simp only [EdtM.v, Slc.v]
      simp only [setN, Nat.zero_add, Nat.reduceAdd] at HFIN
      clear hge HRG HRK
      go_wp2_with fail
      refine bodyPost_ret (v := .tuple #[.agg #[.int .i64 xr, .int .i64 xt, .slice A9 l9.length q9], .int .i64 0]) (by simp [results, Tryz.results6, go_sem, e0', e1, e2]) rfl ⟨HGE.out, ⟨xr, xt, ⟨A9, q9, l9⟩⟩, ?_, ?_, HFIN.out⟩
      · rw [HV.out, HRR.out]
      · rw [HRR.out]
    · rw [ckV_bad hg0]
      have HRR := Lib.hid (HRG.out hg0)
      obtain ⟨⟨e0', e1, e2⟩, -, hge⟩ := HEND.out w9 (.int .i64 0) (.int .i64 0) (.slice none 0 0) HG9.out HKR9.out
      have HGE := Lib.hid hge
      clear hge HRG HRK hg0
      go_wp2_with fail
      exact bodyPost_ret (v := .tuple #[.agg #[.int .i64 0, .int .i64 0, .slice none 0 0], .int .i64 g]) (by simp [results, Tryz.results6, go_sem, e0', e1, e2]) rfl (ediR_none HRR.out HGE.out)
end Go.Proofs.YtmknpeoflafaoaaGreatDoor
