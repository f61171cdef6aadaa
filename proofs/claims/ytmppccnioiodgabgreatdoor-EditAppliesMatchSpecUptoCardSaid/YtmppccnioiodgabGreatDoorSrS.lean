/- Generated (gen/srs.py): the contract of the reference's step. -/
import Derived.Test.YtmppccnioiodgabGreatDoorSteZ
import Derived.Test.YtmppccnioiodgabGreatDoorWth
import Derived.Test.YtmppccnioiodgabGreatDoorRefJ
import Derived.Test.YtmppccnioiodgabGreatDoorCrrZ
import Derived.Test.YtmppccnioiodgabGreatDoorStpZ
import Derived.Test.YtmppccnioiodgabGreatDoorApdZ
namespace Go.Proofs.YtmppccnioiodgabGreatDoor
open Go.RowKit Go.Dw
attribute [local go_sem ↓] Go.wp_at_zero Go.wp_at_succ
attribute [local go_sem] Go.Dwo.Oper.tame

/-- clips that lay there at first, or lie in a block of their type -/
def RdE (w0 w : World) (A : Option Addr) (L : List Value) : Prop := Rd w0 A L ∨ RdT 52 w A L
theorem RdE.below {w0 w w' : World} {A : Option Addr} {L : List Value} (h : RdE w0 w A L) (hg : Gq w w') : RdE w0 w' A L := h.imp id (fun k => k.below hg)
theorem RdE.kp {w0 w w' : World} {A : Option Addr} {L : List Value} (h : RdE w0 w A L) (hk : KpT 52 w w') : RdE w0 w' A L := h.imp id (fun k => k.kp hk)
theorem RdE.rd {w0 w : World} {A : Option Addr} {L : List Value} (h : RdE w0 w A L) (hg : Gq w0 w) : Rd w A L := h.elim (fun k => k.below hg) (fun k => k.rd)
/-- an edit whose clips' points lay there at first -/
structure EdtS (w0 w : World) (x : EdtM) : Prop where
  r : inI64 x.rate
  t : inI64 x.tracks
  rd : RdE w0 w x.cs.a (x.cs.xs.flatMap CliM.cs)
  co : ∀ c ∈ x.cs.xs, CliOk w0 c
  cap : x.cs.xs.length ≤ x.cs.c
theorem EdtS.below {w0 w w' : World} {x : EdtM} (h : EdtS w0 w x) (hg : Gq w w') : EdtS w0 w' x := ⟨h.r, h.t, h.rd.below hg, h.co, h.cap⟩
theorem EdtS.kp {w0 w w' : World} {x : EdtM} (h : EdtS w0 w x) (hk : KpT 52 w w') : EdtS w0 w' x := ⟨h.r, h.t, h.rd.kp hk, h.co, h.cap⟩
theorem EdtS.ok {w0 w : World} {x : EdtM} (h : EdtS w0 w x) (hg : Gq w0 w) (hl : x.cs.xs.length ≤ 9223372036854775807) : EdtOk w x := ⟨h.r, h.t, hl, h.rd.rd hg, fun c hc => (h.co c hc).below hg⟩
/-- an edit and a fault behind a step -/
structure RstG (w0 : World) (rt tk : Int) (q : List Cli × Int) (w : World) (x : EdtM) (f : Int) : Prop where
  bad : q.2 ≠ 0 → x = ⟨0, 0, ⟨none, 0, []⟩⟩ ∧ f = q.2
  good : q.2 = 0 → x.x = ⟨rt, tk, q.1⟩ ∧ f = ediF isNm 1000000 ⟨rt, tk, q.1⟩ ∧ EdtS w0 w x
theorem RstG.below {w0 w w' : World} {rt tk f : Int} {q : List Cli × Int} {x : EdtM} (h : RstG w0 rt tk q w x f) (hg : Gq w w') : RstG w0 rt tk q w' x f := ⟨h.bad, fun k => ⟨(h.good k).1, (h.good k).2.1, (h.good k).2.2.below hg⟩⟩
theorem RstG.kp {w0 w w' : World} {rt tk f : Int} {q : List Cli × Int} {x : EdtM} (h : RstG w0 rt tk q w x f) (hk : KpT 52 w w') : RstG w0 rt tk q w' x f := ⟨h.bad, fun k => ⟨(h.good k).1, (h.good k).2.1, (h.good k).2.2.kp hk⟩⟩
/-- what the reference's step answers -/
def RstR (w0 : World) (rt tk : Int) (q : List Cli × Int) (w : World) (e : Ending) (w' : World) : Prop :=
  Gq w w' ∧ ∃ (x : EdtM) (f : Int), e = .returned (.tuple #[x.v, .int .i64 f]) ∧ RstG w0 rt tk q w' x f
theorem rstR_bad {w0 : World} {rt tk f : Int} {q : List Cli × Int} {w w' : World} (hq : q = ([], f)) (hf : f ≠ 0) (hb : Gq w w') : RstR w0 rt tk q w (.returned (.tuple #[.agg #[.int .i64 0, .int .i64 0, .slice none 0 0], .int .i64 f])) w' := by
  subst hq
  exact ⟨hb, ⟨0, 0, ⟨none, 0, []⟩⟩, f, rfl, fun _ => ⟨rfl, rfl⟩, fun h => absurd h hf⟩
theorem builtER : Tryz.prog.built 24 [] = some #[.int .i64 0, .int .i64 0, .slice none 0 0] := by kernel_rfl
theorem runER (w : World) : (Instr.build 24 #[]).run Tryz.prog w = .ok (.agg #[.int .i64 0, .int .i64 0, .slice none 0 0]) w := run_build w _ _ _ builtER
theorem builtBE (rt tk : Int) (A : Option Addr) (n c : Nat) : Tryz.prog.built 24 [(0, .int .i64 rt), (1, .int .i64 tk), (2, .slice A n c)] = some #[.int .i64 rt, .int .i64 tk, .slice A n c] := by kernel_rfl
theorem runBE (rt tk : Int) (A : Option Addr) (n c : Nat) (w : World) : (Instr.build 24 #[(0, .int .i64 rt), (1, .int .i64 tk), (2, .slice A n c)]).run Tryz.prog w = .ok (.agg #[.int .i64 rt, .int .i64 tk, .slice A n c]) w := run_build w _ _ _ (builtBE rt tk A n c)
theorem at_rng {nm : ByteArray → Bool} {tk : Int} {c : Cli} (h : cliF nm tk c = 0) : 0 ≤ c.at_ ∧ c.at_ ≤ 100000 := by
  unfold cliF at h
  split at h
  · omega
  · split at h
    · omega
    · rename_i h2
      have h3 : cliR tk c = true := by simpa using h2
      unfold cliR at h3
      have := of_decide_eq_true h3
      omega
theorem shM_ok {w : World} {at_ by_ : Int} {c : CliM} (h : CliOk w c) (hi : at_ ≤ c.at_ → inI64 (c.at_ + by_)) : CliOk w (shM at_ by_ c) := by
  unfold shM
  split
  · rename_i hh; exact ⟨h.m, h.ch, h.fr, h.tr, hi hh, h.ln, h.el, h.er, h.eo⟩
  · exact h
theorem remF_len {α : Type} (f : α → Cli) (c : Cli) : ∀ l m : List α, remF f c l = some m → m.length + 1 = l.length
  | [], m, h => by cases h
  | y :: l, m, h => by
    rw [remF] at h
    split at h
    · cases h; rfl
    · cases h2 : remF f c l with
      | none => rw [h2] at h; cases h
      | some m' =>
        rw [h2] at h; cases h
        have := remF_len f c l m' h2
        simp only [List.length_cons]; omega
theorem stpF_kd {s : Stp} (h : stpF s = 0) : s.kd = 1 ∨ s.kd = 2 ∨ s.kd = 3 := by
  unfold stpF at h
  split at h
  · omega
  · split at h
    · omega
    · omega
def srsF (w0 w1 : World) (g1 g2 : Nat) (rt tk : Int) (A : Option Addr) (n c : Nat) (L : List Value) (ff : Int) : List Go.Dwo.Fact := [
  ⟨[], [], fun _ W => Gq w0 W ∧ Gq w1 W⟩,
  ⟨[], [3], fun _ W => Blk W g1 24 [.int .i64 0, .int .i64 0, .slice none 0 0]⟩,
  ⟨[], [], fun _ W => Blk W g2 24 [.int .i64 rt, .int .i64 tk, .slice A n c]⟩,
  ⟨[], [], fun _ W => RdE w0 W A L⟩,
  ⟨[0], [], fun vs _ => vs 0 = .agg #[.int .i64 rt, .int .i64 tk, .slice A n c]⟩,
  ⟨[1], [], fun vs _ => vs 1 = .agg #[.int .i64 rt, .int .i64 tk, .slice A n c]⟩,
  ⟨[2], [], fun vs _ => vs 2 = .int .i64 ff⟩,
  ⟨[0, 3], [], fun _ W => Blk W g1 24 [.int .i64 rt, .int .i64 tk, .slice A n c]⟩,
  ⟨[2, 4], [], fun vs _ => vs 4 = vs 2⟩]
theorem srsK (w0 w1 : World) (g1 g2 : Nat) (rt tk : Int) (A : Option Addr) (n c : Nat) (L : List Value) (ff : Int) : ∀ f ∈ srsF w0 w1 g1 g2 rt tk A n c L ff, ∀ vs w w', Gq w w' → f.says vs w → f.says vs w' :=
  Go.Dwo.fa_cons (fun _ _ _ hg h => ⟨h.1.trans hg, h.2.trans hg⟩) <|
  Go.Dwo.fa_cons (fun _ _ _ hg h => blkq h hg) <|
  Go.Dwo.fa_cons (fun _ _ _ hg h => blkq h hg) <|
  Go.Dwo.fa_cons (fun _ _ _ hg h => h.below hg) <|
  Go.Dwo.fa_cons (fun _ _ _ _ h => h) <|
  Go.Dwo.fa_cons (fun _ _ _ _ h => h) <|
  Go.Dwo.fa_cons (fun _ _ _ _ h => h) <|
  Go.Dwo.fa_cons (fun _ _ _ hg h => blkq h hg) <|
  Go.Dwo.fa_cons (fun _ _ _ _ h => h) <|
  Go.Dwo.fa_nil _
set_option maxRecDepth 100000 in
set_option maxHeartbeats 16000000 in
theorem stepR_any (w0 w1 : World) (h00 : Gq w0 w1) (x : EdtM) (s : StpM) (hx : EdtS w0 w1 x) (he : ediF isNm 1000000 x.x = 0) (hs : StpB 1048576 w0 s) (hp : HasPow w0) :
    Calls Tryz.prog 17 #[x.v, s.v] w1 (RstR w0 x.rate x.tracks (stepL x.x.cs s.x) w1) := by
  obtain ⟨q, hq⟩ : ∃ q, stepL x.x.cs s.x = q := ⟨_, rfl⟩
  have HQ := Lib.hid hq
  rw [hq]
  have HX := Lib.hid hx
  have HE := Lib.hid he
  have HS := Lib.hid hs
  have H00 := Lib.hid h00
  have HPO := Lib.hid hp
  clear hq hx he hs h00 hp
  obtain ⟨X, hX⟩ : ∃ X, x = X := ⟨_, rfl⟩
  obtain ⟨S, hS⟩ : ∃ S, s = S := ⟨_, rfl⟩
  obtain ⟨rt, tk, ⟨xA, xd, xs⟩⟩ := x
  obtain ⟨sk, ⟨sA, sc, sx⟩, sa, sb⟩ := s
  obtain ⟨xn, hxn⟩ : ∃ xn : Nat, xs.length = xn := ⟨_, rfl⟩
  obtain ⟨sn, hsn⟩ : ∃ sn : Nat, sx.length = sn := ⟨_, rfl⟩
  have hxv : X.v = .agg #[.int .i64 rt, .int .i64 tk, .slice xA xn xd] := by rw [← hX, ← hxn]; rfl
  have hsv : S.v = .agg #[.int .i64 sk, .slice sA sn sc, .int .i64 sa, .int .i64 sb] := by rw [← hS, ← hsn]; rfl
  have HXS : Hid (X.rate = rt ∧ X.tracks = tk ∧ X.cs = ⟨xA, xd, xs⟩ ∧ X.x = ⟨rt, tk, xs.map CliM.x⟩ ∧ xs.length = xn) := by rw [← hX]; exact ⟨rfl, rfl, rfl, rfl, hxn⟩
  have HSX : Hid (S.kd = sk ∧ S.cs = ⟨sA, sc, sx⟩ ∧ S.at_ = sa ∧ S.by_ = sb ∧ sx.length = sn ∧ S.x = ⟨sk, sx.map CliM.x, sa, sb⟩) := by rw [← hS]; exact ⟨rfl, rfl, rfl, rfl, hsn, rfl⟩
  have HF : Hid (stpN sk sn sa sb = stpF S.x) := by
    have h := stpN_x S
    have h2 := HSX.out
    rw [h2.1, h2.2.2.1, h2.2.2.2.1, h2.2.1] at h
    rw [show (⟨sA, sc, sx⟩ : Slc CliM).xs.length = sn from hsn] at h
    exact h
  rw [hX] at HQ HX HE ⊢
  rw [hS] at HQ HS ⊢
  rw [hxv, hsv, HXS.out.1, HXS.out.2.1]
  clear hX hS hxn hsn hxv hsv
  -- what is known of the edit, and of the step's clips
  have HED : Hid (ediF isNm 1000000 ⟨rt, tk, xs.map CliM.x⟩ = 0) := by show _ = _; rw [← HXS.out.2.2.2.1]; exact HE.out
  have HXL : Hid (xn ≤ 300 ∧ xn ≤ xd ∧ Srt (xs.map CliM.x) ∧ ∀ y ∈ xs, 0 ≤ y.at_ ∧ y.at_ ≤ 100000) := by
    have h1 := ediF_parts HED.out
    refine ⟨by have := h1.2.1; simpa [HXS.out.2.2.2.2] using this, ?_, h1.2.2.2, fun y hy => ?_⟩
    · have := HX.out.cap; rw [HXS.out.2.2.1] at this
      have h2 := HXS.out.2.2.2.2
      have h3 : xs.length ≤ xd := this
      omega
    · exact at_rng (h1.2.2.1 y.x (List.mem_map_of_mem hy))
  have HRT : Hid (inI64 rt ∧ inI64 tk) := ⟨by rw [← HXS.out.1]; exact HX.out.r, by rw [← HXS.out.2.1]; exact HX.out.t⟩
  have HXR : Hid (RdE w0 w1 xA (xs.flatMap CliM.cs) ∧ ∀ y ∈ xs, CliOk w0 y) := by
    have h1 := HX.out.rd
    have h2 := HX.out.co
    rw [HXS.out.2.2.1] at h1 h2
    exact ⟨h1, h2⟩
  have HSR : Hid (Rd w0 sA (sx.flatMap CliM.cs) ∧ (∀ y ∈ sx, CliOk w0 y) ∧ sn ≤ 1048576) := by
    have h := HS.out.o
    have h3 := h.cr
    have h4 := h.co
    have h5 := HS.out.n
    rw [HSX.out.2.1] at h3 h4 h5
    exact ⟨h3, h4, by rw [← HSX.out.2.2.2.2.1]; exact h5⟩
  obtain ⟨f, hf⟩ : ∃ f, stpN sk sn sa sb = f := ⟨_, rfl⟩
  obtain ⟨wa, hwa⟩ : ∃ wa, wa = w1.alloc (.cells #[.int .i64 rt, .int .i64 tk, .slice xA xn xd] 24) := ⟨_, rfl⟩
  obtain ⟨wb, hwb⟩ : ∃ wb, wb = wa.alloc (.cells #[.int .i64 sk, .slice sA sn sc, .int .i64 sa, .int .i64 sb] 40) := ⟨_, rfl⟩
  obtain ⟨wz, hwc⟩ : ∃ wz, wz = wb.alloc (.cells #[.int .i64 0, .int .i64 0, .slice none 0 0] 24) := ⟨_, rfl⟩
  have hza : wa.heap.size = w1.heap.size + 1 := by rw [hwa]; simp
  have hzb : wb.heap.size = w1.heap.size + 2 := by rw [hwb]; simp; omega
  have hzc : wz.heap.size = w1.heap.size + 3 := by rw [hwc]; simp; omega
  have hga : Gq w1 wa := by rw [hwa]; exact (Gq.refl _).alloc _
  have hgb : Gq wa wb := by rw [hwb]; exact (Gq.refl _).alloc _
  have hgc : Gq wb wz := by rw [hwc]; exact (Gq.refl _).alloc _
  have HG : Hid (Gq w1 wz) := hga.trans (hgb.trans hgc)
  have HZ : Hid (wz.heap.size = w1.heap.size + 3) := hzc
  have HKA : Hid (Blk wz w1.heap.size 24 [.int .i64 rt, .int .i64 tk, .slice xA xn xd]) := by
    refine blkq (?_ : Blk wa w1.heap.size _ _) (hgb.trans hgc); rw [hwa]; exact Blk.new w1 _ _
  have HKS : Hid (Blk wz (w1.heap.size + 1) 40 [.int .i64 sk, .slice sA sn sc, .int .i64 sa, .int .i64 sb]) := by
    refine blkq (?_ : Blk wb (w1.heap.size + 1) _ _) hgc; rw [hwb, ← hza]; exact Blk.new wa _ _
  have HKR : Hid (Blk wz (w1.heap.size + 2) 24 [.int .i64 0, .int .i64 0, .slice none 0 0]) := by
    rw [hwc, ← hzb]; exact Blk.new wb _ _
  have HCE : Hid (∀ W, Gq wz W → (W.cell? ⟨w1.heap.size, 0, none⟩ = some (.int .i64 rt) ∧ W.cell? ⟨w1.heap.size, 1, none⟩ = some (.int .i64 tk) ∧ W.cell? ⟨w1.heap.size, 2, none⟩ = some (.slice xA xn xd)) ∧ W.cell? ⟨w1.heap.size + 1, 0, none⟩ = some (.int .i64 sk) ∧ W.cell? ⟨w1.heap.size + 1, 1, none⟩ = some (.slice sA sn sc) ∧ W.cell? ⟨w1.heap.size + 1, 2, none⟩ = some (.int .i64 sa) ∧ W.cell? ⟨w1.heap.size + 1, 3, none⟩ = some (.int .i64 sb)) := fun W hW => by
    have k1 := blkq HKA.out hW
    have k2 := blkq HKS.out hW
    exact ⟨⟨k1.cell 0, k1.cell 1, k1.cell 2⟩, k2.cell 0, k2.cell 1, k2.cell 2, k2.cell 3⟩
  -- an end without an edit
  have HNO : Hid (∀ W, Gq wz W → (W.cell? ⟨w1.heap.size + 2, 0, none⟩ = some (.int .i64 0) ∧ W.cell? ⟨w1.heap.size + 2, 1, none⟩ = some (.int .i64 0) ∧ W.cell? ⟨w1.heap.size + 2, 2, none⟩ = some (.slice none 0 0) ∧ W.frozen? ⟨w1.heap.size + 2, 0, none⟩ = false ∧ W.frozen? ⟨w1.heap.size + 2, 1, none⟩ = false ∧ W.frozen? ⟨w1.heap.size + 2, 2, none⟩ = false) ∧ ∃ W', W' = ((W.setCell ⟨w1.heap.size + 2, 0, none⟩ (.int .i64 0)).setCell ⟨w1.heap.size + 2, 1, none⟩ (.int .i64 0)).setCell ⟨w1.heap.size + 2, 2, none⟩ (.slice none 0 0) ∧ W'.cell? ⟨w1.heap.size + 2, 0, none⟩ = some (.int .i64 0) ∧ W'.cell? ⟨w1.heap.size + 2, 1, none⟩ = some (.int .i64 0) ∧ W'.cell? ⟨w1.heap.size + 2, 2, none⟩ = some (.slice none 0 0) ∧ Gq w1 W') := fun W hW => by
    have hk := blkq HKR.out hW
    have h1 := setN_blk [.int .i64 0, .int .i64 0, .slice none 0 0] hk rfl
    exact ⟨⟨hk.cell 0, hk.cell 1, hk.cell 2, hk.frozen 0, hk.frozen 1, hk.frozen 2⟩, _, rfl, h1.cell 0, h1.cell 1, h1.cell 2, setN_below (by omega) [.int .i64 0, .int .i64 0, .slice none 0 0] W 0 (HG.out.trans hW)⟩
  have HE0 := Lib.hid runER
  have HC1 := Lib.hid (checkStepR_any sk sA sn sc sa sb wz)
  rw [hf] at HC1
  have HFF : Hid (stpF S.x = f) := by rw [← hf]; exact HF.out.symm
  rw [hwa] at hwb
  rw [hwb] at hwc
  have HWC := Lib.hid hwc
  obtain ⟨⟨a0, a1, a2⟩, c0, c1, c2, c3⟩ := HCE.out wz (Gq.refl _)
  clear hwa hwb hwc hga hgb hgc hza hzb hzc hf HF
  go_enter Tryz.func17, Tryz.ntmps17
  go_upto_region 1 with (fail)
  rw [← HWC.out]
  go_wp2_with fail
  refine HC1.out.mono ?_
  rintro e w2 ⟨rfl, hg2⟩
  have HG2 : Hid (Gq wz w2) := hg2
  clear hg2 a0 a1 a2 c0 c1 c2 c3 HC1
  by_cases h0 : f = 0
  case neg =>
    have hfb : (f != 0) = true := by simpa using h0
    have HB : Hid (q = ([], f)) := by
      show _ = _
      rw [← HQ.out]
      unfold stepL
      rw [if_pos (by rw [HFF.out]; exact h0), HFF.out]
    have HN0 : Hid (f ≠ 0) := h0
    obtain ⟨⟨k0, k1, k2, f0', f1, f2⟩, W', hW', e0', e1, e2, hge⟩ := HNO.out w2 HG2.out
    have HGE := Lib.hid hge
    have HWW := Lib.hid hW'
    have hrun := HE0.out w2
    clear h0 hge hW'
    go_wp2_with fail
    rw [← HWW.out]
    exact bodyPost_ret (v := .tuple #[.agg #[.int .i64 0, .int .i64 0, .slice none 0 0], .int .i64 f]) (by simp [results, Tryz.results17, go_sem, e0', e1, e2]) rfl (rstR_bad HB.out HN0.out HGE.out)
  have hfb : (f != 0) = false := by simp [h0]
  have HF0 : Hid (stpF S.x = 0) := by rw [← h0]; exact HFF.out
  clear h0 HFF
  have HRX2 : Hid (RdE w0 w2 xA (xs.flatMap CliM.cs)) := HXR.out.1.below (HG.out.trans HG2.out)
  obtain ⟨⟨a0, a1, a2⟩, c0, c1, c2, c3⟩ := HCE.out w2 HG2.out
  by_cases hk1 : sk = 1
  · have e1 : (sk == 1) = true := by simp [hk1]
    have HQ1 : Hid (q = ((sx.map CliM.x).foldl (plc id) (xs.map CliM.x), 0)) := by
      show _ = _
      rw [← HQ.out, stepL_1 HF0.out (by show S.kd = 1; rw [HSX.out.1]; exact hk1), HXS.out.2.2.2.1, HSX.out.2.2.2.2.2]
      show (srtC (xs.map CliM.x ++ sx.map CliM.x), 0) = _
      rw [srtC_app HXL.out.2.2.1]
    clear hk1
    have hsn2 := HSR.out.2.2
    go_wp2_with fail
    go_loopw [7, 8] (fun lv kv wr => ∃ (k n : Nat) (A : Option Addr) (c : Nat) (M : List CliM), k ≤ sn ∧ lv = .slice A n c ∧ kv = .int .i64 (k : Int) ∧ Hid (M.length = n ∧ n = xn + k ∧ n ≤ c) ∧ Hid (RdE w0 wr A (M.flatMap CliM.cs)) ∧ Hid (∀ y ∈ M, CliOk w0 y) ∧ Hid (M.map CliM.x = ((sx.take k).map CliM.x).foldl (plc id) (xs.map CliM.x)) ∧ Hid (Gq wz wr)) (fun _ kv _ => sn - (intOf kv).toNat)
    case atStart => exact ⟨0, xn, xA, xd, xs, Nat.zero_le _, rfl, rfl, ⟨HXS.out.2.2.2.2, rfl, HXL.out.2.1⟩, HRX2.out, HXR.out.2, rfl, HG2.out⟩
    case round =>
      obtain ⟨k, n, A, c, M, hk, rfl, rfl, HML, HRE, HCM, HMX, HGM⟩ := hrel
      obtain ⟨⟨a0, a1, a2⟩, c0, c1, c2, c3⟩ := HCE.out wr HGM.out
      by_cases hlt : k < sn
      case neg =>
        have hd : decide (k < sn) = false := by simpa using hlt
        have HQM : Hid (q = (M.map CliM.x, 0)) := by
          show _ = _
          rw [HQ1.out, HMX.out, List.take_of_length_le (by rw [HSX.out.2.2.2.2.1]; omega)]
        have HML : Hid (M.length = n ∧ n ≤ c ∧ n ≤ 2000000) := by have h1 := HML.out; have h2 := HXL.out.1; exact ⟨h1.1, h1.2.2, by omega⟩
        clear hlt a0 a1 a2 HMX HQ1 HRX2
        go_upto_region 34 with (fail)
        clear c0 c1 c2 c3
        have HLL : Hid (M.length = n ∧ n ≤ c ∧ n ≤ 2000000) := HML.out
        obtain ⟨ff, hff⟩ : ∃ ff, ediF isNm 1000000 ⟨rt, tk, M.map CliM.x⟩ = ff := ⟨_, rfl⟩
        obtain ⟨L, hL⟩ : ∃ L, M.flatMap CliM.cs = L := ⟨_, rfl⟩
        have HCK : Hid (∀ W', Gq w0 W' → RdE w0 W' A L → Calls Tryz.prog 16 #[.agg #[.int .i64 rt, .int .i64 tk, .slice A n c]] W' fun e w' => e = .returned (.int .i64 ff) ∧ Gq W' w') := fun W' hW hr => by
          have := checkR_any ⟨rt, tk, ⟨A, c, M⟩⟩ W' ⟨HRT.out.1, HRT.out.2, by have := HLL.out; show M.length ≤ _; omega, by show Rd _ _ _; rw [hL]; exact hr.rd hW, fun z hz => (HCM.out z hz).below hW⟩ (HPO.out.below hW)
          have he : EdtM.x ⟨rt, tk, ⟨A, c, M⟩⟩ = ⟨rt, tk, M.map CliM.x⟩ := rfl
          rw [he, hff] at this
          simp only [EdtM.v, Slc.v] at this
          rw [HLL.out.1] at this
          exact this
        have HFIN : Hid (∀ W', Gq w0 W' → Gq w1 W' → RdE w0 W' A L → RstR w0 rt tk q w1 (.returned (.tuple #[.agg #[.int .i64 rt, .int .i64 tk, .slice A n c], .int .i64 ff])) W') := fun W' hW hV hr => by
          refine ⟨hV, ⟨rt, tk, ⟨A, c, M⟩⟩, ff, ?_, fun hn => ?_, fun _ => ⟨?_, ?_, ⟨HRT.out.1, HRT.out.2, by show RdE _ _ _ _; rw [hL]; exact hr, HCM.out, by have := HLL.out; show M.length ≤ c; omega⟩⟩⟩
          · simp only [EdtM.v, Slc.v]; rw [HLL.out.1]
          · rw [HQM.out] at hn; exact absurd rfl hn
          · show Edt.mk rt tk (M.map CliM.x) = _; rw [HQM.out]
          · rw [HQM.out, ← hff]
        obtain ⟨⟨a0, a1, a2⟩, _, _, _, _⟩ := HCE.out wr HGM.out
        obtain ⟨wo, hwo⟩ : ∃ wo, wo = (wr).alloc (.cells #[.int .i64 rt, .int .i64 tk, .slice A n c] 24) := ⟨_, rfl⟩
        have HGO : Hid (Gq wr wo) := by rw [hwo]; exact (Gq.refl _).alloc _
        have hrun := runBE rt tk A n c wr
        have HKO : Hid (Blk wo (wr).heap.size 24 [.int .i64 rt, .int .i64 tk, .slice A n c]) := by rw [hwo]; exact Blk.new _ _ _
        have HWO := Lib.hid hwo
        have HGG : Hid (Gq wz wo) := HGM.out.trans HGO.out
        clear hff hwo
        go_upto_region 35 with (fail)
        rw [← HWO.out]
        obtain ⟨g2, hgo⟩ : ∃ g, (wr).heap.size = g := ⟨_, rfl⟩
        obtain ⟨g1, hgr⟩ : ∃ g, w1.heap.size + 2 = g := ⟨_, rfl⟩
        have HBASE : Hid (Gq w0 wo.drew) := H00.out.trans ((HG.out.trans HGG.out).drew)
        have HBASE1 : Hid (Gq w1 wo.drew) := (HG.out.trans HGG.out).drew
        have HGR1 : Hid (w1.heap.size ≤ g1) := by show _ ≤ _; omega
        have HBR : Hid (Blk wo.drew g1 24 [.int .i64 0, .int .i64 0, .slice none 0 0]) := by rw [← hgr]; exact blkq HKR.out HGG.out.drew
        have HBO : Hid (Blk wo.drew g2 24 [.int .i64 rt, .int .i64 tk, .slice A n c]) := by rw [← hgo]; exact HKO.out
        have HROW : Hid (RdE w0 wo.drew A L) := by show RdE _ _ _ _; rw [← hL]; exact HRE.out.below HGO.out.drew
        have HGR : Hid (w0.heap.size ≤ g1) := by have := Below.size H00.out; show _ ≤ _; omega
        have HNE : Hid (g2 ≠ g1) := by have h1 := Below.size HGM.out; have h2 := HZ.out; show _ ≠ _; omega
        have HFI2 : Hid (∀ W', Gq w0 W' → Gq w1 W' → RdE w0 W' A L → RstR w0 rt tk q w1 (.returned (.tuple #[.agg #[.int .i64 rt, .int .i64 tk, .slice A n c], .int .i64 ff])) W') := HFIN.out
        simp only [hgo, hgr]
        clear hgo hgr hL hrun a0 a1 a2 HKO HGO HGG HWO HML HRE HCM HGM HQM HFIN
        refine Go.Dwo.wp_region_factsK _ (by kernel_rfl) [[], [], [1], [0], [1, 2]] (by kernel_rfl) (by kernel_rfl) [some 134, some 135, some 136, none, some 5] (by kernel_rfl) (fun vs => by simp only [Go.Dwo.putA, Go.Dwo.putL, if_true, Act.put, List.setIfInBounds_toArray, List.set_cons_zero, List.set_cons_succ]; rfl) (srsF w0 w1 g1 g2 rt tk A n c L ff) (by kernel_rfl) ?_ ⟨?_, ?_, ?_, ?_, ?_, trivial⟩ ?_
        · exact Go.Dwo.fa_zero [0, 1, 2, 3] (by kernel_rfl) <| Go.Dwo.fa_cons (⟨HBASE.out, HBASE1.out⟩) <| Go.Dwo.fa_cons (HBR.out) <| Go.Dwo.fa_cons (HBO.out) <| Go.Dwo.fa_cons (HROW.out) <| Go.Dwo.fa_nil _
        · -- 0: Op.load 24 t16
          intro Ls vs w Kk H hu hD hK
          replace hu : ∀ k ∈ ([] : List Nat), Ls k = true := hu
          replace hD : ∀ k ∈ ([0, 3] : List Nat), Ls k = false := Go.Dwo.fa_cons (hD 0 (.inl rfl)) <| Go.Dwo.fa_cons (hD 3 (.inr (by decide))) <| Go.Dwo.fa_nil _
          simp only [Go.Dwo.actOf, List.getD_cons_zero]
          have qbase : Gq w0 w ∧ Gq w1 w := H.up hu hD 0 rfl rfl rfl
          obtain ⟨h0, h1⟩ := qbase
          have bR : Blk w g1 24 [.int .i64 0, .int .i64 0, .slice none 0 0] := H.up hu hD 1 rfl rfl rfl
          have bO : Blk w g2 24 [.int .i64 rt, .int .i64 tk, .slice A n c] := H.up hu hD 2 rfl rfl rfl
          have row : RdE w0 w A L := H.up hu hD 3 rfl rfl rfl
          have d0 : w.cell? ⟨g2, 0, none⟩ = _ := bO.cell 0
          have d1 : w.cell? ⟨g2, 1, none⟩ = _ := bO.cell 1
          have d2 : w.cell? ⟨g2, 2, none⟩ = _ := bO.cell 2
          simp only [List.getElem?_cons_zero, List.getElem?_cons_succ] at d0 d1 d2
          have hKK := Lib.hid hK
          clear hK H hu hD
          go_simp
          refine hKK.out _ _ (fun f _ _ _ _ h => h) ?_
          exact Go.Dwo.fa_pick [4, 7] (by kernel_rfl) <| Go.Dwo.fa_cons (fun _ => rfl) <|
              Go.Dwo.fa_cons (fun hL => absurd (show (0 : Nat) ∈ ([0] : List Nat) from by decide) (hL 3 (show (3 : Nat) ∈ ([0, 3] : List Nat) from by decide) (show (3 : Nat) ≠ 0 from by decide)).2) <| Go.Dwo.fa_nil _
        · -- 1: Op.load 24 t16
          intro Ls vs w Kk H hu hD hK
          replace hu : ∀ k ∈ ([] : List Nat), Ls k = true := hu
          replace hD : ∀ k ∈ ([1, 2, 4] : List Nat), Ls k = false := Go.Dwo.fa_cons (hD 1 (.inl rfl)) <| Go.Dwo.fa_cons (hD 2 (.inr (by decide))) <| Go.Dwo.fa_cons (hD 4 (.inr (by decide))) <| Go.Dwo.fa_nil _
          simp only [Go.Dwo.actOf, List.getD_cons_succ, List.getD_cons_zero]
          have qbase : Gq w0 w ∧ Gq w1 w := H.up hu hD 0 rfl rfl rfl
          obtain ⟨h0, h1⟩ := qbase
          have bO : Blk w g2 24 [.int .i64 rt, .int .i64 tk, .slice A n c] := H.up hu hD 2 rfl rfl rfl
          have row : RdE w0 w A L := H.up hu hD 3 rfl rfl rfl
          have d0 : w.cell? ⟨g2, 0, none⟩ = _ := bO.cell 0
          have d1 : w.cell? ⟨g2, 1, none⟩ = _ := bO.cell 1
          have d2 : w.cell? ⟨g2, 2, none⟩ = _ := bO.cell 2
          simp only [List.getElem?_cons_zero, List.getElem?_cons_succ] at d0 d1 d2
          have hKK := Lib.hid hK
          clear hK H hu hD
          go_simp
          refine hKK.out _ _ (fun f _ _ _ _ h => h) ?_
          exact Go.Dwo.fa_pick [5] (by kernel_rfl) <| Go.Dwo.fa_cons (fun _ => rfl) <| Go.Dwo.fa_nil _
        · -- 2: Op.call { value (Operand.func 16), args := #[t135], argTypes := #[24] }
          intro Ls vs w Kk H hu hD hK
          replace hu : ∀ k ∈ ([1] : List Nat), Ls k = true := hu
          replace hD : ∀ k ∈ ([2, 4] : List Nat), Ls k = false := Go.Dwo.fa_cons (hD 2 (.inl rfl)) <| Go.Dwo.fa_cons (hD 4 (.inr (by decide))) <| Go.Dwo.fa_nil _
          simp only [Go.Dwo.actOf, List.getD_cons_succ, List.getD_cons_zero]
          have qbase : Gq w0 w ∧ Gq w1 w := H.up hu hD 0 rfl rfl rfl
          obtain ⟨h0, h1⟩ := qbase
          have bO : Blk w g2 24 [.int .i64 rt, .int .i64 tk, .slice A n c] := H.up hu hD 2 rfl rfl rfl
          have row : RdE w0 w A L := H.up hu hD 3 rfl rfl rfl
          have f1 : vs 1 = .agg #[.int .i64 rt, .int .i64 tk, .slice A n c] := H.up hu hD 5 rfl rfl rfl
          have hKK := Lib.hid hK
          clear hK H hu hD
          go_simp
          refine (HCK.out w h0 row).mono ?_
          rintro e w' ⟨rfl, hb⟩
          refine ⟨_, rfl, hKK.out _ _ (fun f hf _ _ _ h => srsK w0 w1 g1 g2 rt tk A n c L ff f hf _ _ _ hb h) ?_⟩
          exact Go.Dwo.fa_pick [6, 8] (by kernel_rfl) <| Go.Dwo.fa_cons (fun _ => rfl) <|
              Go.Dwo.fa_cons (fun hL => absurd (show (2 : Nat) ∈ ([1, 2] : List Nat) from by decide) (hL 4 (show (4 : Nat) ∈ ([2, 4] : List Nat) from by decide) (show (4 : Nat) ≠ 2 from by decide)).2) <| Go.Dwo.fa_nil _
        · -- 3: Op.store 24 t4 t134
          intro Ls vs w Kk H hu hD hK
          replace hu : ∀ k ∈ ([0] : List Nat), Ls k = true := hu
          replace hD : ∀ k ∈ ([3] : List Nat), Ls k = false := Go.Dwo.fa_cons (hD 3 (.inl rfl)) <| Go.Dwo.fa_nil _
          simp only [Go.Dwo.actOf, List.getD_cons_succ, List.getD_cons_zero]
          have qbase : Gq w0 w ∧ Gq w1 w := H.up hu hD 0 rfl rfl rfl
          obtain ⟨h0, h1⟩ := qbase
          have bR : Blk w g1 24 [.int .i64 0, .int .i64 0, .slice none 0 0] := H.up hu hD 1 rfl rfl rfl
          have bO : Blk w g2 24 [.int .i64 rt, .int .i64 tk, .slice A n c] := H.up hu hD 2 rfl rfl rfl
          have row : RdE w0 w A L := H.up hu hD 3 rfl rfl rfl
          have f0 : vs 0 = .agg #[.int .i64 rt, .int .i64 tk, .slice A n c] := H.up hu hD 4 rfl rfl rfl
          have HDD := Lib.hid hD
          have HH := Lib.hid H
          replace f0 : vs 0 = .agg #[.int .i64 rt, .int .i64 tk, .slice A n c] := f0
          have d0 : w.cell? ⟨g1, 0, none⟩ = _ := bR.cell 0
          have y0 := bR.frozen 0
          have d1 : w.cell? ⟨g1, 1, none⟩ = _ := bR.cell 1
          have y1 := bR.frozen 1
          have d2 : w.cell? ⟨g1, 2, none⟩ = _ := bR.cell 2
          have y2 := bR.frozen 2
          simp only [List.getElem?_cons_zero, List.getElem?_cons_succ] at d0 d1 d2
          have hKK := Lib.hid hK
          clear hK H hu hD
          go_simp
          have HST := Lib.hid (setN_blk [.int .i64 rt, .int .i64 tk, .slice A n c] bR rfl)
          refine hKK.out _ _ (Go.Dwo.fa_cons (fun _ _ _ h => ⟨setN_below HGR.out [.int .i64 rt, .int .i64 tk, .slice A n c] w 0 h.1, setN_below HGR1.out [.int .i64 rt, .int .i64 tk, .slice A n c] w 0 h.2⟩) <|
              Go.Dwo.fa_cons (fun _ hn _ _ => absurd (show (3 : Nat) ∈ ([3] : List Nat) from by decide) hn) <|
              Go.Dwo.fa_cons (fun _ _ _ h => (setN_heap [.int .i64 rt, .int .i64 tk, .slice A n c] w 0 _ HNE.out).trans h) <|
              Go.Dwo.fa_cons (fun _ _ _ h => h.kp (setN_kp [.int .i64 rt, .int .i64 tk, .slice A n c] bR (by decide) 0)) <|
              Go.Dwo.fa_cons (fun _ _ _ h => h) <|
              Go.Dwo.fa_cons (fun _ _ _ h => h) <|
              Go.Dwo.fa_cons (fun _ _ _ h => h) <|
              Go.Dwo.fa_cons (fun hn _ _ _ => absurd (show (3 : Nat) ∈ ([0, 3] : List Nat) from by decide) hn) <|
              Go.Dwo.fa_cons (fun _ _ _ h => h) <| Go.Dwo.fa_nil _) ?_
          exact Go.Dwo.fa_pick [7] (by kernel_rfl) <| Go.Dwo.fa_cons (fun _ => HST.out) <| Go.Dwo.fa_nil _
        · -- 4: Op.assign t136
          intro Ls vs w Kk H hu hD hK
          replace hu : ∀ k ∈ ([1, 2] : List Nat), Ls k = true := hu
          replace hD : ∀ k ∈ ([4] : List Nat), Ls k = false := Go.Dwo.fa_cons (hD 4 (.inl rfl)) <| Go.Dwo.fa_nil _
          simp only [Go.Dwo.actOf, List.getD_cons_succ, List.getD_cons_zero]
          have qbase : Gq w0 w ∧ Gq w1 w := H.up hu hD 0 rfl rfl rfl
          obtain ⟨h0, h1⟩ := qbase
          have bO : Blk w g2 24 [.int .i64 rt, .int .i64 tk, .slice A n c] := H.up hu hD 2 rfl rfl rfl
          have row : RdE w0 w A L := H.up hu hD 3 rfl rfl rfl
          have f2 : vs 2 = .int .i64 ff := H.up hu hD 6 rfl rfl rfl
          have hKK := Lib.hid hK
          clear hK H hu hD
          go_simp
          refine hKK.out _ _ (fun f _ _ _ _ h => h) ?_
          exact Go.Dwo.fa_pick [8] (by kernel_rfl) <| Go.Dwo.fa_cons (fun _ => f2.symm) <| Go.Dwo.fa_nil _
        · intro vs w H
          have qbase : Gq w0 w ∧ Gq w1 w := Go.Dwo.fa_at H 0 rfl rfl
          obtain ⟨h0, h1⟩ := qbase
          have bO : Blk w g2 24 [.int .i64 rt, .int .i64 tk, .slice A n c] := Go.Dwo.fa_at H 2 rfl rfl
          have row : RdE w0 w A L := Go.Dwo.fa_at H 3 rfl rfl
          have f0 : vs 0 = .agg #[.int .i64 rt, .int .i64 tk, .slice A n c] := Go.Dwo.fa_at H 4 rfl rfl
          have f1 : vs 1 = .agg #[.int .i64 rt, .int .i64 tk, .slice A n c] := Go.Dwo.fa_at H 5 rfl rfl
          have f2 : vs 2 = .int .i64 ff := Go.Dwo.fa_at H 6 rfl rfl
          have n3 : Blk w g1 24 [.int .i64 rt, .int .i64 tk, .slice A n c] := Go.Dwo.fa_at H 7 rfl rfl
          have f4 : vs 4 = vs 2 := Go.Dwo.fa_at H 8 rfl rfl
          clear H
          simp only [Nat.zero_add, Nat.reduceAdd]
          have HG7 : Hid (Gq w0 w) := h0
          have HG8 : Hid (Gq w1 w) := h1
          have HB3 : Hid (Blk w g1 24 [.int .i64 rt, .int .i64 tk, .slice A n c]) := n3
          have HRW : Hid (RdE w0 w A L) := row
          have HF : Hid (vs 4 = .int .i64 ff) := by show _ = _; rw [f4, f2]
          simp only [HF.out]
          have k0 : w.cell? ⟨g1, 0, none⟩ = some (.int .i64 rt) := HB3.out.cell 0
          have k1 : w.cell? ⟨g1, 1, none⟩ = some (.int .i64 tk) := HB3.out.cell 1
          have k2 : w.cell? ⟨g1, 2, none⟩ = some (.slice A n c) := HB3.out.cell 2
          clear f0 f1 f2 f4 h0 h1 row n3 bO
          go_wp2_with fail
          show bodyPost Tryz.prog Tryz.f17 _ _ _ _
          refine bodyPost_ret (v := .tuple #[.agg #[.int .i64 rt, .int .i64 tk, .slice A n c], .int .i64 ff]) (by simp [results, Tryz.results17, go_sem, k0, k1, k2]) rfl ?_
          exact HFI2.out w HG7.out HG8.out HRW.out
      have hd : decide (k < sn) = true := by simpa using hlt
      have hkx : k < sx.length := by rw [HSX.out.2.2.2.2.1]; exact hlt
      have HGW : Hid (Gq w0 wr) := H00.out.trans (HG.out.trans HGM.out)
      obtain ⟨b, off, hA, hb, hc⟩ := cli_at (HSR.out.1.below HGW.out) (by omega)
      obtain rfl : sA = some ⟨b, off, none⟩ := hA
      obtain ⟨d0, d1, d2, d3, d4, d5, d6⟩ := hc k hkx
      have HXO : Hid (CliOk w0 sx[k]) := HSR.out.2.1 _ (List.getElem_mem hkx)
      have HNX : Hid ((plc CliM.x M sx[k]).map CliM.x = ((sx.take (k + 1)).map CliM.x).foldl (plc id) (xs.map CliM.x)) := by
        show _ = _
        rw [List.take_succ_eq_append_getElem hkx, List.map_append, List.foldl_append, ← HMX.out]
        exact plc_map id CliM.x M sx[k]
      have HPL : Hid (Calls Tryz.prog 41 #[.slice A n c, sx[k].v] wr fun e w' => ∃ A' c', e = .returned (.slice A' (n + 1) c') ∧ w'.ownsRow wr.heap.size 52 7 (.slice A' (n + 1) c') (n + 1) ((plc CliM.x M sx[k]).flatMap CliM.cs) ∧ Gq wr w') := by
        have h1 := HML.out
        have h2 := HXL.out.1
        have := placed_any A c M sx[k] wr (by omega) (HRE.out.rd HGW.out) (by omega)
        rw [h1.1] at this
        exact this
      have HPM : Hid (∀ y ∈ plc CliM.x M sx[k], CliOk w0 y) := fun y hy => by
        rcases List.mem_append.1 ((plc_perm CliM.x M sx[k]).mem_iff.1 hy) with hy | hy
        · exact HCM.out y hy
        · rw [List.mem_singleton.1 hy]; exact HXO.out
      have HPN : Hid ((plc CliM.x M sx[k]).length = n + 1) := by
        show _ = _
        rw [(plc_perm CliM.x M sx[k]).length_eq, List.length_append, HML.out.1]; rfl
      obtain ⟨MN, hMN⟩ : ∃ MN, plc CliM.x M sx[k] = MN := ⟨_, rfl⟩
      rw [hMN] at HNX HPL HPM HPN
      clear hMN hc HXO
      obtain ⟨Z, hZ⟩ : ∃ X, sx[k] = X := ⟨_, rfl⟩
      rw [hZ] at d0 d1 d2 d3 d4 d5 d6 HPL
      clear hZ
      obtain ⟨xm, xc, xf, xt, xa, xl, ⟨EA, ed, es⟩⟩ := Z
      simp only [CliM.v, Slc.v] at d0 d1 d2 d3 d4 d5 d6 HPL
      generalize (es.length : Nat) = en at d6 HPL
      go_wp2_with fail
      refine HPL.out.mono ?_
      rintro e w3 ⟨A', c', rfl, hown, hg⟩
      have HN3 : Hid (MN.length = n + 1 ∧ n + 1 = xn + (k + 1) ∧ n + 1 ≤ c') := ⟨HPN.out, by have := HML.out.2.1; omega, (own_cap hown).1⟩
      have HR3 : Hid (RdE w0 w3 A' (MN.flatMap CliM.cs)) := .inr (RdT.of_own hown)
      have HG3 : Hid (Gq wz w3) := HGM.out.trans hg
      clear hown hg d0 d1 d2 d3 d4 d5 d6 HPL a0 a1 a2 c0 c1 c2 c3
      go_wp2_with fail
      go_roundw
      case rel => exact ⟨k + 1, n + 1, A', c', MN, by omega, rfl, by go_num, HN3, HR3, HPM, HNX, HG3⟩
      case measure => simp [intOf]; omega
  have e1 : (sk == 1) = false := by simp [hk1]
  by_cases hk2 : sk = 2
  · have e2 : (sk == 2) = true := by simp [hk2]
    have HE1 : Hid (∀ m, remsF id (sx.map CliM.x) (xs.map CliM.x) = some m → q = (m, 0)) := fun m hm => by
      rw [← HQ.out, HXS.out.2.2.2.1]
      exact stepL_2 HF0.out (by show S.kd = 2; rw [HSX.out.1]; exact hk2) (by rw [HSX.out.2.2.2.2.2]; exact hm)
    have HE2 : Hid (remsF id (sx.map CliM.x) (xs.map CliM.x) = none → q = ([], 9)) := fun hm => by
      rw [← HQ.out, HXS.out.2.2.2.1]
      exact stepL_2n HF0.out (by show S.kd = 2; rw [HSX.out.1]; exact hk2) (by rw [HSX.out.2.2.2.2.2]; exact hm)
    clear hk1 hk2
    have hsn2 := HSR.out.2.2
    go_wp2_with fail
    go_loopw [7, 9] (fun lv kv wr => ∃ (k n : Nat) (A : Option Addr) (c : Nat) (M : List CliM), k ≤ sn ∧ lv = .slice A n c ∧ kv = .int .i64 (k : Int) ∧ Hid (M.length = n ∧ n ≤ xn ∧ n ≤ c) ∧ Hid (RdE w0 wr A (M.flatMap CliM.cs)) ∧ Hid (∀ y ∈ M, CliOk w0 y) ∧ Hid (remsF id ((sx.take k).map CliM.x) (xs.map CliM.x) = some (M.map CliM.x)) ∧ Hid (Gq wz wr)) (fun _ kv _ => sn - (intOf kv).toNat)
    case atStart => exact ⟨0, xn, xA, xd, xs, Nat.zero_le _, rfl, rfl, ⟨HXS.out.2.2.2.2, Nat.le_refl _, HXL.out.2.1⟩, HRX2.out, HXR.out.2, rfl, HG2.out⟩
    case round =>
      obtain ⟨k, n, A, c, M, hk, rfl, rfl, HML, HRE, HCM, HMX, HGM⟩ := hrel
      obtain ⟨⟨a0, a1, a2⟩, c0, c1, c2, c3⟩ := HCE.out wr HGM.out
      by_cases hlt : k < sn
      case neg =>
        have hd : decide (k < sn) = false := by simpa using hlt
        have HQM : Hid (q = (M.map CliM.x, 0)) := by
          refine HE1.out _ ?_
          have := HMX.out
          rw [List.take_of_length_le (by rw [HSX.out.2.2.2.2.1]; omega)] at this
          exact this
        have HML : Hid (M.length = n ∧ n ≤ c ∧ n ≤ 2000000) := by have h1 := HML.out; have h2 := HXL.out.1; exact ⟨h1.1, h1.2.2, by omega⟩
        clear hlt a0 a1 a2 HMX HE1 HE2 HRX2
        go_upto_region 34 with (fail)
        clear c0 c1 c2 c3
        have HLL : Hid (M.length = n ∧ n ≤ c ∧ n ≤ 2000000) := HML.out
        obtain ⟨ff, hff⟩ : ∃ ff, ediF isNm 1000000 ⟨rt, tk, M.map CliM.x⟩ = ff := ⟨_, rfl⟩
        obtain ⟨L, hL⟩ : ∃ L, M.flatMap CliM.cs = L := ⟨_, rfl⟩
        have HCK : Hid (∀ W', Gq w0 W' → RdE w0 W' A L → Calls Tryz.prog 16 #[.agg #[.int .i64 rt, .int .i64 tk, .slice A n c]] W' fun e w' => e = .returned (.int .i64 ff) ∧ Gq W' w') := fun W' hW hr => by
          have := checkR_any ⟨rt, tk, ⟨A, c, M⟩⟩ W' ⟨HRT.out.1, HRT.out.2, by have := HLL.out; show M.length ≤ _; omega, by show Rd _ _ _; rw [hL]; exact hr.rd hW, fun z hz => (HCM.out z hz).below hW⟩ (HPO.out.below hW)
          have he : EdtM.x ⟨rt, tk, ⟨A, c, M⟩⟩ = ⟨rt, tk, M.map CliM.x⟩ := rfl
          rw [he, hff] at this
          simp only [EdtM.v, Slc.v] at this
          rw [HLL.out.1] at this
          exact this
        have HFIN : Hid (∀ W', Gq w0 W' → Gq w1 W' → RdE w0 W' A L → RstR w0 rt tk q w1 (.returned (.tuple #[.agg #[.int .i64 rt, .int .i64 tk, .slice A n c], .int .i64 ff])) W') := fun W' hW hV hr => by
          refine ⟨hV, ⟨rt, tk, ⟨A, c, M⟩⟩, ff, ?_, fun hn => ?_, fun _ => ⟨?_, ?_, ⟨HRT.out.1, HRT.out.2, by show RdE _ _ _ _; rw [hL]; exact hr, HCM.out, by have := HLL.out; show M.length ≤ c; omega⟩⟩⟩
          · simp only [EdtM.v, Slc.v]; rw [HLL.out.1]
          · rw [HQM.out] at hn; exact absurd rfl hn
          · show Edt.mk rt tk (M.map CliM.x) = _; rw [HQM.out]
          · rw [HQM.out, ← hff]
        obtain ⟨⟨a0, a1, a2⟩, _, _, _, _⟩ := HCE.out wr HGM.out
        obtain ⟨wo, hwo⟩ : ∃ wo, wo = (wr).alloc (.cells #[.int .i64 rt, .int .i64 tk, .slice A n c] 24) := ⟨_, rfl⟩
        have HGO : Hid (Gq wr wo) := by rw [hwo]; exact (Gq.refl _).alloc _
        have hrun := runBE rt tk A n c wr
        have HKO : Hid (Blk wo (wr).heap.size 24 [.int .i64 rt, .int .i64 tk, .slice A n c]) := by rw [hwo]; exact Blk.new _ _ _
        have HWO := Lib.hid hwo
        have HGG : Hid (Gq wz wo) := HGM.out.trans HGO.out
        clear hff hwo
        go_upto_region 35 with (fail)
        rw [← HWO.out]
        obtain ⟨g2, hgo⟩ : ∃ g, (wr).heap.size = g := ⟨_, rfl⟩
        obtain ⟨g1, hgr⟩ : ∃ g, w1.heap.size + 2 = g := ⟨_, rfl⟩
        have HBASE : Hid (Gq w0 wo.drew) := H00.out.trans ((HG.out.trans HGG.out).drew)
        have HBASE1 : Hid (Gq w1 wo.drew) := (HG.out.trans HGG.out).drew
        have HGR1 : Hid (w1.heap.size ≤ g1) := by show _ ≤ _; omega
        have HBR : Hid (Blk wo.drew g1 24 [.int .i64 0, .int .i64 0, .slice none 0 0]) := by rw [← hgr]; exact blkq HKR.out HGG.out.drew
        have HBO : Hid (Blk wo.drew g2 24 [.int .i64 rt, .int .i64 tk, .slice A n c]) := by rw [← hgo]; exact HKO.out
        have HROW : Hid (RdE w0 wo.drew A L) := by show RdE _ _ _ _; rw [← hL]; exact HRE.out.below HGO.out.drew
        have HGR : Hid (w0.heap.size ≤ g1) := by have := Below.size H00.out; show _ ≤ _; omega
        have HNE : Hid (g2 ≠ g1) := by have h1 := Below.size HGM.out; have h2 := HZ.out; show _ ≠ _; omega
        have HFI2 : Hid (∀ W', Gq w0 W' → Gq w1 W' → RdE w0 W' A L → RstR w0 rt tk q w1 (.returned (.tuple #[.agg #[.int .i64 rt, .int .i64 tk, .slice A n c], .int .i64 ff])) W') := HFIN.out
        simp only [hgo, hgr]
        clear hgo hgr hL hrun a0 a1 a2 HKO HGO HGG HWO HML HRE HCM HGM HQM HFIN
        refine Go.Dwo.wp_region_factsK _ (by kernel_rfl) [[], [], [1], [0], [1, 2]] (by kernel_rfl) (by kernel_rfl) [some 134, some 135, some 136, none, some 5] (by kernel_rfl) (fun vs => by simp only [Go.Dwo.putA, Go.Dwo.putL, if_true, Act.put, List.setIfInBounds_toArray, List.set_cons_zero, List.set_cons_succ]; rfl) (srsF w0 w1 g1 g2 rt tk A n c L ff) (by kernel_rfl) ?_ ⟨?_, ?_, ?_, ?_, ?_, trivial⟩ ?_
        · exact Go.Dwo.fa_zero [0, 1, 2, 3] (by kernel_rfl) <| Go.Dwo.fa_cons (⟨HBASE.out, HBASE1.out⟩) <| Go.Dwo.fa_cons (HBR.out) <| Go.Dwo.fa_cons (HBO.out) <| Go.Dwo.fa_cons (HROW.out) <| Go.Dwo.fa_nil _
        · -- 0: Op.load 24 t16
          intro Ls vs w Kk H hu hD hK
          replace hu : ∀ k ∈ ([] : List Nat), Ls k = true := hu
          replace hD : ∀ k ∈ ([0, 3] : List Nat), Ls k = false := Go.Dwo.fa_cons (hD 0 (.inl rfl)) <| Go.Dwo.fa_cons (hD 3 (.inr (by decide))) <| Go.Dwo.fa_nil _
          simp only [Go.Dwo.actOf, List.getD_cons_zero]
          have qbase : Gq w0 w ∧ Gq w1 w := H.up hu hD 0 rfl rfl rfl
          obtain ⟨h0, h1⟩ := qbase
          have bR : Blk w g1 24 [.int .i64 0, .int .i64 0, .slice none 0 0] := H.up hu hD 1 rfl rfl rfl
          have bO : Blk w g2 24 [.int .i64 rt, .int .i64 tk, .slice A n c] := H.up hu hD 2 rfl rfl rfl
          have row : RdE w0 w A L := H.up hu hD 3 rfl rfl rfl
          have d0 : w.cell? ⟨g2, 0, none⟩ = _ := bO.cell 0
          have d1 : w.cell? ⟨g2, 1, none⟩ = _ := bO.cell 1
          have d2 : w.cell? ⟨g2, 2, none⟩ = _ := bO.cell 2
          simp only [List.getElem?_cons_zero, List.getElem?_cons_succ] at d0 d1 d2
          have hKK := Lib.hid hK
          clear hK H hu hD
          go_simp
          refine hKK.out _ _ (fun f _ _ _ _ h => h) ?_
          exact Go.Dwo.fa_pick [4, 7] (by kernel_rfl) <| Go.Dwo.fa_cons (fun _ => rfl) <|
              Go.Dwo.fa_cons (fun hL => absurd (show (0 : Nat) ∈ ([0] : List Nat) from by decide) (hL 3 (show (3 : Nat) ∈ ([0, 3] : List Nat) from by decide) (show (3 : Nat) ≠ 0 from by decide)).2) <| Go.Dwo.fa_nil _
        · -- 1: Op.load 24 t16
          intro Ls vs w Kk H hu hD hK
          replace hu : ∀ k ∈ ([] : List Nat), Ls k = true := hu
          replace hD : ∀ k ∈ ([1, 2, 4] : List Nat), Ls k = false := Go.Dwo.fa_cons (hD 1 (.inl rfl)) <| Go.Dwo.fa_cons (hD 2 (.inr (by decide))) <| Go.Dwo.fa_cons (hD 4 (.inr (by decide))) <| Go.Dwo.fa_nil _
          simp only [Go.Dwo.actOf, List.getD_cons_succ, List.getD_cons_zero]
          have qbase : Gq w0 w ∧ Gq w1 w := H.up hu hD 0 rfl rfl rfl
          obtain ⟨h0, h1⟩ := qbase
          have bO : Blk w g2 24 [.int .i64 rt, .int .i64 tk, .slice A n c] := H.up hu hD 2 rfl rfl rfl
          have row : RdE w0 w A L := H.up hu hD 3 rfl rfl rfl
          have d0 : w.cell? ⟨g2, 0, none⟩ = _ := bO.cell 0
          have d1 : w.cell? ⟨g2, 1, none⟩ = _ := bO.cell 1
          have d2 : w.cell? ⟨g2, 2, none⟩ = _ := bO.cell 2
          simp only [List.getElem?_cons_zero, List.getElem?_cons_succ] at d0 d1 d2
          have hKK := Lib.hid hK
          clear hK H hu hD
          go_simp
          refine hKK.out _ _ (fun f _ _ _ _ h => h) ?_
          exact Go.Dwo.fa_pick [5] (by kernel_rfl) <| Go.Dwo.fa_cons (fun _ => rfl) <| Go.Dwo.fa_nil _
        · -- 2: Op.call { value (Operand.func 16), args := #[t135], argTypes := #[24] }
          intro Ls vs w Kk H hu hD hK
          replace hu : ∀ k ∈ ([1] : List Nat), Ls k = true := hu
          replace hD : ∀ k ∈ ([2, 4] : List Nat), Ls k = false := Go.Dwo.fa_cons (hD 2 (.inl rfl)) <| Go.Dwo.fa_cons (hD 4 (.inr (by decide))) <| Go.Dwo.fa_nil _
          simp only [Go.Dwo.actOf, List.getD_cons_succ, List.getD_cons_zero]
          have qbase : Gq w0 w ∧ Gq w1 w := H.up hu hD 0 rfl rfl rfl
          obtain ⟨h0, h1⟩ := qbase
          have bO : Blk w g2 24 [.int .i64 rt, .int .i64 tk, .slice A n c] := H.up hu hD 2 rfl rfl rfl
          have row : RdE w0 w A L := H.up hu hD 3 rfl rfl rfl
          have f1 : vs 1 = .agg #[.int .i64 rt, .int .i64 tk, .slice A n c] := H.up hu hD 5 rfl rfl rfl
          have hKK := Lib.hid hK
          clear hK H hu hD
          go_simp
          refine (HCK.out w h0 row).mono ?_
          rintro e w' ⟨rfl, hb⟩
          refine ⟨_, rfl, hKK.out _ _ (fun f hf _ _ _ h => srsK w0 w1 g1 g2 rt tk A n c L ff f hf _ _ _ hb h) ?_⟩
          exact Go.Dwo.fa_pick [6, 8] (by kernel_rfl) <| Go.Dwo.fa_cons (fun _ => rfl) <|
              Go.Dwo.fa_cons (fun hL => absurd (show (2 : Nat) ∈ ([1, 2] : List Nat) from by decide) (hL 4 (show (4 : Nat) ∈ ([2, 4] : List Nat) from by decide) (show (4 : Nat) ≠ 2 from by decide)).2) <| Go.Dwo.fa_nil _
        · -- 3: Op.store 24 t4 t134
          intro Ls vs w Kk H hu hD hK
          replace hu : ∀ k ∈ ([0] : List Nat), Ls k = true := hu
          replace hD : ∀ k ∈ ([3] : List Nat), Ls k = false := Go.Dwo.fa_cons (hD 3 (.inl rfl)) <| Go.Dwo.fa_nil _
          simp only [Go.Dwo.actOf, List.getD_cons_succ, List.getD_cons_zero]
          have qbase : Gq w0 w ∧ Gq w1 w := H.up hu hD 0 rfl rfl rfl
          obtain ⟨h0, h1⟩ := qbase
          have bR : Blk w g1 24 [.int .i64 0, .int .i64 0, .slice none 0 0] := H.up hu hD 1 rfl rfl rfl
          have bO : Blk w g2 24 [.int .i64 rt, .int .i64 tk, .slice A n c] := H.up hu hD 2 rfl rfl rfl
          have row : RdE w0 w A L := H.up hu hD 3 rfl rfl rfl
          have f0 : vs 0 = .agg #[.int .i64 rt, .int .i64 tk, .slice A n c] := H.up hu hD 4 rfl rfl rfl
          have HDD := Lib.hid hD
          have HH := Lib.hid H
          replace f0 : vs 0 = .agg #[.int .i64 rt, .int .i64 tk, .slice A n c] := f0
          have d0 : w.cell? ⟨g1, 0, none⟩ = _ := bR.cell 0
          have y0 := bR.frozen 0
          have d1 : w.cell? ⟨g1, 1, none⟩ = _ := bR.cell 1
          have y1 := bR.frozen 1
          have d2 : w.cell? ⟨g1, 2, none⟩ = _ := bR.cell 2
          have y2 := bR.frozen 2
          simp only [List.getElem?_cons_zero, List.getElem?_cons_succ] at d0 d1 d2
          have hKK := Lib.hid hK
          clear hK H hu hD
          go_simp
          have HST := Lib.hid (setN_blk [.int .i64 rt, .int .i64 tk, .slice A n c] bR rfl)
          refine hKK.out _ _ (Go.Dwo.fa_cons (fun _ _ _ h => ⟨setN_below HGR.out [.int .i64 rt, .int .i64 tk, .slice A n c] w 0 h.1, setN_below HGR1.out [.int .i64 rt, .int .i64 tk, .slice A n c] w 0 h.2⟩) <|
              Go.Dwo.fa_cons (fun _ hn _ _ => absurd (show (3 : Nat) ∈ ([3] : List Nat) from by decide) hn) <|
              Go.Dwo.fa_cons (fun _ _ _ h => (setN_heap [.int .i64 rt, .int .i64 tk, .slice A n c] w 0 _ HNE.out).trans h) <|
              Go.Dwo.fa_cons (fun _ _ _ h => h.kp (setN_kp [.int .i64 rt, .int .i64 tk, .slice A n c] bR (by decide) 0)) <|
              Go.Dwo.fa_cons (fun _ _ _ h => h) <|
              Go.Dwo.fa_cons (fun _ _ _ h => h) <|
              Go.Dwo.fa_cons (fun _ _ _ h => h) <|
              Go.Dwo.fa_cons (fun hn _ _ _ => absurd (show (3 : Nat) ∈ ([0, 3] : List Nat) from by decide) hn) <|
              Go.Dwo.fa_cons (fun _ _ _ h => h) <| Go.Dwo.fa_nil _) ?_
          exact Go.Dwo.fa_pick [7] (by kernel_rfl) <| Go.Dwo.fa_cons (fun _ => HST.out) <| Go.Dwo.fa_nil _
        · -- 4: Op.assign t136
          intro Ls vs w Kk H hu hD hK
          replace hu : ∀ k ∈ ([1, 2] : List Nat), Ls k = true := hu
          replace hD : ∀ k ∈ ([4] : List Nat), Ls k = false := Go.Dwo.fa_cons (hD 4 (.inl rfl)) <| Go.Dwo.fa_nil _
          simp only [Go.Dwo.actOf, List.getD_cons_succ, List.getD_cons_zero]
          have qbase : Gq w0 w ∧ Gq w1 w := H.up hu hD 0 rfl rfl rfl
          obtain ⟨h0, h1⟩ := qbase
          have bO : Blk w g2 24 [.int .i64 rt, .int .i64 tk, .slice A n c] := H.up hu hD 2 rfl rfl rfl
          have row : RdE w0 w A L := H.up hu hD 3 rfl rfl rfl
          have f2 : vs 2 = .int .i64 ff := H.up hu hD 6 rfl rfl rfl
          have hKK := Lib.hid hK
          clear hK H hu hD
          go_simp
          refine hKK.out _ _ (fun f _ _ _ _ h => h) ?_
          exact Go.Dwo.fa_pick [8] (by kernel_rfl) <| Go.Dwo.fa_cons (fun _ => f2.symm) <| Go.Dwo.fa_nil _
        · intro vs w H
          have qbase : Gq w0 w ∧ Gq w1 w := Go.Dwo.fa_at H 0 rfl rfl
          obtain ⟨h0, h1⟩ := qbase
          have bO : Blk w g2 24 [.int .i64 rt, .int .i64 tk, .slice A n c] := Go.Dwo.fa_at H 2 rfl rfl
          have row : RdE w0 w A L := Go.Dwo.fa_at H 3 rfl rfl
          have f0 : vs 0 = .agg #[.int .i64 rt, .int .i64 tk, .slice A n c] := Go.Dwo.fa_at H 4 rfl rfl
          have f1 : vs 1 = .agg #[.int .i64 rt, .int .i64 tk, .slice A n c] := Go.Dwo.fa_at H 5 rfl rfl
          have f2 : vs 2 = .int .i64 ff := Go.Dwo.fa_at H 6 rfl rfl
          have n3 : Blk w g1 24 [.int .i64 rt, .int .i64 tk, .slice A n c] := Go.Dwo.fa_at H 7 rfl rfl
          have f4 : vs 4 = vs 2 := Go.Dwo.fa_at H 8 rfl rfl
          clear H
          simp only [Nat.zero_add, Nat.reduceAdd]
          have HG7 : Hid (Gq w0 w) := h0
          have HG8 : Hid (Gq w1 w) := h1
          have HB3 : Hid (Blk w g1 24 [.int .i64 rt, .int .i64 tk, .slice A n c]) := n3
          have HRW : Hid (RdE w0 w A L) := row
          have HF : Hid (vs 4 = .int .i64 ff) := by show _ = _; rw [f4, f2]
          simp only [HF.out]
          have k0 : w.cell? ⟨g1, 0, none⟩ = some (.int .i64 rt) := HB3.out.cell 0
          have k1 : w.cell? ⟨g1, 1, none⟩ = some (.int .i64 tk) := HB3.out.cell 1
          have k2 : w.cell? ⟨g1, 2, none⟩ = some (.slice A n c) := HB3.out.cell 2
          clear f0 f1 f2 f4 h0 h1 row n3 bO
          go_wp2_with fail
          show bodyPost Tryz.prog Tryz.f17 _ _ _ _
          refine bodyPost_ret (v := .tuple #[.agg #[.int .i64 rt, .int .i64 tk, .slice A n c], .int .i64 ff]) (by simp [results, Tryz.results17, go_sem, k0, k1, k2]) rfl ?_
          exact HFI2.out w HG7.out HG8.out HRW.out
      have hd : decide (k < sn) = true := by simpa using hlt
      have hkx : k < sx.length := by rw [HSX.out.2.2.2.2.1]; exact hlt
      have HGW : Hid (Gq w0 wr) := H00.out.trans (HG.out.trans HGM.out)
      obtain ⟨b, off, hA, hb, hc⟩ := cli_at (HSR.out.1.below HGW.out) (by omega)
      obtain rfl : sA = some ⟨b, off, none⟩ := hA
      obtain ⟨d0, d1, d2, d3, d4, d5, d6⟩ := hc k hkx
      have HXO : Hid (CliOk w0 sx[k]) := HSR.out.2.1 _ (List.getElem_mem hkx)
      have HSNOC : Hid (remsF id ((sx.take (k + 1)).map CliM.x) (xs.map CliM.x) = (remF CliM.x (sx[k]).x M).map (List.map CliM.x)) := by
        show _ = _
        rw [List.take_succ_eq_append_getElem hkx, List.map_append, List.map_cons, List.map_nil, remsF_snoc, HMX.out]
        exact (remF_map id CliM.x (sx[k]).x M).symm
      have HNONE : Hid (remF CliM.x (sx[k]).x M = none → q = ([], 9)) := fun h => by
        refine HE2.out ?_
        have h1 : sx.map CliM.x = (sx.take (k + 1)).map CliM.x ++ (sx.drop (k + 1)).map CliM.x := by rw [← List.map_append, List.take_append_drop]
        rw [h1]
        exact remsF_cut id _ _ _ (by rw [HSNOC.out, h]; rfl)
      have HWT : Hid (Calls Tryz.prog 42 #[.slice A n c, sx[k].v] wr fun e w' => Gq wr w' ∧ ((remF CliM.x (sx[k]).x M = none ∧ e = .returned (.tuple #[.slice none 0 0, .bool false])) ∨ ∃ m A' c', remF CliM.x (sx[k]).x M = some m ∧ e = .returned (.tuple #[.slice A' (n - 1) c', .bool true]) ∧ w'.ownsRow wr.heap.size 52 7 (.slice A' (n - 1) c') (n - 1) (m.flatMap CliM.cs))) := by
        have h1 := HML.out
        have h2 := HXL.out.1
        have := without_any A c M sx[k] wr (by omega) (HRE.out.rd HGW.out) (fun y hy => (HCM.out y hy).below HGW.out) (HXO.out.below HGW.out) (by omega)
        rw [h1.1] at this
        exact this
      obtain ⟨RM, hRM⟩ : ∃ RM, remF CliM.x (sx[k]).x M = RM := ⟨_, rfl⟩
      have HRM : Hid (∀ m, RM = some m → m.length = n - 1 ∧ (∀ y ∈ m, CliOk w0 y) ∧ remsF id ((sx.take (k + 1)).map CliM.x) (xs.map CliM.x) = some (m.map CliM.x)) := fun m hm => by
        rw [hm] at hRM
        refine ⟨by have := remF_len CliM.x _ _ _ hRM; rw [HML.out.1] at this; omega, fun y hy => HCM.out y (remF_sub CliM.x _ _ _ hRM y hy), by rw [HSNOC.out, hRM]; rfl⟩
      rw [hRM] at HNONE HWT
      clear hRM hc HXO HSNOC
      obtain ⟨Z, hZ⟩ : ∃ X, sx[k] = X := ⟨_, rfl⟩
      rw [hZ] at d0 d1 d2 d3 d4 d5 d6 HWT
      clear hZ
      obtain ⟨xm, xc, xf, xt, xa, xl, ⟨EA, ed, es⟩⟩ := Z
      simp only [CliM.v, Slc.v] at d0 d1 d2 d3 d4 d5 d6 HWT
      generalize (es.length : Nat) = en at d6 HWT
      go_wp2_with fail
      refine HWT.out.mono ?_
      rintro e w3 ⟨hg, ⟨hn, rfl⟩ | ⟨m, A', c', hm, rfl, hown⟩⟩
      · have HB := Lib.hid (HNONE.out hn)
        have HG3 : Hid (Gq wz w3) := HGM.out.trans hg
        obtain ⟨⟨k0, k1, k2, f0', f1, f2⟩, W', hW', e0', e1', e2', hge⟩ := HNO.out w3 HG3.out
        have HGE := Lib.hid hge
        have HWW := Lib.hid hW'
        have hrun := HE0.out w3
        clear hg hn hge hW' HWT HNONE HRM d0 d1 d2 d3 d4 d5 d6 a0 a1 a2 c0 c1 c2 c3
        go_wp2_with fail
        rw [← HWW.out]
        exact bodyPost_ret (v := .tuple #[.agg #[.int .i64 0, .int .i64 0, .slice none 0 0], .int .i64 9]) (by simp [results, Tryz.results17, go_sem, e0', e1', e2']) rfl (rstR_bad HB.out (by decide) HGE.out)
      · have h1 := HRM.out m hm
        have HN3 : Hid (m.length = n - 1 ∧ n - 1 ≤ xn ∧ n - 1 ≤ c') := ⟨h1.1, by have := HML.out.2.1; omega, (own_cap hown).1⟩
        have HR3 : Hid (RdE w0 w3 A' (m.flatMap CliM.cs)) := .inr (RdT.of_own hown)
        have HC3 : Hid (∀ y ∈ m, CliOk w0 y) := h1.2.1
        have HX3 := Lib.hid h1.2.2
        have HG3 : Hid (Gq wz w3) := HGM.out.trans hg
        clear h1 hg hm hown HWT HNONE HRM d0 d1 d2 d3 d4 d5 d6 a0 a1 a2 c0 c1 c2 c3
        go_wp2_with fail
        go_roundw
        case rel => exact ⟨k + 1, n - 1, A', c', m, by omega, rfl, by go_num, HN3, HR3, HC3, HX3, HG3⟩
        case measure => simp [intOf]; omega
  have e2 : (sk == 2) = false := by simp [hk2]
  have h3 : sk = 3 := by
    have := stpF_kd HF0.out
    rw [HSX.out.2.2.2.2.2] at this
    simp only at this
    omega
  have e3 : (sk == 3) = true := by simp [h3]
  have HK12 : Hid (S.x.kd ≠ 1 ∧ S.x.kd ≠ 2) := by rw [HSX.out.2.2.2.2.2]; exact ⟨hk1, hk2⟩
  obtain ⟨g, hg'⟩ : ∃ g, (if sk = 3 then rngN sa sb else 0) = g := ⟨_, rfl⟩
  have HRG : Hid (rngF S.x = g) := by
    show _ = _
    rw [← hg', if_pos h3, HSX.out.2.2.2.2.2]; rfl
  have HC2 := Lib.hid (checkShiftR_any sk sA sn sc sa sb w2)
  rw [hg'] at HC2
  clear hg' h3 hk1 hk2
  go_wp2_with fail
  refine HC2.out.mono ?_
  rintro e w3 ⟨rfl, hg3⟩
  have HG3 : Hid (Gq wz w3) := HG2.out.trans hg3
  clear hg3 HC2 a0 a1 a2 c0 c1 c2 c3
  by_cases hg0 : g = 0
  case neg =>
    have hgb : (g != 0) = true := by simpa using hg0
    have HB : Hid (q = ([], g)) := by
      show _ = _
      rw [← HQ.out, stepL_3r HF0.out HK12.out.1 HK12.out.2 (by rw [HRG.out]; exact hg0), HRG.out]
    have HN0 : Hid (g ≠ 0) := hg0
    obtain ⟨⟨k0, k1, k2, f0', f1, f2⟩, W', hW', e0', e1', e2', hge⟩ := HNO.out w3 HG3.out
    have HGE := Lib.hid hge
    have HWW := Lib.hid hW'
    have hrun := HE0.out w3
    clear hg0 hge hW'
    go_wp2_with fail
    rw [← HWW.out]
    exact bodyPost_ret (v := .tuple #[.agg #[.int .i64 0, .int .i64 0, .slice none 0 0], .int .i64 g]) (by simp [results, Tryz.results17, go_sem, e0', e1', e2']) rfl (rstR_bad HB.out HN0.out HGE.out)
  have hgb : (g != 0) = false := by simp [hg0]
  have HRG0 : Hid (rngF S.x = 0) := by rw [← hg0]; exact HRG.out
  have HRR : Hid ((0 ≤ sa ∧ sa ≤ 100000) ∧ (-100000 ≤ sb ∧ sb ≤ 100000) ∧ (0 ≤ sa + sb ∧ sa + sb ≤ 100000)) := by
    have := rngF_ok HRG0.out
    rw [HSX.out.2.2.2.2.2] at this
    exact this
  have HQC : Hid ((xs.map CliM.x).any (clsh S.x) = true → q = ([], 12)) := fun h => by
    rw [← HQ.out, HXS.out.2.2.2.1]; exact stepL_3c HF0.out HK12.out.1 HK12.out.2 HRG0.out h
  have HQN : Hid ((xs.map CliM.x).any (clsh S.x) = false → q = (srtC ((xs.map CliM.x).map (shfC sa sb)), 0)) := fun h => by
    rw [← HQ.out, HXS.out.2.2.2.1, stepL_3 HF0.out HK12.out.1 HK12.out.2 HRG0.out h, HSX.out.2.2.2.2.2]
  obtain ⟨ii, hii, hzi0, hzi1, hzi2⟩ := info_parts infoClP
  have HII := Lib.hid (And.intro hii (And.intro hzi0 (And.intro hzi1 hzi2)))
  clear hg0 HRG hii hzi0 hzi1 hzi2 HRX2
  go_wp2_with fail
  go_loopw [13, 14] (fun ov kv wr => ∃ (k : Nat) (AO : Option Addr) (cO : Nat), k ≤ xn ∧ kv = .int .i64 (k : Int) ∧ ov = .slice AO k cO ∧ Hid (wr.ownsRow wz.heap.size 52 7 (.slice AO k cO) k (((xs.take k).map (shM sa sb)).flatMap CliM.cs)) ∧ Hid (((xs.take k).map CliM.x).any (clsh S.x) = false) ∧ Hid (Gq wz wr)) (fun _ kv _ => xn - (intOf kv).toNat)
  case atStart => exact ⟨0, none, 0, Nat.zero_le _, rfl, rfl, World.ownsRow_nil _ _ _ _, rfl, HG3.out⟩
  case round =>
    obtain ⟨k, AO, cO, hk, rfl, rfl, HOW, HAN, HGR⟩ := hrel
    by_cases hlt : k < xn
    case neg =>
      have hd : decide (k < xn) = false := by simpa using hlt
      have hke : k = xn := by omega
      subst hke
      have HXN : Hid (xs.take k = xs) := List.take_of_length_le (by rw [HXS.out.2.2.2.2]; exact Nat.le_refl _)
      have HSD : Hid (Calls Tryz.prog 44 #[.slice AO k cO] wr fun e w' => ∃ A' c', e = .returned (.slice A' k c') ∧ w'.ownsRow wr.heap.size 52 7 (.slice A' k c') k ((srtF CliM.x (xs.map (shM sa sb))).flatMap CliM.cs) ∧ Gq wr w') := by
        have h1 := Rd.of_own HOW.out
        rw [HXN.out] at h1
        have h2 : (xs.map (shM sa sb)).length = k := by rw [List.length_map]; exact HXS.out.2.2.2.2
        have h3 := sortedR_any AO cO (xs.map (shM sa sb)) wr h1 (by have := HXL.out.1; omega)
        rw [h2] at h3
        exact h3
      obtain ⟨M, hM⟩ : ∃ M, srtF CliM.x (xs.map (shM sa sb)) = M := ⟨_, rfl⟩
      have HQM : Hid (q = (M.map CliM.x, 0)) := by
        have h1 := HAN.out
        rw [HXN.out] at h1
        have h2 : M.map CliM.x = srtC ((xs.map CliM.x).map (shfC sa sb)) := by
          rw [← hM]
          refine (srt_map id CliM.x (xs.map (shM sa sb))).trans ?_
          rw [List.map_map, List.map_map]
          have : (CliM.x ∘ shM sa sb) = (shfC sa sb ∘ CliM.x) := by funext y; exact shM_x sa sb y
          rw [this]
        show _ = _
        rw [h2]; exact HQN.out h1
      have HCM : Hid (∀ y ∈ M, CliOk w0 y) := fun y hy => by
        rw [← hM] at hy
        obtain ⟨z, hz, rfl⟩ := List.mem_map.1 ((srt_perm CliM.x _).mem_iff.1 hy)
        refine shM_ok (HXR.out.2 z hz) fun _ => ?_
        have h1 := HXL.out.2.2.2 z hz
        have h2 := HRR.out
        exact ⟨by omega, by omega⟩
      have HMN : Hid (M.length = k) := by
        show _ = _
        rw [← hM, (srt_perm CliM.x _).length_eq, List.length_map]; exact HXS.out.2.2.2.2
      rw [hM] at HSD
      clear hM hlt HXN HOW HAN HQC HQN
      obtain ⟨⟨a0, a1, a2⟩, c0, c1, c2, c3⟩ := HCE.out wr HGR.out
      go_wp2_with fail
      refine HSD.out.mono ?_
      rintro e w4 ⟨A, c, rfl, hown, hg4⟩
      obtain ⟨n, hn⟩ : ∃ n, n = k := ⟨_, rfl⟩
      subst hn
      have HML : Hid (M.length = n ∧ n ≤ c ∧ n ≤ 2000000) := by have h1 := HMN.out; have h2 := HXL.out.1; have h3 := (own_cap hown).1; exact ⟨by omega, by omega, by omega⟩
      have HRE : Hid (RdE w0 w4 A (M.flatMap CliM.cs)) := .inr (RdT.of_own hown)
      have HGM : Hid (Gq wz w4) := HGR.out.trans hg4
      clear hown hg4 HSD a0 a1 a2 c0 c1 c2 c3
      go_upto_region 34 with (fail)
      have HLL : Hid (M.length = n ∧ n ≤ c ∧ n ≤ 2000000) := HML.out
      obtain ⟨ff, hff⟩ : ∃ ff, ediF isNm 1000000 ⟨rt, tk, M.map CliM.x⟩ = ff := ⟨_, rfl⟩
      obtain ⟨L, hL⟩ : ∃ L, M.flatMap CliM.cs = L := ⟨_, rfl⟩
      have HCK : Hid (∀ W', Gq w0 W' → RdE w0 W' A L → Calls Tryz.prog 16 #[.agg #[.int .i64 rt, .int .i64 tk, .slice A n c]] W' fun e w' => e = .returned (.int .i64 ff) ∧ Gq W' w') := fun W' hW hr => by
        have := checkR_any ⟨rt, tk, ⟨A, c, M⟩⟩ W' ⟨HRT.out.1, HRT.out.2, by have := HLL.out; show M.length ≤ _; omega, by show Rd _ _ _; rw [hL]; exact hr.rd hW, fun z hz => (HCM.out z hz).below hW⟩ (HPO.out.below hW)
        have he : EdtM.x ⟨rt, tk, ⟨A, c, M⟩⟩ = ⟨rt, tk, M.map CliM.x⟩ := rfl
        rw [he, hff] at this
        simp only [EdtM.v, Slc.v] at this
        rw [HLL.out.1] at this
        exact this
      have HFIN : Hid (∀ W', Gq w0 W' → Gq w1 W' → RdE w0 W' A L → RstR w0 rt tk q w1 (.returned (.tuple #[.agg #[.int .i64 rt, .int .i64 tk, .slice A n c], .int .i64 ff])) W') := fun W' hW hV hr => by
        refine ⟨hV, ⟨rt, tk, ⟨A, c, M⟩⟩, ff, ?_, fun hn => ?_, fun _ => ⟨?_, ?_, ⟨HRT.out.1, HRT.out.2, by show RdE _ _ _ _; rw [hL]; exact hr, HCM.out, by have := HLL.out; show M.length ≤ c; omega⟩⟩⟩
        · simp only [EdtM.v, Slc.v]; rw [HLL.out.1]
        · rw [HQM.out] at hn; exact absurd rfl hn
        · show Edt.mk rt tk (M.map CliM.x) = _; rw [HQM.out]
        · rw [HQM.out, ← hff]
      obtain ⟨⟨a0, a1, a2⟩, _, _, _, _⟩ := HCE.out w4 HGM.out
      obtain ⟨wo, hwo⟩ : ∃ wo, wo = (w4).alloc (.cells #[.int .i64 rt, .int .i64 tk, .slice A n c] 24) := ⟨_, rfl⟩
      have HGO : Hid (Gq w4 wo) := by rw [hwo]; exact (Gq.refl _).alloc _
      have hrun := runBE rt tk A n c w4
      have HKO : Hid (Blk wo (w4).heap.size 24 [.int .i64 rt, .int .i64 tk, .slice A n c]) := by rw [hwo]; exact Blk.new _ _ _
      have HWO := Lib.hid hwo
      have HGG : Hid (Gq wz wo) := HGM.out.trans HGO.out
      clear hff hwo
      go_upto_region 35 with (fail)
      rw [← HWO.out]
      obtain ⟨g2, hgo⟩ : ∃ g, (w4).heap.size = g := ⟨_, rfl⟩
      obtain ⟨g1, hgr⟩ : ∃ g, w1.heap.size + 2 = g := ⟨_, rfl⟩
      have HBASE : Hid (Gq w0 wo.drew) := H00.out.trans ((HG.out.trans HGG.out).drew)
      have HBASE1 : Hid (Gq w1 wo.drew) := (HG.out.trans HGG.out).drew
      have HGR1 : Hid (w1.heap.size ≤ g1) := by show _ ≤ _; omega
      have HBR : Hid (Blk wo.drew g1 24 [.int .i64 0, .int .i64 0, .slice none 0 0]) := by rw [← hgr]; exact blkq HKR.out HGG.out.drew
      have HBO : Hid (Blk wo.drew g2 24 [.int .i64 rt, .int .i64 tk, .slice A n c]) := by rw [← hgo]; exact HKO.out
      have HROW : Hid (RdE w0 wo.drew A L) := by show RdE _ _ _ _; rw [← hL]; exact HRE.out.below HGO.out.drew
      have HGR : Hid (w0.heap.size ≤ g1) := by have := Below.size H00.out; show _ ≤ _; omega
      have HNE : Hid (g2 ≠ g1) := by have h1 := Below.size HGM.out; have h2 := HZ.out; show _ ≠ _; omega
      have HFI2 : Hid (∀ W', Gq w0 W' → Gq w1 W' → RdE w0 W' A L → RstR w0 rt tk q w1 (.returned (.tuple #[.agg #[.int .i64 rt, .int .i64 tk, .slice A n c], .int .i64 ff])) W') := HFIN.out
      simp only [hgo, hgr]
      clear hgo hgr hL hrun a0 a1 a2 HKO HGO HGG HWO HML HRE HCM HGM HQM HFIN
      refine Go.Dwo.wp_region_factsK _ (by kernel_rfl) [[], [], [1], [0], [1, 2]] (by kernel_rfl) (by kernel_rfl) [some 134, some 135, some 136, none, some 5] (by kernel_rfl) (fun vs => by simp only [Go.Dwo.putA, Go.Dwo.putL, if_true, Act.put, List.setIfInBounds_toArray, List.set_cons_zero, List.set_cons_succ]; rfl) (srsF w0 w1 g1 g2 rt tk A n c L ff) (by kernel_rfl) ?_ ⟨?_, ?_, ?_, ?_, ?_, trivial⟩ ?_
      · exact Go.Dwo.fa_zero [0, 1, 2, 3] (by kernel_rfl) <| Go.Dwo.fa_cons (⟨HBASE.out, HBASE1.out⟩) <| Go.Dwo.fa_cons (HBR.out) <| Go.Dwo.fa_cons (HBO.out) <| Go.Dwo.fa_cons (HROW.out) <| Go.Dwo.fa_nil _
      · -- 0: Op.load 24 t16
        intro Ls vs w Kk H hu hD hK
        replace hu : ∀ k ∈ ([] : List Nat), Ls k = true := hu
        replace hD : ∀ k ∈ ([0, 3] : List Nat), Ls k = false := Go.Dwo.fa_cons (hD 0 (.inl rfl)) <| Go.Dwo.fa_cons (hD 3 (.inr (by decide))) <| Go.Dwo.fa_nil _
        simp only [Go.Dwo.actOf, List.getD_cons_zero]
        have qbase : Gq w0 w ∧ Gq w1 w := H.up hu hD 0 rfl rfl rfl
        obtain ⟨h0, h1⟩ := qbase
        have bR : Blk w g1 24 [.int .i64 0, .int .i64 0, .slice none 0 0] := H.up hu hD 1 rfl rfl rfl
        have bO : Blk w g2 24 [.int .i64 rt, .int .i64 tk, .slice A n c] := H.up hu hD 2 rfl rfl rfl
        have row : RdE w0 w A L := H.up hu hD 3 rfl rfl rfl
        have d0 : w.cell? ⟨g2, 0, none⟩ = _ := bO.cell 0
        have d1 : w.cell? ⟨g2, 1, none⟩ = _ := bO.cell 1
        have d2 : w.cell? ⟨g2, 2, none⟩ = _ := bO.cell 2
        simp only [List.getElem?_cons_zero, List.getElem?_cons_succ] at d0 d1 d2
        have hKK := Lib.hid hK
        clear hK H hu hD
        go_simp
        refine hKK.out _ _ (fun f _ _ _ _ h => h) ?_
        exact Go.Dwo.fa_pick [4, 7] (by kernel_rfl) <| Go.Dwo.fa_cons (fun _ => rfl) <|
            Go.Dwo.fa_cons (fun hL => absurd (show (0 : Nat) ∈ ([0] : List Nat) from by decide) (hL 3 (show (3 : Nat) ∈ ([0, 3] : List Nat) from by decide) (show (3 : Nat) ≠ 0 from by decide)).2) <| Go.Dwo.fa_nil _
      · -- 1: Op.load 24 t16
        intro Ls vs w Kk H hu hD hK
        replace hu : ∀ k ∈ ([] : List Nat), Ls k = true := hu
        replace hD : ∀ k ∈ ([1, 2, 4] : List Nat), Ls k = false := Go.Dwo.fa_cons (hD 1 (.inl rfl)) <| Go.Dwo.fa_cons (hD 2 (.inr (by decide))) <| Go.Dwo.fa_cons (hD 4 (.inr (by decide))) <| Go.Dwo.fa_nil _
        simp only [Go.Dwo.actOf, List.getD_cons_succ, List.getD_cons_zero]
        have qbase : Gq w0 w ∧ Gq w1 w := H.up hu hD 0 rfl rfl rfl
        obtain ⟨h0, h1⟩ := qbase
        have bO : Blk w g2 24 [.int .i64 rt, .int .i64 tk, .slice A n c] := H.up hu hD 2 rfl rfl rfl
        have row : RdE w0 w A L := H.up hu hD 3 rfl rfl rfl
        have d0 : w.cell? ⟨g2, 0, none⟩ = _ := bO.cell 0
        have d1 : w.cell? ⟨g2, 1, none⟩ = _ := bO.cell 1
        have d2 : w.cell? ⟨g2, 2, none⟩ = _ := bO.cell 2
        simp only [List.getElem?_cons_zero, List.getElem?_cons_succ] at d0 d1 d2
        have hKK := Lib.hid hK
        clear hK H hu hD
        go_simp
        refine hKK.out _ _ (fun f _ _ _ _ h => h) ?_
        exact Go.Dwo.fa_pick [5] (by kernel_rfl) <| Go.Dwo.fa_cons (fun _ => rfl) <| Go.Dwo.fa_nil _
      · -- 2: Op.call { value (Operand.func 16), args := #[t135], argTypes := #[24] }
        intro Ls vs w Kk H hu hD hK
        replace hu : ∀ k ∈ ([1] : List Nat), Ls k = true := hu
        replace hD : ∀ k ∈ ([2, 4] : List Nat), Ls k = false := Go.Dwo.fa_cons (hD 2 (.inl rfl)) <| Go.Dwo.fa_cons (hD 4 (.inr (by decide))) <| Go.Dwo.fa_nil _
        simp only [Go.Dwo.actOf, List.getD_cons_succ, List.getD_cons_zero]
        have qbase : Gq w0 w ∧ Gq w1 w := H.up hu hD 0 rfl rfl rfl
        obtain ⟨h0, h1⟩ := qbase
        have bO : Blk w g2 24 [.int .i64 rt, .int .i64 tk, .slice A n c] := H.up hu hD 2 rfl rfl rfl
        have row : RdE w0 w A L := H.up hu hD 3 rfl rfl rfl
        have f1 : vs 1 = .agg #[.int .i64 rt, .int .i64 tk, .slice A n c] := H.up hu hD 5 rfl rfl rfl
        have hKK := Lib.hid hK
        clear hK H hu hD
        go_simp
        refine (HCK.out w h0 row).mono ?_
        rintro e w' ⟨rfl, hb⟩
        refine ⟨_, rfl, hKK.out _ _ (fun f hf _ _ _ h => srsK w0 w1 g1 g2 rt tk A n c L ff f hf _ _ _ hb h) ?_⟩
        exact Go.Dwo.fa_pick [6, 8] (by kernel_rfl) <| Go.Dwo.fa_cons (fun _ => rfl) <|
            Go.Dwo.fa_cons (fun hL => absurd (show (2 : Nat) ∈ ([1, 2] : List Nat) from by decide) (hL 4 (show (4 : Nat) ∈ ([2, 4] : List Nat) from by decide) (show (4 : Nat) ≠ 2 from by decide)).2) <| Go.Dwo.fa_nil _
      · -- 3: Op.store 24 t4 t134
        intro Ls vs w Kk H hu hD hK
        replace hu : ∀ k ∈ ([0] : List Nat), Ls k = true := hu
        replace hD : ∀ k ∈ ([3] : List Nat), Ls k = false := Go.Dwo.fa_cons (hD 3 (.inl rfl)) <| Go.Dwo.fa_nil _
        simp only [Go.Dwo.actOf, List.getD_cons_succ, List.getD_cons_zero]
        have qbase : Gq w0 w ∧ Gq w1 w := H.up hu hD 0 rfl rfl rfl
        obtain ⟨h0, h1⟩ := qbase
        have bR : Blk w g1 24 [.int .i64 0, .int .i64 0, .slice none 0 0] := H.up hu hD 1 rfl rfl rfl
        have bO : Blk w g2 24 [.int .i64 rt, .int .i64 tk, .slice A n c] := H.up hu hD 2 rfl rfl rfl
        have row : RdE w0 w A L := H.up hu hD 3 rfl rfl rfl
        have f0 : vs 0 = .agg #[.int .i64 rt, .int .i64 tk, .slice A n c] := H.up hu hD 4 rfl rfl rfl
        have HDD := Lib.hid hD
        have HH := Lib.hid H
        replace f0 : vs 0 = .agg #[.int .i64 rt, .int .i64 tk, .slice A n c] := f0
        have d0 : w.cell? ⟨g1, 0, none⟩ = _ := bR.cell 0
        have y0 := bR.frozen 0
        have d1 : w.cell? ⟨g1, 1, none⟩ = _ := bR.cell 1
        have y1 := bR.frozen 1
        have d2 : w.cell? ⟨g1, 2, none⟩ = _ := bR.cell 2
        have y2 := bR.frozen 2
        simp only [List.getElem?_cons_zero, List.getElem?_cons_succ] at d0 d1 d2
        have hKK := Lib.hid hK
        clear hK H hu hD
        go_simp
        have HST := Lib.hid (setN_blk [.int .i64 rt, .int .i64 tk, .slice A n c] bR rfl)
        refine hKK.out _ _ (Go.Dwo.fa_cons (fun _ _ _ h => ⟨setN_below HGR.out [.int .i64 rt, .int .i64 tk, .slice A n c] w 0 h.1, setN_below HGR1.out [.int .i64 rt, .int .i64 tk, .slice A n c] w 0 h.2⟩) <|
            Go.Dwo.fa_cons (fun _ hn _ _ => absurd (show (3 : Nat) ∈ ([3] : List Nat) from by decide) hn) <|
            Go.Dwo.fa_cons (fun _ _ _ h => (setN_heap [.int .i64 rt, .int .i64 tk, .slice A n c] w 0 _ HNE.out).trans h) <|
            Go.Dwo.fa_cons (fun _ _ _ h => h.kp (setN_kp [.int .i64 rt, .int .i64 tk, .slice A n c] bR (by decide) 0)) <|
            Go.Dwo.fa_cons (fun _ _ _ h => h) <|
            Go.Dwo.fa_cons (fun _ _ _ h => h) <|
            Go.Dwo.fa_cons (fun _ _ _ h => h) <|
            Go.Dwo.fa_cons (fun hn _ _ _ => absurd (show (3 : Nat) ∈ ([0, 3] : List Nat) from by decide) hn) <|
            Go.Dwo.fa_cons (fun _ _ _ h => h) <| Go.Dwo.fa_nil _) ?_
        exact Go.Dwo.fa_pick [7] (by kernel_rfl) <| Go.Dwo.fa_cons (fun _ => HST.out) <| Go.Dwo.fa_nil _
      · -- 4: Op.assign t136
        intro Ls vs w Kk H hu hD hK
        replace hu : ∀ k ∈ ([1, 2] : List Nat), Ls k = true := hu
        replace hD : ∀ k ∈ ([4] : List Nat), Ls k = false := Go.Dwo.fa_cons (hD 4 (.inl rfl)) <| Go.Dwo.fa_nil _
        simp only [Go.Dwo.actOf, List.getD_cons_succ, List.getD_cons_zero]
        have qbase : Gq w0 w ∧ Gq w1 w := H.up hu hD 0 rfl rfl rfl
        obtain ⟨h0, h1⟩ := qbase
        have bO : Blk w g2 24 [.int .i64 rt, .int .i64 tk, .slice A n c] := H.up hu hD 2 rfl rfl rfl
        have row : RdE w0 w A L := H.up hu hD 3 rfl rfl rfl
        have f2 : vs 2 = .int .i64 ff := H.up hu hD 6 rfl rfl rfl
        have hKK := Lib.hid hK
        clear hK H hu hD
        go_simp
        refine hKK.out _ _ (fun f _ _ _ _ h => h) ?_
        exact Go.Dwo.fa_pick [8] (by kernel_rfl) <| Go.Dwo.fa_cons (fun _ => f2.symm) <| Go.Dwo.fa_nil _
      · intro vs w H
        have qbase : Gq w0 w ∧ Gq w1 w := Go.Dwo.fa_at H 0 rfl rfl
        obtain ⟨h0, h1⟩ := qbase
        have bO : Blk w g2 24 [.int .i64 rt, .int .i64 tk, .slice A n c] := Go.Dwo.fa_at H 2 rfl rfl
        have row : RdE w0 w A L := Go.Dwo.fa_at H 3 rfl rfl
        have f0 : vs 0 = .agg #[.int .i64 rt, .int .i64 tk, .slice A n c] := Go.Dwo.fa_at H 4 rfl rfl
        have f1 : vs 1 = .agg #[.int .i64 rt, .int .i64 tk, .slice A n c] := Go.Dwo.fa_at H 5 rfl rfl
        have f2 : vs 2 = .int .i64 ff := Go.Dwo.fa_at H 6 rfl rfl
        have n3 : Blk w g1 24 [.int .i64 rt, .int .i64 tk, .slice A n c] := Go.Dwo.fa_at H 7 rfl rfl
        have f4 : vs 4 = vs 2 := Go.Dwo.fa_at H 8 rfl rfl
        clear H
        simp only [Nat.zero_add, Nat.reduceAdd]
        have HG7 : Hid (Gq w0 w) := h0
        have HG8 : Hid (Gq w1 w) := h1
        have HB3 : Hid (Blk w g1 24 [.int .i64 rt, .int .i64 tk, .slice A n c]) := n3
        have HRW : Hid (RdE w0 w A L) := row
        have HF : Hid (vs 4 = .int .i64 ff) := by show _ = _; rw [f4, f2]
        simp only [HF.out]
        have k0 : w.cell? ⟨g1, 0, none⟩ = some (.int .i64 rt) := HB3.out.cell 0
        have k1 : w.cell? ⟨g1, 1, none⟩ = some (.int .i64 tk) := HB3.out.cell 1
        have k2 : w.cell? ⟨g1, 2, none⟩ = some (.slice A n c) := HB3.out.cell 2
        clear f0 f1 f2 f4 h0 h1 row n3 bO
        go_wp2_with fail
        show bodyPost Tryz.prog Tryz.f17 _ _ _ _
        refine bodyPost_ret (v := .tuple #[.agg #[.int .i64 rt, .int .i64 tk, .slice A n c], .int .i64 ff]) (by simp [results, Tryz.results17, go_sem, k0, k1, k2]) rfl ?_
        exact HFI2.out w HG7.out HG8.out HRW.out
    have hd : decide (k < xn) = true := by simpa using hlt
    have hkx : k < xs.length := by rw [HXS.out.2.2.2.2]; exact hlt
    have HGW : Hid (Gq w0 wr) := H00.out.trans (HG.out.trans HGR.out)
    obtain ⟨b, off, hA, hb, hc⟩ := cli_at ((HXR.out.1.below (HG.out.trans HGR.out)).rd HGW.out) (by omega)
    obtain rfl : xA = some ⟨b, off, none⟩ := hA
    obtain ⟨p0, p1, p2, p3, p4, p5, p6⟩ := hc k hkx
    have HTK : Hid ((xs.take (k + 1)).map (shM sa sb) = (xs.take k).map (shM sa sb) ++ [shM sa sb xs[k]]) := by
      show _ = _; rw [List.take_succ_eq_append_getElem hkx, List.map_append]; rfl
    have HIK : Hid (0 ≤ xs[k].at_ ∧ xs[k].at_ ≤ 100000) := HXL.out.2.2.2 _ (List.getElem_mem _)
    obtain ⟨qc, hqc⟩ : ∃ qc, clsh S.x (xs[k]).x = qc := ⟨_, rfl⟩
    have HQD : Hid (qc = decide (sb < 0 ∧ sa + sb ≤ xs[k].at_ ∧ xs[k].at_ < sa)) := by
      show _ = _; rw [← hqc, HSX.out.2.2.2.2.2]; rfl
    have HQT : Hid (qc = true → q = ([], 12)) := fun h => HQC.out (List.any_eq_true.2 ⟨(xs[k]).x, List.mem_map_of_mem (List.getElem_mem _), by rw [hqc]; exact h⟩)
    have HQF : Hid (qc = false → ((xs.take (k + 1)).map CliM.x).any (clsh S.x) = false) := fun h => by
      rw [List.take_succ_eq_append_getElem hkx, List.map_append, List.any_append, HAN.out]
      show (false || [(xs[k]).x].any (clsh S.x)) = false
      rw [List.any_cons, hqc, h]; rfl
    clear hc hqc
    obtain ⟨Z, hZ⟩ : ∃ X, xs[k] = X := ⟨_, rfl⟩
    rw [hZ] at p0 p1 p2 p3 p4 p5 p6 HTK HIK HQD
    clear hZ
    have HZ1 : Hid (sa ≤ Z.at_ → (shM sa sb Z).cs = [.string Z.m, .int .i64 Z.ch, .int .i64 Z.fr, .int .i64 Z.tr, .int .i64 (Z.at_ + sb), .int .i64 Z.ln, .slice Z.e.a Z.e.xs.length Z.e.c]) := fun hh => by unfold shM; rw [if_pos hh]; rfl
    have HZ2 : Hid (¬ sa ≤ Z.at_ → (shM sa sb Z).cs = [.string Z.m, .int .i64 Z.ch, .int .i64 Z.fr, .int .i64 Z.tr, .int .i64 Z.at_, .int .i64 Z.ln, .slice Z.e.a Z.e.xs.length Z.e.c]) := fun hh => by unfold shM; rw [if_neg hh]; rfl
    obtain ⟨SZ, hSZ⟩ : ∃ S, shM sa sb Z = S := ⟨_, rfl⟩
    rw [hSZ] at HZ1 HZ2 HTK
    clear hSZ
    obtain ⟨xm, xc, xf, xt, xa, xl, ⟨EA, ed, es⟩⟩ := Z
    simp only at p0 p1 p2 p3 p4 p5 p6 HZ1 HZ2 HIK HQD
    generalize (es.length : Nat) = en at p6 HZ1 HZ2
    have HPS : Hid (∀ W, Gq wr W → W.cell? ⟨b, off + k * 7, none⟩ = some (.string xm) ∧ W.cell? ⟨b, off + k * 7 + 1, none⟩ = some (.int .i64 xc) ∧ W.cell? ⟨b, off + k * 7 + 2, none⟩ = some (.int .i64 xf) ∧ W.cell? ⟨b, off + k * 7 + 3, none⟩ = some (.int .i64 xt) ∧ W.cell? ⟨b, off + k * 7 + 4, none⟩ = some (.int .i64 xa) ∧ W.cell? ⟨b, off + k * 7 + 5, none⟩ = some (.int .i64 xl) ∧ W.cell? ⟨b, off + k * 7 + 6, none⟩ = some (.slice EA en ed)) := fun W hW => by
      have qx := fun i (u : Value) (hu : wr.cell? ⟨b, i, none⟩ = some u) => (Below.cell hW (p := ⟨b, i, none⟩) (by exact hb)).trans hu
      exact ⟨qx _ _ p0, qx _ _ p1, qx _ _ p2, qx _ _ p3, qx _ _ p4, qx _ _ p5, qx _ _ p6⟩
    obtain ⟨⟨a0, a1, a2⟩, c0, c1, c2, c3⟩ := HCE.out wr HGR.out
    have W1 : IntKind.i64.wrap (sa + sb) = sa + sb := IntWalk.i64_in _ (by have := HRR.out; exact ⟨by omega, by omega⟩)
    have i0 : (0 : Int) ≤ (k : Int) := by omega
    have i1 : (k : Int) < (xn : Int) := by omega
    have it : ((k : Int)).toNat = k := by omega
    go_upto_region 27 with (fail)
    go_cut [105] (fun v wx => v = .bool qc ∧ Hid (Gq wr wx))
    case first =>
      by_cases y1 : sb < 0
      case neg =>
        have d1 : decide (sb < 0) = false := decide_eq_false y1
        have hqq : qc = false := by rw [HQD.out]; exact decide_eq_false (fun k => y1 k.1)
        clear y1
        go_quiet (fail)
        go_wp2_with fail
        go_meet
        case rel => exact ⟨by rw [hqq], below_drewN (Gq.refl _) _⟩
      have d1 : decide (sb < 0) = true := decide_eq_true y1
      by_cases y2 : sa + sb ≤ xa
      case neg =>
        have d2 : decide (sa + sb ≤ xa) = false := decide_eq_false y2
        have hqq : qc = false := by rw [HQD.out]; exact decide_eq_false (fun k => y2 k.2.1)
        clear y1 y2
        go_quiet (fail)
        go_wp2_with fail
        go_meet
        case rel => exact ⟨by rw [hqq], below_drewN (Gq.refl _) _⟩
      have d2 : decide (sa + sb ≤ xa) = true := decide_eq_true y2
      by_cases y3 : xa < sa
      · have d3 : decide (xa < sa) = true := decide_eq_true y3
        have hqq : qc = true := by rw [HQD.out]; exact decide_eq_true ⟨y1, y2, y3⟩
        clear y1 y2 y3
        go_quiet (fail)
        go_wp2_with fail
        go_meet
        case rel => exact ⟨by rw [hqq], below_drewN (Gq.refl _) _⟩
      · have d3 : decide (xa < sa) = false := decide_eq_false y3
        have hqq : qc = false := by rw [HQD.out]; exact decide_eq_false (fun k => y3 k.2.2)
        clear y1 y2 y3
        go_quiet (fail)
        go_wp2_with fail
        go_meet
        case rel => exact ⟨by rw [hqq], below_drewN (Gq.refl _) _⟩
    case rest =>
      obtain ⟨rfl, HGC⟩ := hcut
      have HGM : Hid (Gq wz wc) := HGR.out.trans HGC.out
      have HOC : Hid (wc.ownsRow wz.heap.size 52 7 (.slice AO k cO) k (((xs.take k).map (shM sa sb)).flatMap CliM.cs)) := own_belowL HOW.out HGC.out
      clear a0 a1 a2 c0 c1 c2 c3 p0 p1 p2 p3 p4 p5 p6 W1
      obtain ⟨⟨a0, a1, a2⟩, c0, c1, c2, c3⟩ := HCE.out wc HGM.out
      obtain ⟨p0, p1, p2, p3, p4, p5, p6⟩ := HPS.out wc HGC.out
      cases qc with
      | true =>
        have HB := Lib.hid (HQT.out rfl)
        obtain ⟨⟨k0, k1, k2, f0', f1, f2⟩, W', hW', e0', e1', e2', hge⟩ := HNO.out wc HGM.out
        have HGE := Lib.hid hge
        have HWW := Lib.hid hW'
        have hrun := HE0.out wc
        clear hge hW' p0 p1 p2 p3 p4 p5 p6
        go_wp2_with fail
        rw [← HWW.out]
        exact bodyPost_ret (v := .tuple #[.agg #[.int .i64 0, .int .i64 0, .slice none 0 0], .int .i64 12]) (by simp [results, Tryz.results17, go_sem, e0', e1', e2']) rfl (rstR_bad HB.out (by decide) HGE.out)
      | false =>
        have HAN2 := Lib.hid (HQF.out rfl)
        have hxl : xn ≤ 300 := HXL.out.1
        obtain ⟨wa, hwa⟩ : ∃ wa, wa = wc.alloc (.cells #[.string xm, .int .i64 xc, .int .i64 xf, .int .i64 xt, .int .i64 xa, .int .i64 xl, .slice EA en ed] 52) := ⟨_, rfl⟩
        have HKC : Hid (Blk wa wc.heap.size 52 [.string xm, .int .i64 xc, .int .i64 xf, .int .i64 xt, .int .i64 xa, .int .i64 xl, .slice EA en ed]) := by rw [hwa]; exact Blk.new wc _ _
        have HGA : Hid (Gq wc wa) := by rw [hwa]; exact (Gq.refl _).alloc _
        have HWA := Lib.hid hwa
        clear hwa HPS HQT HQF
        go_upto_region 30 with (fail)
        rw [← HWA.out]
        clear a0 a1 a2 c0 c1 c2 c3 p0 p1 p2 p3 p4 p5 p6
        obtain ⟨_, c0, c1, c2, c3⟩ := HCE.out wa (HGM.out.trans HGA.out)
        have b4 : wa.cell? ⟨wc.heap.size, 4, none⟩ = some (.int .i64 xa) := HKC.out.cell 4
        have f4 := HKC.out.frozen 4
        by_cases hat : sa ≤ xa
        · have hda : decide (sa ≤ xa) = true := decide_eq_true hat
          have HZC := Lib.hid (HZ1.out hat)
          have hwx : IntKind.i64.wrap (xa + sb) = xa + sb := IntWalk.i64_in _ (by have h1 := HIK.out; have h2 := HRR.out; exact ⟨by omega, by omega⟩)
          obtain ⟨wd, hwd'⟩ : ∃ wd, wd = wa.setCell ⟨wc.heap.size, 4, none⟩ (.int .i64 (xa + sb)) := ⟨_, rfl⟩
          have HKD : Hid (Blk wd wc.heap.size 52 [.string xm, .int .i64 xc, .int .i64 xf, .int .i64 xt, .int .i64 (xa + sb), .int .i64 xl, .slice EA en ed]) := by rw [hwd']; exact HKC.out.set_ 4 (.int .i64 (xa + sb))
          have HGD : Hid (Gq wc wd) := by rw [hwd']; exact HGA.out.setCell (p := ⟨wc.heap.size, 4, none⟩) (Nat.le_refl _) _
          have HO8 : Hid (wd.ownsRow wz.heap.size 52 7 (.slice AO k cO) k (((xs.take k).map (shM sa sb)).flatMap CliM.cs)) := own_belowL HOC.out HGD.out
          have HG8 : Hid (Gq wz wd) := HGM.out.trans HGD.out
          have HZ8 : Hid (wz.heap.size ≤ wd.heap.size) := Below.size HG8.out
          have HWD := Lib.hid hwd'
          clear hwd' HOC hat HZ1 HZ2
          go_upto_region 32 with (fail)
          rw [← HWD.out]
          clear b4 f4 c0 c1 c2 c3
          have b0 : wd.cell? ⟨wc.heap.size, 0, none⟩ = some (.string xm) := HKD.out.cell 0
          have b1 : wd.cell? ⟨wc.heap.size, 1, none⟩ = some (.int .i64 xc) := HKD.out.cell 1
          have b2 : wd.cell? ⟨wc.heap.size, 2, none⟩ = some (.int .i64 xf) := HKD.out.cell 2
          have b3 : wd.cell? ⟨wc.heap.size, 3, none⟩ = some (.int .i64 xt) := HKD.out.cell 3
          have b4 : wd.cell? ⟨wc.heap.size, 4, none⟩ = some (.int .i64 (xa + sb)) := HKD.out.cell 4
          have b5 : wd.cell? ⟨wc.heap.size, 5, none⟩ = some (.int .i64 xl) := HKD.out.cell 5
          have b6 : wd.cell? ⟨wc.heap.size, 6, none⟩ = some (.slice EA en ed) := HKD.out.cell 6
          go_wp2_with (at_builtin; (refine wpList_append_lies _ rfl _ _ 22 rfl wz.heap.size 52 ii _ 7 80 Tryz.underlying22 HII.out.1 HII.out.2.1 HII.out.2.2.1 HII.out.2.2.2 rfl (by decide) _ _ _ rfl (HO8.out.alloc _) ⟨wd.heap.size, 0, none⟩ 1 1 [.string xm, .int .i64 xc, .int .i64 xf, .int .i64 xt, .int .i64 (xa + sb), .int .i64 xl, .slice EA en ed] (by rfl) (by rfl) (World.news_of_block (cs := #[.string xm, .int .i64 xc, .int .i64 xf, .int .i64 xt, .int .i64 (xa + sb), .int .i64 xl, .slice EA en ed]) (t := 52) (fr := (0, 0)) (by exact heap_alloc_new wd _)) (by simp [Value.oneCell']) (by decide) (by unfold maxLen; omega) (by omega) (by have := HZ8.out; simp; omega) _ rfl ?_); intro g9 cap9 w9 hown9 hgrow9 hat9 hg9)
          have hgA : (wd.alloc (.cells #[.string xm, .int .i64 xc, .int .i64 xf, .int .i64 xt, .int .i64 (xa + sb), .int .i64 xl, .slice EA en ed] 52)).grownBy w9 (Value.slice AO k cO).ownBlock := hgrow9
          have HG9 : Hid (Gq wz w9) := by
            refine Below.trans HG8.out (((Below.refl _ wd).alloc HZ8.out _).grown hgA (by have := HZ8.out; simp; omega) (fun j hj => (HO8.out.lt j hj).1))
          have HO9 : Hid (w9.ownsRow wz.heap.size 52 7 (.slice (some ⟨g9, 0, none⟩) (k + 1) cap9) (k + 1) (((xs.take (k + 1)).map (shM sa sb)).flatMap CliM.cs)) := by
            show World.ownsRow _ _ _ _ _ _ _
            rw [HTK.out, flat_snoc, HZC.out]; exact hown9
          clear hgA hown9 hgrow9 hat9 hg9
          go_wp2_with fail
          go_roundw
          case rel => exact ⟨k + 1, _, _, by omega, by go_num, rfl, HO9, HAN2, HG9⟩
          case measure => simp [intOf]; omega
        · have hda : decide (sa ≤ xa) = false := decide_eq_false hat
          have HZC := Lib.hid (HZ2.out hat)
          obtain ⟨wd, hwd'⟩ : ∃ wd, wd = wa := ⟨_, rfl⟩
          have HKD : Hid (Blk wd wc.heap.size 52 [.string xm, .int .i64 xc, .int .i64 xf, .int .i64 xt, .int .i64 xa, .int .i64 xl, .slice EA en ed]) := by rw [hwd']; exact HKC.out
          have HGD : Hid (Gq wc wd) := by rw [hwd']; exact HGA.out
          have HO8 : Hid (wd.ownsRow wz.heap.size 52 7 (.slice AO k cO) k (((xs.take k).map (shM sa sb)).flatMap CliM.cs)) := own_belowL HOC.out HGD.out
          have HG8 : Hid (Gq wz wd) := HGM.out.trans HGD.out
          have HZ8 : Hid (wz.heap.size ≤ wd.heap.size) := Below.size HG8.out
          clear hat HZ1 HZ2 HOC
          go_upto_region 32 with (fail)
          rw [← hwd']
          clear hwd' c0 c1 c2 c3 b4 f4
          have b0 : wd.cell? ⟨wc.heap.size, 0, none⟩ = some (.string xm) := HKD.out.cell 0
          have b1 : wd.cell? ⟨wc.heap.size, 1, none⟩ = some (.int .i64 xc) := HKD.out.cell 1
          have b2 : wd.cell? ⟨wc.heap.size, 2, none⟩ = some (.int .i64 xf) := HKD.out.cell 2
          have b3 : wd.cell? ⟨wc.heap.size, 3, none⟩ = some (.int .i64 xt) := HKD.out.cell 3
          have b4 : wd.cell? ⟨wc.heap.size, 4, none⟩ = some (.int .i64 xa) := HKD.out.cell 4
          have b5 : wd.cell? ⟨wc.heap.size, 5, none⟩ = some (.int .i64 xl) := HKD.out.cell 5
          have b6 : wd.cell? ⟨wc.heap.size, 6, none⟩ = some (.slice EA en ed) := HKD.out.cell 6
          go_wp2_with (at_builtin; (refine wpList_append_lies _ rfl _ _ 22 rfl wz.heap.size 52 ii _ 7 80 Tryz.underlying22 HII.out.1 HII.out.2.1 HII.out.2.2.1 HII.out.2.2.2 rfl (by decide) _ _ _ rfl (HO8.out.alloc _) ⟨wd.heap.size, 0, none⟩ 1 1 [.string xm, .int .i64 xc, .int .i64 xf, .int .i64 xt, .int .i64 xa, .int .i64 xl, .slice EA en ed] (by rfl) (by rfl) (World.news_of_block (cs := #[.string xm, .int .i64 xc, .int .i64 xf, .int .i64 xt, .int .i64 xa, .int .i64 xl, .slice EA en ed]) (t := 52) (fr := (0, 0)) (by exact heap_alloc_new wd _)) (by simp [Value.oneCell']) (by decide) (by unfold maxLen; omega) (by omega) (by have := HZ8.out; simp; omega) _ rfl ?_); intro g9 cap9 w9 hown9 hgrow9 hat9 hg9)
          have hgA : (wd.alloc (.cells #[.string xm, .int .i64 xc, .int .i64 xf, .int .i64 xt, .int .i64 xa, .int .i64 xl, .slice EA en ed] 52)).grownBy w9 (Value.slice AO k cO).ownBlock := hgrow9
          have HG9 : Hid (Gq wz w9) := by
            refine Below.trans HG8.out (((Below.refl _ wd).alloc HZ8.out _).grown hgA (by have := HZ8.out; simp; omega) (fun j hj => (HO8.out.lt j hj).1))
          have HO9 : Hid (w9.ownsRow wz.heap.size 52 7 (.slice (some ⟨g9, 0, none⟩) (k + 1) cap9) (k + 1) (((xs.take (k + 1)).map (shM sa sb)).flatMap CliM.cs)) := by
            show World.ownsRow _ _ _ _ _ _ _
            rw [HTK.out, flat_snoc, HZC.out]; exact hown9
          clear hgA hown9 hgrow9 hat9 hg9
          go_wp2_with fail
          go_roundw
          case rel => exact ⟨k + 1, _, _, by omega, by go_num, rfl, HO9, HAN2, HG9⟩
          case measure => simp [intOf]; omega
end Go.Proofs.YtmppccnioiodgabGreatDoor
