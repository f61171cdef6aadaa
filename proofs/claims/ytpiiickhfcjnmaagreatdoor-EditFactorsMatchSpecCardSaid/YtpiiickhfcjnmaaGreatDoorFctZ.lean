/- Several texts laid into one: Generated (gen/fct.py): the contract of edit.Factor; Generated (gen/fct.py): the contract of the reference's Factor; -/
import Derived.Test.YtpiiickhfcjnmaaGreatDoorPlnA
import Derived.Test.YtpiiickhfcjnmaaGreatDoorVal
import Derived.Test.YtpiiickhfcjnmaaGreatDoorNatY
import Derived.Test.YtpiiickhfcjnmaaGreatDoorCliA
import Derived.Test.YtpiiickhfcjnmaaGreatDoorValR
import Derived.Test.YtpiiickhfcjnmaaGreatDoorNumY
import Derived.Test.YtpiiickhfcjnmaaGreatDoorCliR
/- Generated (gen/fct.py): the contract of edit.Factor. -/
namespace Go.Proofs.YtpiiickhfcjnmaaGreatDoor
open Go.RowKit Go.Dw
attribute [local go_sem ↓] Go.wp_at_zero Go.wp_at_succ

/-- a ratio's texts and a fault -/
def FctR (r : List UInt8 × List UInt8 × Int) (w : World) (e : Ending) (w' : World) : Prop := e = .returned (.tuple #[.agg #[.string ⟨r.1.toArray⟩, .string ⟨r.2.1.toArray⟩], .int .i64 r.2.2]) ∧ Below w.heap.size w w'
/-- how long the numbers of a factor are -/
theorem valQ_lim {e : List Pnt} {ln i : Int} (h : envF ln e = 0) (hl : ln ≤ 100000) (hi : 0 ≤ i ∧ i < 100000) : RLim 300 (valQ e i) := by
  obtain ⟨h1, h2, h3⟩ := envF_ok h
  have hg : ∀ k, k < e.length → RLim 40 (ratQ (e.getD k dPnt)) ∧ 0 ≤ (e.getD k dPnt).at_ ∧ (e.getD k dPnt).at_ < ln := fun k hk => by
    have hm : e.getD k dPnt ∈ e := by rw [List.getD_eq_getElem?_getD, List.getElem?_eq_getElem hk]; exact List.getElem_mem hk
    have hp := h3 _ hm
    exact ⟨(pnt_lim hp).1, hp.a⟩
  unfold valQ
  split
  · exact (hg 0 h1).1.mono (by omega)
  · split
    · exact (hg _ (by omega)).1.mono (by omega)
    · rename_i q1 q2
      have hle := lowP_le e i
      obtain ⟨a1, a2, a3⟩ := hg (lowP e i - 1) (by omega)
      obtain ⟨b1, b2, b3⟩ := hg (lowP e i) (by omega)
      unfold segQ
      have hd : RLim 81 (ratQ (e.getD (lowP e i) dPnt) - ratQ (e.getD (lowP e i - 1) dPnt)) := (RLim.sub b1 a1).mono (by omega)
      have hinc := envF_inc h (lowP e i - 1) (by omega)
      rw [show lowP e i - 1 + 1 = lowP e i by omega] at hinc
      generalize (e.getD (lowP e i) dPnt) = q at *
      generalize (e.getD (lowP e i - 1) dPnt) = p at *
      have hm : RLim 81 (mkRat (i - p.at_) (q.at_ - p.at_).toNat) := by
        have g1 : Lim 1 (i - p.at_).natAbs := by unfold Lim; rw [Nat.pow_one]; have : W32 = 4294967296 := rfl; omega
        have g2 : Lim 1 (q.at_ - p.at_).toNat := by unfold Lim; rw [Nat.pow_one]; have : W32 = 4294967296 := rfl; omega
        exact (RLim.mk g1 g2 (by omega)).mono (by omega)
      exact (RLim.add a1 (RLim.mul hd hm)).mono (by omega)
set_option maxRecDepth 100000 in
set_option maxHeartbeats 8000000 in
theorem factor_any (x : CliM) (i : Int) (w : World) (h : CliOk w x) (hi : inI64 i) :
    Calls Tryz.prog 13 #[x.v, .int .i64 i] w (FctR (facF isNm x.x i) w) := by
  obtain ⟨xm, xc, xf, xt, xa, xl, ⟨EA, ed, es⟩⟩ := x
  obtain ⟨el, hel⟩ : ∃ el, es.length = el := ⟨_, rfl⟩
  obtain ⟨X, hX⟩ : ∃ X, (⟨xm, xc, xf, xt, xa, xl, ⟨EA, ed, es⟩⟩ : CliM) = X := ⟨_, rfl⟩
  have hxv : X.v = .agg #[.string xm, .int .i64 xc, .int .i64 xf, .int .i64 xt, .int .i64 xa, .int .i64 xl, .slice EA el ed] := by rw [← hX, ← hel]; rfl
  have hxx : X.x.e = es ∧ X.x.ln = xl ∧ X.ln = xl ∧ X.e.xs = es := by rw [← hX]; exact ⟨rfl, rfl, rfl, rfl⟩
  rw [hX] at h ⊢
  rw [hxv]
  obtain ⟨wa, hwa⟩ : ∃ wa, wa = w.alloc (.cells #[.string xm, .int .i64 xc, .int .i64 xf, .int .i64 xt, .int .i64 xa, .int .i64 xl, .slice EA el ed] 36) := ⟨_, rfl⟩
  obtain ⟨w1, hw1⟩ : ∃ w1, w1 = wa.alloc (.cells #[.string ⟨#[]⟩, .string ⟨#[]⟩] 38) := ⟨_, rfl⟩
  have z1 : wa.heap.size = w.heap.size + 1 := by rw [hwa]; simp
  have ba : Gq w wa := by rw [hwa]; exact (Gq.refl _).alloc _
  have bc : Gq wa w1 := by rw [hw1]; exact (Gq.refl _).alloc _
  have HB1 : Hid (Gq w w1) := ba.trans bc
  have HKA : Hid (Blk w1 w.heap.size 36 [.string xm, .int .i64 xc, .int .i64 xf, .int .i64 xt, .int .i64 xa, .int .i64 xl, .slice EA el ed]) := by
    refine blk_gq (?_ : Blk wa w.heap.size _ _) bc; rw [hwa]; exact Blk.new w _ _
  have HKB : Hid (Blk w1 (w.heap.size + 1) 38 [.string ⟨#[]⟩, .string ⟨#[]⟩]) := by
    rw [hw1, ← z1]; exact Blk.new wa _ _
  have HX : Hid (∀ W, Gq w1 W → CliOk W X) := fun W hW => (h.below HB1.out).below hW
  have HCK : Hid (∀ W, Gq w1 W → Calls Tryz.prog 31 #[.agg #[.string xm, .int .i64 xc, .int .i64 xf, .int .i64 xt, .int .i64 xa, .int .i64 xl, .slice EA el ed], .int .i64 16] W fun e w' => e = .returned (.int .i64 (cliF isNm 16 X.x)) ∧ Gq W w') := fun W hW => by rw [← hxv]; exact cli_any X 16 W (HX.out W hW)
  have HVA : Hid (∀ W, Gq w1 W → envF xl es = 0 → xl ≤ 100000 → 0 ≤ i ∧ i < 100000 → Calls Tryz.prog 33 #[.agg #[.string xm, .int .i64 xc, .int .i64 xf, .int .i64 xt, .int .i64 xa, .int .i64 xl, .slice EA el ed], .int .i64 i] W fun e w' => ∃ v, e = .returned v ∧ RatV w' v (valQ es i) ∧ Gq W w') := fun W hW h1 h2 h3 => by rw [← hxv]; have := valueE_any X i W (HX.out W hW) (by rw [hxx.2.2.1, hxx.2.2.2]; exact h1) (by rw [hxx.2.2.1]; exact h2) h3; rw [hxx.2.2.2] at this; exact this
  have HWR : Hid (∀ W v, Gq w1 W → RLim 300 (valQ es i) → RatV W v (valQ es i) → Calls Tryz.prog 32 #[v] W fun e w' => e = .returned (.agg #[.string ⟨(topT (valQ es i)).toArray⟩, .string ⟨(botT (valQ es i)).toArray⟩]) ∧ Gq W w') := fun W v hW h1 h2 => written_any v _ W h2 300 h1 (by omega)
  have HCE : Hid (∀ W, Gq w1 W → W.cell? ⟨w.heap.size, 0, none⟩ = some (.string xm) ∧ W.cell? ⟨w.heap.size, 1, none⟩ = some (.int .i64 xc) ∧ W.cell? ⟨w.heap.size, 2, none⟩ = some (.int .i64 xf) ∧ W.cell? ⟨w.heap.size, 3, none⟩ = some (.int .i64 xt) ∧ W.cell? ⟨w.heap.size, 4, none⟩ = some (.int .i64 xa) ∧ W.cell? ⟨w.heap.size, 5, none⟩ = some (.int .i64 xl) ∧ W.cell? ⟨w.heap.size, 6, none⟩ = some (.slice EA el ed) ∧ W.cell? ⟨w.heap.size + 1, 0, none⟩ = some (.string ⟨#[]⟩) ∧ W.cell? ⟨w.heap.size + 1, 1, none⟩ = some (.string ⟨#[]⟩) ∧ W.frozen? ⟨w.heap.size + 1, 0, none⟩ = false ∧ W.frozen? ⟨w.heap.size + 1, 1, none⟩ = false) := fun W hW => by
    have k1 := blk_gq HKA.out hW
    have k2 := blk_gq HKB.out hW
    exact ⟨k1.cell 0, k1.cell 1, k1.cell 2, k1.cell 3, k1.cell 4, k1.cell 5, k1.cell 6, k2.cell 0, k2.cell 1, k2.frozen 0, k2.frozen 1⟩
  have HEND : Hid (∀ W x y, Gq w1 W → (((W.setCell ⟨w.heap.size + 1, 0, none⟩ x).setCell ⟨w.heap.size + 1, 1, none⟩ y).cell? ⟨w.heap.size + 1, 0, none⟩ = some x ∧ ((W.setCell ⟨w.heap.size + 1, 0, none⟩ x).setCell ⟨w.heap.size + 1, 1, none⟩ y).cell? ⟨w.heap.size + 1, 1, none⟩ = some y) ∧ Below w.heap.size w ((W.setCell ⟨w.heap.size + 1, 0, none⟩ x).setCell ⟨w.heap.size + 1, 1, none⟩ y)) := fun W x y hW => by
    have k2 := ((blk_gq HKB.out hW).set_ 0 x).set_ 1 y
    refine ⟨⟨k2.cell 0, k2.cell 1⟩, ?_⟩
    exact ((HB1.out.trans hW).set (p := ⟨w.heap.size + 1, 0, none⟩) (by show w.heap.size ≤ w.heap.size + 1; omega) x).set (p := ⟨w.heap.size + 1, 1, none⟩) (by show w.heap.size ≤ w.heap.size + 1; omega) y
  obtain ⟨f, hf⟩ : ∃ f, cliF isNm 16 X.x = f := ⟨_, rfl⟩
  rw [hf] at HCK
  have HBAD : Hid (f ≠ 0 → facF isNm X.x i = ([], [], f)) := fun h => by rw [← hf] at h ⊢; exact facF_bad h
  have HRNG : Hid (f = 0 → i < 0 ∨ xl ≤ i → facF isNm X.x i = ([], [], 1)) := fun h h2 => facF_rng (hf.trans h) (by rw [hxx.2.1]; exact h2)
  have HOK : Hid (f = 0 → 0 ≤ i ∧ i < xl → facF isNm X.x i = (topT (valQ es i), botT (valQ es i), 0)) := fun h h2 => by rw [facF_ok (hf.trans h) (by rw [hxx.2.1]; exact h2), hxx.1]
  have HZ : Hid (f = 0 → xl ≤ 100000 ∧ envF xl es = 0 ∧ 1 ≤ xl) := fun h => by have := cliF_zero (hf.trans h); rw [hxx.1, hxx.2.1] at this; exact this
  have hln := h.ln
  rw [hxx.2.2.1] at hln
  obtain ⟨hn1, hn2⟩ := hln
  obtain ⟨hi1, hi2⟩ := hi
  obtain ⟨c0, c1, c2, c3, c4, c5, c6, c7, c8, c9, c10⟩ := HCE.out w1 (Gq.refl _)
  have HC1 := Lib.hid (HCK.out w1 (Gq.refl _))
  rw [hwa] at hw1
  have HW1 := Lib.hid hw1
  clear hw1 hwa h hf ba bc z1 HKA HKB HX HCK hX hxv hxx hel
  by_cases hf0 : f = 0
  case neg =>
    rw [HBAD.out hf0]
    have hfb : (f != 0) = true := by simpa using hf0
    clear hf0 HVA HWR HOK HRNG HZ HBAD
    go_enter Tryz.func13, Tryz.ntmps13
    go_upto_region 1 with (fail)
    rw [← HW1.out]
    go_wp2_with fail
    refine HC1.out.mono ?_
    rintro e w2 ⟨rfl, hb2⟩
    have HG2 : Hid (Gq w1 w2) := hb2
    obtain ⟨-, -, -, -, -, -, -, d7, d8, d9, d10⟩ := HCE.out w2 HG2.out
    obtain ⟨⟨k2, k3⟩, hb⟩ := HEND.out w2 (.string ⟨#[]⟩) (.string ⟨#[]⟩) HG2.out
    have HB := Lib.hid hb
    clear hb hb2 c0 c1 c2 c3 c4 c5 c6 c7 c8 c9 c10
    go_wp2_with fail
    exact bodyPost_ret (v := .tuple #[.agg #[.string ⟨#[]⟩, .string ⟨#[]⟩], .int .i64 f]) (by simp [results, Tryz.results13, go_sem, k2, k3]) rfl ⟨rfl, HB.out⟩
  case pos =>
    subst hf0
    obtain ⟨hl1, hl2, hl3⟩ := HZ.out rfl
    have hwl : IntKind.i64.wrap (xl - 1) = xl - 1 := IntWalk.i64_in _ (by omega)
    by_cases hr : i < 0 ∨ xl ≤ i
    · rw [HRNG.out rfl hr]
      have hcs : decide (i < 0) = true ∨ (decide (i < 0) = false ∧ decide (xl ≤ i) = true) := by
        by_cases q : i < 0
        · exact .inl (decide_eq_true q)
        · exact .inr ⟨decide_eq_false q, decide_eq_true (by omega)⟩
      clear hr HVA HWR HOK HRNG HZ HBAD hl1 hl2 hl3
      rcases hcs with h1 | ⟨h1, h2⟩
      all_goals
        go_enter Tryz.func13, Tryz.ntmps13
        go_upto_region 1 with (fail)
        rw [← HW1.out]
        go_wp2_with fail
        refine HC1.out.mono ?_
        rintro e w2 ⟨rfl, hb2⟩
        have HG2 : Hid (Gq w1 w2) := hb2
        obtain ⟨-, -, -, -, -, d5, -, d7, d8, d9, d10⟩ := HCE.out w2 HG2.out
        obtain ⟨⟨k2, k3⟩, hb⟩ := HEND.out w2 (.string ⟨#[]⟩) (.string ⟨#[]⟩) HG2.out
        have HB := Lib.hid hb
        clear hb hb2 c0 c1 c2 c3 c4 c5 c6 c7 c8 c9 c10
        go_wp2_with fail
        exact bodyPost_ret (v := .tuple #[.agg #[.string ⟨#[]⟩, .string ⟨#[]⟩], .int .i64 1]) (by simp [results, Tryz.results13, go_sem, k2, k3]) rfl ⟨rfl, HB.out⟩
    · have hr1 : 0 ≤ i ∧ i < xl := by omega
      rw [HOK.out rfl hr1]
      have h1 : decide (i < 0) = false := decide_eq_false (by omega)
      have h2 : decide (xl ≤ i) = false := decide_eq_false (by omega)
      have HV2 : Hid (∀ W, Gq w1 W → Calls Tryz.prog 33 #[.agg #[.string xm, .int .i64 xc, .int .i64 xf, .int .i64 xt, .int .i64 xa, .int .i64 xl, .slice EA el ed], .int .i64 i] W fun e w' => ∃ v, e = .returned v ∧ RatV w' v (valQ es i) ∧ Gq W w') := fun W hW => HVA.out W hW hl2 hl1 ⟨hr1.1, by omega⟩
      have HLV : Hid (RLim 300 (valQ es i)) := valQ_lim hl2 hl1 ⟨hr1.1, by omega⟩
      have HW2 : Hid (∀ W v, Gq w1 W → RatV W v (valQ es i) → Calls Tryz.prog 32 #[v] W fun e w' => e = .returned (.agg #[.string ⟨(topT (valQ es i)).toArray⟩, .string ⟨(botT (valQ es i)).toArray⟩]) ∧ Gq W w') := fun W v hW h3 => HWR.out W v hW HLV.out h3
      clear hr HVA HWR HOK HRNG HZ HBAD hl1 hl2 hl3 hr1 HLV
      go_enter Tryz.func13, Tryz.ntmps13
      go_upto_region 1 with (fail)
      rw [← HW1.out]
      go_wp2_with fail
      refine HC1.out.mono ?_
      rintro e w2 ⟨rfl, hb2⟩
      have HG2 : Hid (Gq w1 w2) := hb2
      obtain ⟨d0, d1, d2, d3, d4, d5, d6, -, -, -, -⟩ := HCE.out w2 HG2.out
      clear hb2 c0 c1 c2 c3 c4 c5 c6 c7 c8 c9 c10 HC1
      go_wp2_with fail
      refine (HV2.out w2 HG2.out).mono ?_
      rintro e w3 ⟨v, rfl, hv, hb3⟩
      have HG3 : Hid (Gq w1 w3) := HG2.out.trans hb3
      have HV3 := Lib.hid (HW2.out w3 v HG3.out hv)
      obtain ⟨s0, A0, L0, z0, B0, M0, z1, rfl⟩ := rat_agg hv
      clear hv hb3 d0 d1 d2 d3 d4 d6 HV2 HW2
      go_wp2_with fail
      refine HV3.out.mono ?_
      rintro e w4 ⟨rfl, hb4⟩
      have HG4 : Hid (Gq w1 w4) := HG3.out.trans hb4
      obtain ⟨-, -, -, -, -, -, -, d7, d8, d9, d10⟩ := HCE.out w4 HG4.out
      generalize topT (valQ es i) = tt at *
      generalize botT (valQ es i) = tb at *
      obtain ⟨⟨k2, k3⟩, hb⟩ := HEND.out w4 (.string ⟨tt.toArray⟩) (.string ⟨tb.toArray⟩) HG4.out
      have HB := Lib.hid hb
      clear hb hb4 HV3 d5
      go_wp2_with fail
      exact bodyPost_ret (v := .tuple #[.agg #[.string ⟨tt.toArray⟩, .string ⟨tb.toArray⟩], .int .i64 0]) (by simp [results, Tryz.results13, go_sem, k2, k3]) rfl ⟨rfl, HB.out⟩
end Go.Proofs.YtpiiickhfcjnmaaGreatDoor
/- Generated (gen/fct.py): the contract of the reference's Factor. -/
namespace Go.Proofs.YtpiiickhfcjnmaaGreatDoor
open Go.RowKit Go.Dw
attribute [local go_sem ↓] Go.wp_at_zero Go.wp_at_succ

set_option maxRecDepth 100000 in
set_option maxHeartbeats 8000000 in
theorem factorR_any (x : CliM) (i : Int) (w : World) (h : CliOk w x) (hi : inI64 i) (hp : HasPow w) :
    Calls Tryz.prog 14 #[x.v, .int .i64 i] w (FctR (facF isNm x.x i) w) := by
  obtain ⟨xm, xc, xf, xt, xa, xl, ⟨EA, ed, es⟩⟩ := x
  obtain ⟨el, hel⟩ : ∃ el, es.length = el := ⟨_, rfl⟩
  obtain ⟨X, hX⟩ : ∃ X, (⟨xm, xc, xf, xt, xa, xl, ⟨EA, ed, es⟩⟩ : CliM) = X := ⟨_, rfl⟩
  have hxv : X.v = .agg #[.string xm, .int .i64 xc, .int .i64 xf, .int .i64 xt, .int .i64 xa, .int .i64 xl, .slice EA el ed] := by rw [← hX, ← hel]; rfl
  have hxx : X.x.e = es ∧ X.x.ln = xl ∧ X.ln = xl ∧ X.e.xs = es := by rw [← hX]; exact ⟨rfl, rfl, rfl, rfl⟩
  rw [hX] at h ⊢
  rw [hxv]
  obtain ⟨wa, hwa⟩ : ∃ wa, wa = w.alloc (.cells #[.string xm, .int .i64 xc, .int .i64 xf, .int .i64 xt, .int .i64 xa, .int .i64 xl, .slice EA el ed] 36) := ⟨_, rfl⟩
  obtain ⟨w1, hw1⟩ : ∃ w1, w1 = wa.alloc (.cells #[.string ⟨#[]⟩, .string ⟨#[]⟩] 38) := ⟨_, rfl⟩
  have z1 : wa.heap.size = w.heap.size + 1 := by rw [hwa]; simp
  have ba : Gq w wa := by rw [hwa]; exact (Gq.refl _).alloc _
  have bc : Gq wa w1 := by rw [hw1]; exact (Gq.refl _).alloc _
  have HB1 : Hid (Gq w w1) := ba.trans bc
  have HKA : Hid (Blk w1 w.heap.size 36 [.string xm, .int .i64 xc, .int .i64 xf, .int .i64 xt, .int .i64 xa, .int .i64 xl, .slice EA el ed]) := by
    refine blk_gqr (?_ : Blk wa w.heap.size _ _) bc; rw [hwa]; exact Blk.new w _ _
  have HKB : Hid (Blk w1 (w.heap.size + 1) 38 [.string ⟨#[]⟩, .string ⟨#[]⟩]) := by
    rw [hw1, ← z1]; exact Blk.new wa _ _
  have HX : Hid (∀ W, Gq w1 W → CliOk W X) := fun W hW => (h.below HB1.out).below hW
  have HP : Hid (∀ W, Gq w1 W → HasPow W) := fun W hW => (hp.below HB1.out).below hW
  have HCK : Hid (∀ W, Gq w1 W → Calls Tryz.prog 34 #[.agg #[.string xm, .int .i64 xc, .int .i64 xf, .int .i64 xt, .int .i64 xa, .int .i64 xl, .slice EA el ed], .int .i64 16] W fun e w' => e = .returned (.int .i64 (cliF isNm 16 X.x)) ∧ Gq W w') := fun W hW => by rw [← hxv]; exact cliR_any X 16 W (HX.out W hW) (by omega) (HP.out W hW)
  have HVA : Hid (∀ W, Gq w1 W → envF xl es = 0 → xl ≤ 100000 → 0 ≤ i ∧ i < 100000 → Calls Tryz.prog 36 #[.agg #[.string xm, .int .i64 xc, .int .i64 xf, .int .i64 xt, .int .i64 xa, .int .i64 xl, .slice EA el ed], .int .i64 i] W fun e w' => ∃ v, e = .returned v ∧ NumQ w' v (valQ es i) ∧ Gq W w') := fun W hW h1 h2 h3 => by rw [← hxv]; have := valueR_any X i W (HX.out W hW) (by rw [hxx.2.2.1, hxx.2.2.2]; exact h1) (by rw [hxx.2.2.1]; exact h2) h3 (HP.out W hW); rw [hxx.2.2.2] at this; exact this
  have HWR : Hid (∀ W v, Gq w1 W → RLim 300 (valQ es i) → NumQ W v (valQ es i) → Calls Tryz.prog 35 #[v] W fun e w' => e = .returned (.agg #[.string ⟨(topT (valQ es i)).toArray⟩, .string ⟨(botT (valQ es i)).toArray⟩]) ∧ Gq W w') := fun W v hW h1 h2 => outQ_any v _ W h2 300 h1 (by omega) (HP.out W hW)
  have HCE : Hid (∀ W, Gq w1 W → W.cell? ⟨w.heap.size, 0, none⟩ = some (.string xm) ∧ W.cell? ⟨w.heap.size, 1, none⟩ = some (.int .i64 xc) ∧ W.cell? ⟨w.heap.size, 2, none⟩ = some (.int .i64 xf) ∧ W.cell? ⟨w.heap.size, 3, none⟩ = some (.int .i64 xt) ∧ W.cell? ⟨w.heap.size, 4, none⟩ = some (.int .i64 xa) ∧ W.cell? ⟨w.heap.size, 5, none⟩ = some (.int .i64 xl) ∧ W.cell? ⟨w.heap.size, 6, none⟩ = some (.slice EA el ed) ∧ W.cell? ⟨w.heap.size + 1, 0, none⟩ = some (.string ⟨#[]⟩) ∧ W.cell? ⟨w.heap.size + 1, 1, none⟩ = some (.string ⟨#[]⟩) ∧ W.frozen? ⟨w.heap.size + 1, 0, none⟩ = false ∧ W.frozen? ⟨w.heap.size + 1, 1, none⟩ = false) := fun W hW => by
    have k1 := blk_gqr HKA.out hW
    have k2 := blk_gqr HKB.out hW
    exact ⟨k1.cell 0, k1.cell 1, k1.cell 2, k1.cell 3, k1.cell 4, k1.cell 5, k1.cell 6, k2.cell 0, k2.cell 1, k2.frozen 0, k2.frozen 1⟩
  have HEND : Hid (∀ W x y, Gq w1 W → (((W.setCell ⟨w.heap.size + 1, 0, none⟩ x).setCell ⟨w.heap.size + 1, 1, none⟩ y).cell? ⟨w.heap.size + 1, 0, none⟩ = some x ∧ ((W.setCell ⟨w.heap.size + 1, 0, none⟩ x).setCell ⟨w.heap.size + 1, 1, none⟩ y).cell? ⟨w.heap.size + 1, 1, none⟩ = some y) ∧ Below w.heap.size w ((W.setCell ⟨w.heap.size + 1, 0, none⟩ x).setCell ⟨w.heap.size + 1, 1, none⟩ y)) := fun W x y hW => by
    have k2 := ((blk_gqr HKB.out hW).set_ 0 x).set_ 1 y
    refine ⟨⟨k2.cell 0, k2.cell 1⟩, ?_⟩
    exact ((HB1.out.trans hW).set (p := ⟨w.heap.size + 1, 0, none⟩) (by show w.heap.size ≤ w.heap.size + 1; omega) x).set (p := ⟨w.heap.size + 1, 1, none⟩) (by show w.heap.size ≤ w.heap.size + 1; omega) y
  obtain ⟨f, hf⟩ : ∃ f, cliF isNm 16 X.x = f := ⟨_, rfl⟩
  rw [hf] at HCK
  have HBAD : Hid (f ≠ 0 → facF isNm X.x i = ([], [], f)) := fun h => by rw [← hf] at h ⊢; exact facF_bad h
  have HRNG : Hid (f = 0 → i < 0 ∨ xl ≤ i → facF isNm X.x i = ([], [], 1)) := fun h h2 => facF_rng (hf.trans h) (by rw [hxx.2.1]; exact h2)
  have HOK : Hid (f = 0 → 0 ≤ i ∧ i < xl → facF isNm X.x i = (topT (valQ es i), botT (valQ es i), 0)) := fun h h2 => by rw [facF_ok (hf.trans h) (by rw [hxx.2.1]; exact h2), hxx.1]
  have HZ : Hid (f = 0 → xl ≤ 100000 ∧ envF xl es = 0 ∧ 1 ≤ xl) := fun h => by have := cliF_zero (hf.trans h); rw [hxx.1, hxx.2.1] at this; exact this
  have hln := h.ln
  rw [hxx.2.2.1] at hln
  obtain ⟨hn1, hn2⟩ := hln
  obtain ⟨hi1, hi2⟩ := hi
  obtain ⟨c0, c1, c2, c3, c4, c5, c6, c7, c8, c9, c10⟩ := HCE.out w1 (Gq.refl _)
  have HC1 := Lib.hid (HCK.out w1 (Gq.refl _))
  rw [hwa] at hw1
  have HW1 := Lib.hid hw1
  clear hw1 hwa h hf ba bc z1 HKA HKB HX HCK hX hxv hxx hel
  by_cases hf0 : f = 0
  case neg =>
    rw [HBAD.out hf0]
    have hfb : (f != 0) = true := by simpa using hf0
    clear hf0 HVA HWR HOK HRNG HZ HBAD
    go_enter Tryz.func14, Tryz.ntmps14
    go_upto_region 1 with (fail)
    rw [← HW1.out]
    go_wp2_with fail
    refine HC1.out.mono ?_
    rintro e w2 ⟨rfl, hb2⟩
    have HG2 : Hid (Gq w1 w2) := hb2
    obtain ⟨-, -, -, -, -, -, -, d7, d8, d9, d10⟩ := HCE.out w2 HG2.out
    obtain ⟨⟨k2, k3⟩, hb⟩ := HEND.out w2 (.string ⟨#[]⟩) (.string ⟨#[]⟩) HG2.out
    have HB := Lib.hid hb
    clear hb hb2 c0 c1 c2 c3 c4 c5 c6 c7 c8 c9 c10
    go_wp2_with fail
    exact bodyPost_ret (v := .tuple #[.agg #[.string ⟨#[]⟩, .string ⟨#[]⟩], .int .i64 f]) (by simp [results, Tryz.results14, go_sem, k2, k3]) rfl ⟨rfl, HB.out⟩
  case pos =>
    subst hf0
    obtain ⟨hl1, hl2, hl3⟩ := HZ.out rfl
    have hwl : IntKind.i64.wrap (xl - 1) = xl - 1 := IntWalk.i64_in _ (by omega)
    by_cases hr : i < 0 ∨ xl ≤ i
    · rw [HRNG.out rfl hr]
      have hcs : decide (i < 0) = true ∨ (decide (i < 0) = false ∧ decide (xl - 1 < i) = true) := by
        by_cases q : i < 0
        · exact .inl (decide_eq_true q)
        · exact .inr ⟨decide_eq_false q, decide_eq_true (by omega)⟩
      clear hr HVA HWR HOK HRNG HZ HBAD hl1 hl2 hl3
      rcases hcs with h1 | ⟨h1, h2⟩
      all_goals
        go_enter Tryz.func14, Tryz.ntmps14
        go_upto_region 1 with (fail)
        rw [← HW1.out]
        go_wp2_with fail
        refine HC1.out.mono ?_
        rintro e w2 ⟨rfl, hb2⟩
        have HG2 : Hid (Gq w1 w2) := hb2
        obtain ⟨-, -, -, -, -, d5, -, d7, d8, d9, d10⟩ := HCE.out w2 HG2.out
        obtain ⟨⟨k2, k3⟩, hb⟩ := HEND.out w2 (.string ⟨#[]⟩) (.string ⟨#[]⟩) HG2.out
        have HB := Lib.hid hb
        clear hb hb2 c0 c1 c2 c3 c4 c5 c6 c7 c8 c9 c10
        go_wp2_with fail
        exact bodyPost_ret (v := .tuple #[.agg #[.string ⟨#[]⟩, .string ⟨#[]⟩], .int .i64 1]) (by simp [results, Tryz.results14, go_sem, k2, k3]) rfl ⟨rfl, HB.out⟩
    · have hr1 : 0 ≤ i ∧ i < xl := by omega
      rw [HOK.out rfl hr1]
      have h1 : decide (i < 0) = false := decide_eq_false (by omega)
      have h2 : decide (xl - 1 < i) = false := decide_eq_false (by omega)
      have HV2 : Hid (∀ W, Gq w1 W → Calls Tryz.prog 36 #[.agg #[.string xm, .int .i64 xc, .int .i64 xf, .int .i64 xt, .int .i64 xa, .int .i64 xl, .slice EA el ed], .int .i64 i] W fun e w' => ∃ v, e = .returned v ∧ NumQ w' v (valQ es i) ∧ Gq W w') := fun W hW => HVA.out W hW hl2 hl1 ⟨hr1.1, by omega⟩
      have HLV : Hid (RLim 300 (valQ es i)) := valQ_lim hl2 hl1 ⟨hr1.1, by omega⟩
      have HW2 : Hid (∀ W v, Gq w1 W → NumQ W v (valQ es i) → Calls Tryz.prog 35 #[v] W fun e w' => e = .returned (.agg #[.string ⟨(topT (valQ es i)).toArray⟩, .string ⟨(botT (valQ es i)).toArray⟩]) ∧ Gq W w') := fun W v hW h3 => HWR.out W v hW HLV.out h3
      clear hr HVA HWR HOK HRNG HZ HBAD hl1 hl2 hl3 hr1 HLV
      go_enter Tryz.func14, Tryz.ntmps14
      go_upto_region 1 with (fail)
      rw [← HW1.out]
      go_wp2_with fail
      refine HC1.out.mono ?_
      rintro e w2 ⟨rfl, hb2⟩
      have HG2 : Hid (Gq w1 w2) := hb2
      obtain ⟨d0, d1, d2, d3, d4, d5, d6, -, -, -, -⟩ := HCE.out w2 HG2.out
      clear hb2 c0 c1 c2 c3 c4 c5 c6 c7 c8 c9 c10 HC1
      go_wp2_with fail
      refine (HV2.out w2 HG2.out).mono ?_
      rintro e w3 ⟨v, rfl, hv, hb3⟩
      have HG3 : Hid (Gq w1 w3) := HG2.out.trans hb3
      have HV3 := Lib.hid (HW2.out w3 v HG3.out hv)
      obtain ⟨A0, L0, z0, B0, M0, z1, rfl, -, -⟩ := num_agg hv
      clear hv hb3 d0 d1 d2 d3 d4 d6 HV2 HW2
      go_wp2_with fail
      refine HV3.out.mono ?_
      rintro e w4 ⟨rfl, hb4⟩
      have HG4 : Hid (Gq w1 w4) := HG3.out.trans hb4
      obtain ⟨-, -, -, -, -, -, -, d7, d8, d9, d10⟩ := HCE.out w4 HG4.out
      generalize topT (valQ es i) = tt at *
      generalize botT (valQ es i) = tb at *
      obtain ⟨⟨k2, k3⟩, hb⟩ := HEND.out w4 (.string ⟨tt.toArray⟩) (.string ⟨tb.toArray⟩) HG4.out
      have HB := Lib.hid hb
      clear hb hb4 HV3 d5
      go_wp2_with fail
      exact bodyPost_ret (v := .tuple #[.agg #[.string ⟨tt.toArray⟩, .string ⟨tb.toArray⟩], .int .i64 0]) (by simp [results, Tryz.results14, go_sem, k2, k3]) rfl ⟨rfl, HB.out⟩
end Go.Proofs.YtpiiickhfcjnmaaGreatDoor
