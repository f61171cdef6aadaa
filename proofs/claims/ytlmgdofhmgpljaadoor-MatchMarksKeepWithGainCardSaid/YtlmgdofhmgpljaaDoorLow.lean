/- The contract of the reference's lowest. -/
import Derived.Test.YtlmgdofhmgpljaaDoorNumW
namespace Go.Proofs.YtlmgdofhmgpljaaDoor
open Go.RowKit Go.Dw
attribute [local go_sem ↓] Go.wp_at_zero Go.wp_at_succ

/-- a number is put into the result's box -/
structure NumE (w w1 : World) (g : Nat) : Prop where
  bel : Below w.heap.size w w1
  le : w.heap.size ≤ g
  nb : NB 48 w1 g
theorem NumE.cells {w w1 W : World} {g : Nat} (h : NumE w w1 g) (hW : Gq w1 W) : ∃ x y z, W.cell? ⟨g, 0, none⟩ = some x ∧ W.cell? ⟨g, 1, none⟩ = some y ∧ W.cell? ⟨g, 2, none⟩ = some z ∧ W.frozen? ⟨g, 0, none⟩ = false ∧ W.frozen? ⟨g, 1, none⟩ = false ∧ W.frozen? ⟨g, 2, none⟩ = false := (h.nb.gq hW).cells
theorem NumE.stored {w w1 W : World} {g : Nat} (h : NumE w w1 g) (hW : Gq w1 W) (x y z : Value) :
    (((W.setCell ⟨g, 0, none⟩ x).setCell ⟨g, 1, none⟩ y).setCell ⟨g, 2, none⟩ z).cell? ⟨g, 0, none⟩ = some x ∧ (((W.setCell ⟨g, 0, none⟩ x).setCell ⟨g, 1, none⟩ y).setCell ⟨g, 2, none⟩ z).cell? ⟨g, 1, none⟩ = some y ∧ (((W.setCell ⟨g, 0, none⟩ x).setCell ⟨g, 1, none⟩ y).setCell ⟨g, 2, none⟩ z).cell? ⟨g, 2, none⟩ = some z := by
  have := (h.nb.gq hW).store (x := x) (y := y) (z := z)
  exact ⟨this.cell 0, this.cell 1, this.cell 2⟩
theorem NumE.end_ {w w1 W : World} {g : Nat} (h : NumE w w1 g) (hW : Gq w1 W) (x y z : Value) {q : Rat} (hq : NumQ W (.agg #[x, y, z]) q) :
    NumRes q w (.returned (.agg #[x, y, z])) (((W.setCell ⟨g, 0, none⟩ x).setCell ⟨g, 1, none⟩ y).setCell ⟨g, 2, none⟩ z) :=
  ⟨_, rfl, (h.nb.gq hW).num (otr3 _ _ _ _ _) hq, gq_set3r (h.bel.trans (Below.mono hW h.bel.size)) h.le _ _ _⟩
theorem numE_new (w : World) : NumE w (w.alloc (.cells #[.bool false, .slice none 0 0, .slice none 0 0] 48)) w.heap.size :=
  ⟨(Below.refl _ _).alloc (Nat.le_refl _) _, Nat.le_refl _, NB.new _ _ (noI_bool _) (noI_slice _ _ _) (noI_slice _ _ _)⟩
theorem alloc_set3 (w : World) (o : Obj) (g : Nat) (h : g < w.heap.size) (x y z : Value) :
    (((w.alloc o).setCell ⟨g, 0, none⟩ x).setCell ⟨g, 1, none⟩ y).setCell ⟨g, 2, none⟩ z = (((w.setCell ⟨g, 0, none⟩ x).setCell ⟨g, 1, none⟩ y).setCell ⟨g, 2, none⟩ z).alloc o := by
  rw [World.setCell_alloc_past _ _ _ _ h, World.setCell_alloc_past _ _ _ _ (by simpa [World.setCell] using h), World.setCell_alloc_past _ _ _ _ (by simpa [World.setCell] using h)]
set_option maxRecDepth 100000 in
set_option maxHeartbeats 8000000 in
theorem lowestR_any (sg : Bool) (va vb : Value) (a b : Nat) (z : Int) (w : World) (h : LimV w va a) (g : LimV w vb b) (hb : 0 < b) (hz : z.natAbs = a) (hs : 0 < a → sg = decide (z < 0))
    (k : Nat) (hk : Lim k a) (gk : Lim k b) (hk2 : k ≤ 100000000) :
    Calls Tryd.prog 31 #[.bool sg, va, vb] w (NumRes (mkRat z b) w) := by
  obtain ⟨w1, hw1⟩ : ∃ w1, w1 = w.alloc (.cells #[.bool false, .slice none 0 0, .slice none 0 0] 48) := ⟨_, rfl⟩
  have HE : Hid (NumE w w1 w.heap.size) := by rw [hw1]; exact numE_new w
  have HW1 := Lib.hid hw1
  clear hw1
  obtain ⟨A, c, L, rfl, hL⟩ := lim_slice h
  obtain ⟨B, M, d, rfl⟩ := lim_form g
  have HU : Hid (∀ W, Gq w1 W → LimV W (.slice A L c) a ∧ LimV W (.slice B M d) b) := fun W hW => ⟨(h.below HE.out.bel).below hW, (g.below HE.out.bel).below hW⟩
  have HF := Lib.hid (fun s W (hq : NumR W s (decide (z < 0)) (a / Nat.gcd a b) (b / Nat.gcd a b)) => numQ_mk hb hz rfl hq)
  have HK := Lib.hid (And.intro hk (And.intro gk (And.intro hk2 hb)))
  have HS := Lib.hid hs
  have HZ := Lib.hid hz
  obtain ⟨x0, x1, x2, q0, q1, q2, q3, q4, q5⟩ := HE.out.cells (Gq.refl _)
  clear h g hk gk hk2 hs hz
  by_cases h0 : a = 0
  · have hL0 : L = 0 := hL.2 h0
    subst hL0
    have hg1 : Gq w1 (w1.alloc (.cells #[.int .i64 1] 3)) := (Gq.refl _).alloc _
    obtain ⟨k2, k3, k4⟩ := HE.out.stored hg1 (.bool false) (.slice none 0 0) (.slice (some ⟨w1.heap.size, 0, none⟩) 1 1)
    have hq : NumQ (w1.alloc (.cells #[.int .i64 1] 3)) (.agg #[.bool false, .slice none 0 0, .slice (some ⟨w1.heap.size, 0, none⟩) 1 1]) (mkRat z b) := by
      refine HF.out _ _ ?_
      have hz0 : decide (z < 0) = false := by have := HZ.out; rw [h0] at this; exact decide_eq_false (by omega)
      rw [hz0, h0, Nat.gcd_zero_left, Nat.zero_div, Nat.div_self hb]
      exact ⟨_, _, rfl, ⟨none, 0, [], rfl, .inl rfl, Nm.nil, rfl⟩, lim_one w1⟩
    have hws : w.heap.size < w1.heap.size := HE.out.nb.lt
    have hqe := HE.out.end_ hg1 _ _ _ hq
    rw [alloc_set3 _ _ _ hws] at k2 k3 k4 hqe
    have HQ := Lib.hid hqe
    have hd : ((0 : Int) == 0) = true := rfl
    clear hq hg1 hqe
    go_enter Tryd.func31, Tryd.ntmps31
    go_upto_region 1 with (fail)
    rw [← HW1.out]
    go_wp2_with fail
    exact bodyPost_ret (v := .agg #[.bool false, .slice none 0 0, .slice (some ⟨w1.heap.size, 0, none⟩) 1 1]) (by simp [results, Tryd.results31, go_sem, k2, k3, k4]) rfl HQ.out
  · have hLn : L ≠ 0 := fun e => h0 (hL.1 e)
    have hd : ((L : Int) == 0) = false := by rw [beq_eq_false_iff_ne]; omega
    have HCM := Lib.hid (commonR_any _ _ a b w1 (HU.out w1 (Gq.refl _)).1 (HU.out w1 (Gq.refl _)).2 k HK.out.1 HK.out.2.1 HK.out.2.2.1)
    obtain ⟨G, hG⟩ : ∃ G, Nat.gcd a b = G := ⟨_, rfl⟩
    rw [hG] at HCM
    have hGp : 0 < G := by rw [← hG]; exact Nat.gcd_pos_of_pos_right _ hb
    have HGL : Hid (Lim k G) := by show Lim k G; rw [← hG]; exact HK.out.2.1.le (Nat.le_of_dvd hb (Nat.gcd_dvd_right _ _))
    have HF2 : Hid (∀ W A L c B M d, LimV W (.slice A L c) (a / G) → LimV W (.slice B M d) (b / G) → NumQ W (.agg #[.bool sg, .slice A L c, .slice B M d]) (mkRat z b)) := fun W A L c B M d h1 h2 => by
      refine HF.out _ _ ?_
      rw [hG, ← HS.out (by omega)]
      exact ⟨_, _, rfl, h1, h2⟩
    have h11 : Lim 1 1 := by unfold Lim; rw [Nat.pow_one]; decide
    have HL1 : Hid (k = 0 ∨ Lim k 1) := by
      rcases Nat.eq_zero_or_pos k with e | e
      · exact .inl e
      · exact .inr (h11.mono e)
    clear hG hL HZ HS HF
    go_enter Tryd.func31, Tryd.ntmps31
    go_upto_region 1 with (fail)
    rw [← HW1.out]
    go_wp2_with fail
    refine HCM.out.mono ?_
    rintro e w2 ⟨v, rfl, hv, hb2⟩
    obtain ⟨C, N, f, rfl⟩ := lim_form hv
    have HG2 : Hid (Gq w1 w2) := hb2
    have HV := Lib.hid hv
    clear hv hb2 HCM
    have HGA : Hid (Gq w2 (w2.alloc (.cells #[.int .i64 1] 3))) := (Gq.refl _).alloc _
    obtain ⟨cr, hcr⟩ : ∃ cr, cmpN G 1 = cr := ⟨_, rfl⟩
    have HCP : Hid (Calls Tryd.prog 26 #[.slice C N f, .slice (some ⟨w2.heap.size, 0, none⟩) 1 1] (w2.alloc (.cells #[.int .i64 1] 3)) fun e W => e = .returned (.int .i64 cr) ∧ Gq w2 W) := by
      have := cmpR_any (.slice C N f) (.slice (some ⟨w2.heap.size, 0, none⟩) 1 1) G 1 _ (HV.out.below HGA.out) (lim_one w2) (k + 1) (HGL.out.mono (by omega)) (h11.mono (by omega)) (by have := HK.out.2.2.1; omega)
      unfold CmpRes at this
      rw [hcr] at this
      exact this.mono fun e W ⟨h1, h2⟩ => ⟨h1, HGA.out.trans h2.below⟩
    have HCR : Hid ((cr == 0) = decide (G = 1)) := by
      show _ = _
      rw [← hcr]
      rcases Nat.lt_trichotomy G 1 with q | q | q
      · rw [cmpN_lt q, decide_eq_false (by omega)]; rfl
      · rw [q, cmpN_eq]; rfl
      · rw [cmpN_gt q, decide_eq_false (by omega)]; rfl
    clear hcr
    go_wp2_with fail
    refine HCP.out.mono ?_
    rintro e w3 ⟨rfl, hg3⟩
    have HG3 : Hid (Gq w1 w3) := HG2.out.trans hg3
    have HG23 : Hid (Gq w2 w3) := hg3
    clear hg3 HCP HGA
    by_cases hG1 : G = 1
    · have hcb : (cr == 0) = true := by rw [HCR.out]; exact decide_eq_true hG1
      obtain ⟨y0, y1, y2, r0, r1, r2, r3, r4, r5⟩ := HE.out.cells HG3.out
      obtain ⟨k2, k3, k4⟩ := HE.out.stored HG3.out (.bool sg) (.slice A L c) (.slice B M d)
      have HQ := Lib.hid (HE.out.end_ HG3.out _ _ _ (HF2.out w3 A L c B M d (by rw [hG1, Nat.div_one]; exact (HU.out w3 HG3.out).1) (by rw [hG1, Nat.div_one]; exact (HU.out w3 HG3.out).2)))
      clear hG1
      go_wp2_with fail
      exact bodyPost_ret (v := .agg #[.bool sg, .slice A L c, .slice B M d]) (by simp [results, Tryd.results31, go_sem, k2, k3, k4]) rfl HQ.out
    · have hcb : (cr == 0) = false := by rw [HCR.out]; exact decide_eq_false hG1
      have HDA := Lib.hid (divideR_any (.slice A L c) (.slice C N f) a G w3 (HU.out w3 HG3.out).1 (HV.out.below HG23.out) hGp k k HK.out.1 HGL.out HK.out.2.2.1 HK.out.2.2.1)
      go_wp2_with fail
      refine HDA.out.mono ?_
      rintro e w4 ⟨v1, v2, rfl, hv1, -, hb4⟩
      obtain ⟨A1, L1, c1, rfl⟩ := lim_form hv1
      have HG4 : Hid (Gq w1 w4) := HG3.out.trans hb4
      have HDB := Lib.hid (divideR_any (.slice B M d) (.slice C N f) b G w4 (HU.out w4 HG4.out).2 (HV.out.below (HG23.out.trans hb4)) hGp k k HK.out.2.1 HGL.out HK.out.2.2.1 HK.out.2.2.1)
      have HV1 := Lib.hid hv1
      clear hv1 hb4 HDA
      go_wp2_with fail
      refine HDB.out.mono ?_
      rintro e w5 ⟨v3, v4, rfl, hv3, -, hb5⟩
      obtain ⟨A2, L2, c2, rfl⟩ := lim_form hv3
      have HG5 : Hid (Gq w1 w5) := HG4.out.trans hb5
      obtain ⟨y0, y1, y2, r0, r1, r2, r3, r4, r5⟩ := HE.out.cells HG5.out
      obtain ⟨k2, k3, k4⟩ := HE.out.stored HG5.out (.bool sg) (.slice A1 L1 c1) (.slice A2 L2 c2)
      have HQ := Lib.hid (HE.out.end_ HG5.out _ _ _ (HF2.out w5 A1 L1 c1 A2 L2 c2 (HV1.out.below hb5) hv3))
      clear hv3 hb5 HDB
      go_wp2_with fail
      exact bodyPost_ret (v := .agg #[.bool sg, .slice A1 L1 c1, .slice A2 L2 c2]) (by simp [results, Tryd.results31, go_sem, k2, k3, k4]) rfl HQ.out
end Go.Proofs.YtlmgdofhmgpljaaDoor
