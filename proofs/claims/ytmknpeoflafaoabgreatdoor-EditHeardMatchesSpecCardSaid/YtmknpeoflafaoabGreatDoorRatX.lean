/- Several texts laid into one: Generated (gen/ratf.py): the contract of num.Rat's Mul; Generated (gen/ratf.py): the contract of num.Rat's Add; Generated (gen/ratf.py): the contract of num.Rat's Sub; The contract of num.Frac, where what divides is above 0; Quotients in boxes: what a store into another box leaves; -/
import Derived.Test.YtmknpeoflafaoabGreatDoorIntZ
import Derived.Test.YtmknpeoflafaoabGreatDoorRatZ
import Derived.Test.YtmknpeoflafaoabGreatDoorFac
import Derived.Test.YtmknpeoflafaoabGreatDoorNumB
/- Generated (gen/ratf.py): the contract of num.Rat's Mul. -/
namespace Go.Proofs.YtmknpeoflafaoabGreatDoor
open Go.RowKit Go.Dw
attribute [local go_sem ↓] Go.wp_at_zero Go.wp_at_succ

theorem laterI {w w' : World} {v : Value} {n : Int} (h : Hid (IntV w v n)) (k : Hid (Below w.heap.size w w')) : IntV w' v n := IntV.below h.out k.out
/-- two quotients in boxes, and the result's box -/
theorem boxR (w : World) (sa sb : Bool) (A A' B B' : Option Addr) (L L' M M' c c' d d' : Nat) :
    Box w (((w.alloc (.cells #[.bool sa, .slice A L c, .slice A' L' c'] 47)).alloc (.cells #[.bool sb, .slice B M d, .slice B' M' d'] 47)).alloc (.cells #[.bool false, .slice none 0 0, .slice none 0 0] 47)) (w.heap.size + 1 + 1) 47 [.bool false, .slice none 0 0, .slice none 0 0] ∧
    Blk (((w.alloc (.cells #[.bool sa, .slice A L c, .slice A' L' c'] 47)).alloc (.cells #[.bool sb, .slice B M d, .slice B' M' d'] 47)).alloc (.cells #[.bool false, .slice none 0 0, .slice none 0 0] 47)) w.heap.size 47 [.bool sa, .slice A L c, .slice A' L' c'] ∧
    Blk (((w.alloc (.cells #[.bool sa, .slice A L c, .slice A' L' c'] 47)).alloc (.cells #[.bool sb, .slice B M d, .slice B' M' d'] 47)).alloc (.cells #[.bool false, .slice none 0 0, .slice none 0 0] 47)) (w.heap.size + 1) 47 [.bool sb, .slice B M d, .slice B' M' d'] := by
  obtain ⟨wa, hwa⟩ : ∃ wa, wa = w.alloc (.cells #[.bool sa, .slice A L c, .slice A' L' c'] 47) := ⟨_, rfl⟩
  obtain ⟨wb, hwb⟩ : ∃ wb, wb = wa.alloc (.cells #[.bool sb, .slice B M d, .slice B' M' d'] 47) := ⟨_, rfl⟩
  have z1 : wa.heap.size = w.heap.size + 1 := by rw [hwa]; simp
  have z2 : wb.heap.size = w.heap.size + 1 + 1 := by rw [hwb]; simp [z1]
  have b1 : Below w.heap.size w wa := by rw [hwa]; exact (Below.refl _ _).alloc (Nat.le_refl _) _
  have b2 : Below w.heap.size w wb := by rw [hwb]; exact b1.alloc b1.size _
  have k1 : Blk wa w.heap.size 47 [.bool sa, .slice A L c, .slice A' L' c'] := by rw [hwa]; exact Blk.new w _ _
  have k2 : Blk wb (w.heap.size + 1) 47 [.bool sb, .slice B M d, .slice B' M' d'] := by rw [hwb, ← z1]; exact Blk.new wa _ _
  have k3 : Blk wb w.heap.size 47 [.bool sa, .slice A L c, .slice A' L' c'] := by rw [hwb]; exact k1.same (Same.alloc (S := fun _ => True) _ _) trivial
  rw [← hwa, ← hwb]
  refine ⟨⟨b2.alloc b2.size _, by omega, ?_, fun c hc m => by simp at hc; rcases hc with rfl | rfl <;> simp⟩, k3.same (Same.alloc (S := fun _ => True) _ _) trivial, k2.same (Same.alloc (S := fun _ => True) _ _) trivial⟩
  have := Blk.new wb 47 [.bool false, .slice none 0 0, .slice none 0 0]
  rw [z2] at this
  exact this
set_option maxRecDepth 100000 in
set_option maxHeartbeats 16000000 in
theorem mulQ_any (va vb : Value) (p q : Rat) (w : World) (h : RatV w va p) (g : RatV w vb q) (k : Nat) (hk : RLim k p) (gk : RLim k q) (hk2 : k + k ≤ 549755813888) :
    Calls Tryz.prog 35 #[va, vb] w (RatRes (p * q) w) := by
  obtain ⟨R, hR⟩ : ∃ R, p * q = R := ⟨_, rfl⟩
  have HR : Hid (mkRat (p.num * q.num) (p.den * q.den) = R) := by show _ = _; rw [← hR, ← Rat.mkRat_mul_mkRat, mk_self, mk_self]
  rw [hR]
  clear hR
  obtain ⟨u, x, rfl, hu, hx, hpd⟩ := h
  obtain ⟨u', y, rfl, gu, gy, hqd⟩ := g
  obtain ⟨sa, hsa⟩ : ∃ s, decide (p.num < 0) = s := ⟨_, rfl⟩
  obtain ⟨sb, hsb⟩ : ∃ s, decide (q.num < 0) = s := ⟨_, rfl⟩
  rw [hsa, hsb]
  have HSA := Lib.hid hsa
  have HSB := Lib.hid hsb
  clear hsa hsb
  obtain ⟨A, L, c, rfl⟩ := slice_nat hu
  obtain ⟨A', L', c', rfl⟩ := slice_nat hx
  obtain ⟨B, M, d, rfl⟩ := slice_nat gu
  obtain ⟨B', M', d', rfl⟩ := slice_nat gy
  obtain ⟨w1, hw1⟩ : ∃ w1, w1 = ((w.alloc (.cells #[.bool sa, .slice A L c, .slice A' L' c'] 47)).alloc (.cells #[.bool sb, .slice B M d, .slice B' M' d'] 47)).alloc (.cells #[.bool false, .slice none 0 0, .slice none 0 0] 47) := ⟨_, rfl⟩
  obtain ⟨hbx, hk0, hk1⟩ := boxR w sa sb A A' B B' L L' M M' c c' d d'
  rw [← hw1] at hbx hk0 hk1
  have HB : Hid (Box w w1 (w.heap.size + 1 + 1) 47 [.bool false, .slice none 0 0, .slice none 0 0]) := hbx
  have hz2 : w.heap.size + 1 + 1 ≤ w1.heap.size := by have := hbx.blk.lt; omega
  have HS : Hid (∀ W, Gv (w.heap.size + 1 + 1) w1 W → W.cell? ⟨w.heap.size, 0, none⟩ = some (.bool sa) ∧ W.cell? ⟨w.heap.size, 1, none⟩ = some (.slice A L c) ∧ W.cell? ⟨w.heap.size, 2, none⟩ = some (.slice A' L' c') ∧ W.cell? ⟨w.heap.size + 1, 0, none⟩ = some (.bool sb) ∧ W.cell? ⟨w.heap.size + 1, 1, none⟩ = some (.slice B M d) ∧ W.cell? ⟨w.heap.size + 1, 2, none⟩ = some (.slice B' M' d') ∧ Gv (w.heap.size + 1 + 1) w1 W) := fun W hW => by
    have c0 := (Below.block hW _ (by omega)).trans hk0
    have c1 := (Below.block hW _ (by omega)).trans hk1
    have e0 : Blk W w.heap.size 47 [.bool sa, .slice A L c, .slice A' L' c'] := c0
    have e1 : Blk W (w.heap.size + 1) 47 [.bool sb, .slice B M d, .slice B' M' d'] := c1
    exact ⟨e0.cell 0, e0.cell 1, e0.cell 2, e1.cell 0, e1.cell 1, e1.cell 2, hW⟩
  have HCE : Hid (∀ W, Gw w1 W → W.cell? ⟨w.heap.size + 1 + 1, 0, none⟩ = some (.bool false) ∧ W.cell? ⟨w.heap.size + 1 + 1, 1, none⟩ = some (.slice none 0 0) ∧ W.cell? ⟨w.heap.size + 1 + 1, 2, none⟩ = some (.slice none 0 0) ∧ W.frozen? ⟨w.heap.size + 1 + 1, 0, none⟩ = false ∧ W.frozen? ⟨w.heap.size + 1 + 1, 1, none⟩ = false ∧ W.frozen? ⟨w.heap.size + 1 + 1, 2, none⟩ = false) := fun W hW =>
    ⟨(HB.out.at_ hW 0).1, (HB.out.at_ hW 1).1, (HB.out.at_ hW 2).1, (HB.out.at_ hW 0).2, (HB.out.at_ hW 1).2, (HB.out.at_ hW 2).2⟩
  have HU : Hid (∀ W, Gw w1 W → NatV W (.slice A L c) p.num.natAbs ∧ NatV W (.slice A' L' c') p.den ∧ NatV W (.slice B M d) q.num.natAbs ∧ NatV W (.slice B' M' d') q.den) := fun W hW =>
    ⟨(hu.below HB.out.bel).below hW, (hx.below HB.out.bel).below hW, (gu.below HB.out.bel).below hW, (gy.below HB.out.bel).below hW⟩
  have HI : Hid (∀ W, Gw w1 W → IntV W (.agg #[.bool sa, .slice A L c]) p.num ∧ IntV W (.agg #[.bool sb, .slice B M d]) q.num) := fun W hW =>
    ⟨⟨_, by rw [HSA.out], (HU.out W hW).1⟩, ⟨_, by rw [HSB.out], (HU.out W hW).2.2.1⟩⟩
  have HW1 := Lib.hid hw1
  have hne : w.heap.size ≠ w.heap.size + 1 := by omega
  have hne2 : w.heap.size ≠ w.heap.size + 1 + 1 := by omega
  have hne3 : w.heap.size + 1 ≠ w.heap.size + 1 + 1 := by omega
  have HK := Lib.hid (And.intro hk gk)
  clear hw1 hu hx gu gy hk gk hbx hk0 hk1
  have HMI : Hid (∀ W, Gw w1 W → Calls Tryz.prog 29 #[.agg #[.bool sa, .slice A L c], .agg #[.bool sb, .slice B M d]] W fun e W' => ∃ s C N f, e = .returned (.agg #[.bool s, .slice C N f]) ∧ Hid (IntV W' (.agg #[.bool s, .slice C N f]) (p.num * q.num)) ∧ Hid (Below W.heap.size W W') ∧ Gw w1 W') := fun W hW =>
    (mulI_any _ _ p.num q.num W (HI.out W hW).1 (HI.out W hW).2 k k HK.out.1.1 HK.out.2.1 hk2).mono fun e W' ⟨v, h1, h2, h3⟩ => by
      obtain ⟨u, rfl, h4⟩ := h2
      obtain ⟨C, N, f, rfl⟩ := slice_nat h4
      exact ⟨_, C, N, f, h1, ⟨_, rfl, h4⟩, h3, hW.step h3⟩
  have HMN : Hid (∀ W, Gw w1 W → Calls Tryz.prog 30 #[.slice A' L' c', .slice B' M' d'] W fun e W' => ∃ D O g, e = .returned (.slice D O g) ∧ Hid (NatV W' (.slice D O g) (p.den * q.den)) ∧ Hid (Below W.heap.size W W') ∧ Gw w1 W') := fun W hW =>
    (mulN_any _ _ p.den q.den W (HU.out W hW).2.1 (HU.out W hW).2.2.2 k k HK.out.1.2 HK.out.2.2 hk2).mono fun e W' ⟨v, h1, h3, h4⟩ => by
      obtain ⟨D, O, g, rfl⟩ := slice_nat h3
      exact ⟨D, O, g, h1, h3, h4, hW.step h4⟩
  have HOV : Hid (∀ W s C N f D O g, Gw w1 W → IntV W (.agg #[.bool s, .slice C N f]) (p.num * q.num) → NatV W (.slice D O g) (p.den * q.den) → Calls Tryz.prog 27 #[.agg #[.bool s, .slice C N f], .slice D O g] W fun e W' => ∃ s2 A1 L1 c1 A2 L2 c2, e = .returned (.agg #[.bool s2, .slice A1 L1 c1, .slice A2 L2 c2]) ∧ Hid (RawV W' (.agg #[.bool s2, .slice A1 L1 c1, .slice A2 L2 c2]) R.num R.den) ∧ Gw w1 W') := fun W s C N f D O g hW h1 h2 =>
    (over_any _ _ (p.num * q.num) (p.den * q.den) W h1 h2 (k + k) (lim_mulI HK.out.1.1 HK.out.2.1) (HK.out.1.2.mul HK.out.2.2) hk2 (Nat.mul_pos hpd hqd)).mono fun e W' ⟨v, h1, h2, h3⟩ => by
      rw [HR.out] at h2
      obtain ⟨u2, b2, h5, h6, h7, h8⟩ := h2
      obtain ⟨A1, L1, c1, rfl⟩ := slice_nat h6
      obtain ⟨A2, L2, c2, rfl⟩ := slice_nat h7
      exact ⟨_, A1, L1, c1, A2, L2, c2, by rw [h1, h5], ⟨_, _, rfl, h6, h7, h8⟩, hW.step h3⟩
  have hqB : Gw w1 w1 := Gw.refl _
  have hBD : Gw w1 w1.drew := (Gw.refl _).drew
  go_enter Tryz.func35, Tryz.ntmps35
  go_upto_region 1 with (fail)
  rw [← HW1.out]
  go_region_held3 (fun W => W.cell? ⟨w.heap.size, 0, none⟩ = some (.bool sa) ∧ W.cell? ⟨w.heap.size, 1, none⟩ = some (.slice A L c) ∧ W.cell? ⟨w.heap.size, 2, none⟩ = some (.slice A' L' c') ∧ W.cell? ⟨w.heap.size + 1, 0, none⟩ = some (.bool sb) ∧ W.cell? ⟨w.heap.size + 1, 1, none⟩ = some (.slice B M d) ∧ W.cell? ⟨w.heap.size + 1, 2, none⟩ = some (.slice B' M' d') ∧ Gv (w.heap.size + 1 + 1) w1 W)
    (first | exact HS.out _ (hBD.gv hz2) | exact HS.out _ (hqB.gv hz2) | exact HS.out _ ((((hqB.gv hz2).set ⟨w.heap.size + 1 + 1, 0, none⟩ (Nat.le_refl _) _).set ⟨w.heap.size + 1 + 1, 1, none⟩ (Nat.le_refl _) _).set ⟨w.heap.size + 1 + 1, 2, none⟩ (Nat.le_refl _) _))
    (first | (go_at_call 29; (with_reducible refine (HMI.out _ (by first | exact hBD | assumption)).mono ?_); rintro e w' ⟨s, C, N, f, rfl, hi, hbw, hqB⟩; obtain ⟨q0, q1, q2, q3, q4, q5⟩ := HCE.out _ hqB) | (go_at_call 30; (with_reducible refine (HMN.out _ (by first | exact hBD | assumption)).mono ?_); rintro e w' ⟨D, O, g, rfl, hn, hbw, hqB⟩; obtain ⟨q0, q1, q2, q3, q4, q5⟩ := HCE.out _ hqB) | (go_at_call 27; (with_reducible refine (HOV.out _ _ _ _ _ _ _ _ (by assumption) (by first | exact Hid.out (by assumption) | exact laterI (by assumption) (by assumption)) (by first | exact Hid.out (by assumption) | exact later (by assumption) (by assumption))).mono ?_); rintro e w' ⟨s2, A1, L1, c1, A2, L2, c2, rfl, hRaw, hqB⟩; obtain ⟨q0, q1, q2, q3, q4, q5⟩ := HCE.out _ hqB))
  all_goals
    obtain ⟨k1, ⟨k2, k3, k4⟩, k5⟩ := HB.out.store3 (W := w') hqB HB.out.bel.size (.bool s2) (.slice A1 L1 c1) (.slice A2 L2 c2)
    obtain ⟨uu, bb, hE, hE1, hE2, hE3⟩ := Hid.out hRaw
    obtain ⟨rfl, rfl, rfl⟩ : Value.slice A1 L1 c1 = uu ∧ Value.slice A2 L2 c2 = bb ∧ s2 = decide (R.num < 0) := by
      injection hE with hE
      simp only [Array.mk.injEq, List.cons.injEq, and_true] at hE
      obtain ⟨e1, e2, e3⟩ := hE
      injection e1 with e1
      exact ⟨e2, e3, e1⟩
    have HE1 := Lib.hid hE1
    have HE2 := Lib.hid hE2
    have HK1 := Lib.hid k1
    have HK5 := Lib.hid k5
    clear hE hE1 hE2 k1 k5 hRaw
    go_wp2_with fail
    refine bodyPost_ret (v := .agg #[.bool (decide (R.num < 0)), .slice A1 L1 c1, .slice A2 L2 c2]) (by simp [results, Tryz.results35, go_sem, k2, k3, k4]) rfl ⟨_, rfl, ⟨.slice A1 L1 c1, .slice A2 L2 c2, rfl, HK5.out _ _ HE1.out, HK5.out _ _ HE2.out, hE3⟩, HK1.out⟩
end Go.Proofs.YtmknpeoflafaoabGreatDoor
/- Generated (gen/ratf.py): the contract of num.Rat's Add. -/
namespace Go.Proofs.YtmknpeoflafaoabGreatDoor
open Go.RowKit Go.Dw
attribute [local go_sem ↓] Go.wp_at_zero Go.wp_at_succ

theorem add_same {p q : Rat} (h : p.den = q.den) : mkRat (p.num + q.num) p.den = p + q := by
  have h1 : mkRat p.num p.den + mkRat q.num q.den = mkRat (p.num * q.den + q.num * p.den) (p.den * q.den) := Rat.mkRat_add_mkRat _ _ p.den_nz q.den_nz
  rw [mk_self, mk_self] at h1
  rw [h1, ← h, Rat.mkRat_eq_iff p.den_nz (Nat.mul_ne_zero p.den_nz p.den_nz), ← Int.add_mul]
  rw [Int.natCast_mul, Int.mul_assoc]
theorem add_diff (p q : Rat) : mkRat (p.num * q.den + q.num * p.den) (p.den * q.den) = p + q := by
  have h1 : mkRat p.num p.den + mkRat q.num q.den = mkRat (p.num * q.den + q.num * p.den) (p.den * q.den) := Rat.mkRat_add_mkRat _ _ p.den_nz q.den_nz
  rw [← h1, mk_self, mk_self]
set_option maxRecDepth 100000 in
set_option maxHeartbeats 16000000 in
theorem addQ_any (va vb : Value) (p q : Rat) (w : World) (h : RatV w va p) (g : RatV w vb q) (k : Nat) (hk : RLim k p) (gk : RLim k q) (hk2 : k + k + 1 ≤ 549755813888) :
    Calls Tryz.prog 10 #[va, vb] w (RatRes (p + q) w) := by
  obtain ⟨R, hR⟩ : ∃ R, p + q = R := ⟨_, rfl⟩
  have HRS := Lib.hid (fun h => add_same (p := p) (q := q) h)
  have HRD := Lib.hid (add_diff p q)
  rw [hR] at HRS HRD ⊢
  clear hR
  have hk3 := hk2
  replace hk2 : k + k ≤ 549755813888 := by omega
  obtain ⟨u, x, rfl, hu, hx, hpd⟩ := h
  obtain ⟨u', y, rfl, gu, gy, hqd⟩ := g
  obtain ⟨sa, hsa⟩ : ∃ s, decide (p.num < 0) = s := ⟨_, rfl⟩
  obtain ⟨sb, hsb⟩ : ∃ s, decide (q.num < 0) = s := ⟨_, rfl⟩
  rw [hsa, hsb]
  have HSA := Lib.hid hsa
  have HSB := Lib.hid hsb
  clear hsa hsb
  obtain ⟨A, L, c, rfl⟩ := slice_nat hu
  obtain ⟨A', L', c', rfl⟩ := slice_nat hx
  obtain ⟨B, M, d, rfl⟩ := slice_nat gu
  obtain ⟨B', M', d', rfl⟩ := slice_nat gy
  obtain ⟨w1, hw1⟩ : ∃ w1, w1 = ((w.alloc (.cells #[.bool sa, .slice A L c, .slice A' L' c'] 47)).alloc (.cells #[.bool sb, .slice B M d, .slice B' M' d'] 47)).alloc (.cells #[.bool false, .slice none 0 0, .slice none 0 0] 47) := ⟨_, rfl⟩
  obtain ⟨hbx, hk0, hk1⟩ := boxR w sa sb A A' B B' L L' M M' c c' d d'
  rw [← hw1] at hbx hk0 hk1
  have HB : Hid (Box w w1 (w.heap.size + 1 + 1) 47 [.bool false, .slice none 0 0, .slice none 0 0]) := hbx
  have hz2 : w.heap.size + 1 + 1 ≤ w1.heap.size := by have := hbx.blk.lt; omega
  have HS : Hid (∀ W, Gv (w.heap.size + 1 + 1) w1 W → W.cell? ⟨w.heap.size, 0, none⟩ = some (.bool sa) ∧ W.cell? ⟨w.heap.size, 1, none⟩ = some (.slice A L c) ∧ W.cell? ⟨w.heap.size, 2, none⟩ = some (.slice A' L' c') ∧ W.cell? ⟨w.heap.size + 1, 0, none⟩ = some (.bool sb) ∧ W.cell? ⟨w.heap.size + 1, 1, none⟩ = some (.slice B M d) ∧ W.cell? ⟨w.heap.size + 1, 2, none⟩ = some (.slice B' M' d') ∧ Gv (w.heap.size + 1 + 1) w1 W) := fun W hW => by
    have c0 := (Below.block hW _ (by omega)).trans hk0
    have c1 := (Below.block hW _ (by omega)).trans hk1
    have e0 : Blk W w.heap.size 47 [.bool sa, .slice A L c, .slice A' L' c'] := c0
    have e1 : Blk W (w.heap.size + 1) 47 [.bool sb, .slice B M d, .slice B' M' d'] := c1
    exact ⟨e0.cell 0, e0.cell 1, e0.cell 2, e1.cell 0, e1.cell 1, e1.cell 2, hW⟩
  have HCE : Hid (∀ W, Gw w1 W → W.cell? ⟨w.heap.size + 1 + 1, 0, none⟩ = some (.bool false) ∧ W.cell? ⟨w.heap.size + 1 + 1, 1, none⟩ = some (.slice none 0 0) ∧ W.cell? ⟨w.heap.size + 1 + 1, 2, none⟩ = some (.slice none 0 0) ∧ W.frozen? ⟨w.heap.size + 1 + 1, 0, none⟩ = false ∧ W.frozen? ⟨w.heap.size + 1 + 1, 1, none⟩ = false ∧ W.frozen? ⟨w.heap.size + 1 + 1, 2, none⟩ = false) := fun W hW =>
    ⟨(HB.out.at_ hW 0).1, (HB.out.at_ hW 1).1, (HB.out.at_ hW 2).1, (HB.out.at_ hW 0).2, (HB.out.at_ hW 1).2, (HB.out.at_ hW 2).2⟩
  have HU : Hid (∀ W, Gw w1 W → NatV W (.slice A L c) p.num.natAbs ∧ NatV W (.slice A' L' c') p.den ∧ NatV W (.slice B M d) q.num.natAbs ∧ NatV W (.slice B' M' d') q.den) := fun W hW =>
    ⟨(hu.below HB.out.bel).below hW, (hx.below HB.out.bel).below hW, (gu.below HB.out.bel).below hW, (gy.below HB.out.bel).below hW⟩
  have HI : Hid (∀ W, Gw w1 W → IntV W (.agg #[.bool sa, .slice A L c]) p.num ∧ IntV W (.agg #[.bool sb, .slice B M d]) q.num) := fun W hW =>
    ⟨⟨_, by rw [HSA.out], (HU.out W hW).1⟩, ⟨_, by rw [HSB.out], (HU.out W hW).2.2.1⟩⟩
  have HW1 := Lib.hid hw1
  have hne : w.heap.size ≠ w.heap.size + 1 := by omega
  have hne2 : w.heap.size ≠ w.heap.size + 1 + 1 := by omega
  have hne3 : w.heap.size + 1 ≠ w.heap.size + 1 + 1 := by omega
  have HK := Lib.hid (And.intro hk gk)
  clear hw1 hu hx gu gy hk gk hbx hk0 hk1
  have HD : Hid (∀ W, Gw w1 W → IntV W (.agg #[.bool false, .slice A' L' c']) (p.den : Int) ∧ IntV W (.agg #[.bool false, .slice B' M' d']) (q.den : Int)) := fun W hW =>
    ⟨⟨_, by rw [decide_eq_false (by omega)], by simpa using (HU.out W hW).2.1⟩, ⟨_, by rw [decide_eq_false (by omega)], by simpa using (HU.out W hW).2.2.2⟩⟩
  have HCM : Hid (∀ W, Gw w1 W → Calls Tryz.prog 26 #[.slice A' L' c', .slice B' M' d'] W fun e W' => e = .returned (.int .i64 (cmpN p.den q.den)) ∧ Gw w1 W') := fun W hW =>
    (cmpN_any _ _ p.den q.den W (HU.out W hW).2.1 (HU.out W hW).2.2.2 k HK.out.1.2 HK.out.2.2 (by omega)).mono fun e W' ⟨h1, h2⟩ => ⟨h1, hW.step h2.below⟩
  have hqB0 : Gw w1 w1 := Gw.refl _
  obtain ⟨a0, a1, a2, b0, b1, b2, -⟩ := HS.out w1 (hqB0.gv hz2)
  by_cases hd : p.den = q.den
  · have HR := Lib.hid (HRS.out hd)
    have hcm : ((cmpN p.den q.den : Int) == 0) = true := by rw [hd, cmpN_eq]; rfl
    have HAI : Hid (∀ W, Gw w1 W → Calls Tryz.prog 28 #[.agg #[.bool sa, .slice A L c], .agg #[.bool sb, .slice B M d]] W fun e W' => ∃ s C N f, e = .returned (.agg #[.bool s, .slice C N f]) ∧ Hid (IntV W' (.agg #[.bool s, .slice C N f]) (p.num + q.num)) ∧ Hid (Below W.heap.size W W') ∧ Gw w1 W') := fun W hW =>
      (addI_any _ _ p.num q.num W (HI.out W hW).1 (HI.out W hW).2 k HK.out.1.1 HK.out.2.1 (by omega)).mono fun e W' ⟨v, h1, h2, h3⟩ => by
        obtain ⟨u, rfl, h4⟩ := h2
        obtain ⟨C, N, f, rfl⟩ := slice_nat h4
        exact ⟨_, C, N, f, h1, ⟨_, rfl, h4⟩, h3, hW.step h3⟩
    have HOV : Hid (∀ W s C N f D O g, Gw w1 W → IntV W (.agg #[.bool s, .slice C N f]) (p.num + q.num) → NatV W (.slice D O g) (p.den) → Calls Tryz.prog 27 #[.agg #[.bool s, .slice C N f], .slice D O g] W fun e W' => ∃ s2 A1 L1 c1 A2 L2 c2, e = .returned (.agg #[.bool s2, .slice A1 L1 c1, .slice A2 L2 c2]) ∧ Hid (RawV W' (.agg #[.bool s2, .slice A1 L1 c1, .slice A2 L2 c2]) R.num R.den) ∧ Gw w1 W') := fun W s C N f D O g hW h1 h2 =>
      (over_any _ _ (p.num + q.num) (p.den) W h1 h2 (max k k + 1) (lim_addI HK.out.1.1 HK.out.2.1) (HK.out.1.2.mono (by omega)) (by omega) hpd).mono fun e W' ⟨v, h1, h2, h3⟩ => by
        rw [HR.out] at h2
        obtain ⟨u2, b2, h5, h6, h7, h8⟩ := h2
        obtain ⟨A1, L1, c1, rfl⟩ := slice_nat h6
        obtain ⟨A2, L2, c2, rfl⟩ := slice_nat h7
        exact ⟨_, A1, L1, c1, A2, L2, c2, by rw [h1, h5], ⟨_, _, rfl, h6, h7, h8⟩, hW.step h3⟩
    clear hd
    generalize cmpN p.den q.den = cr at *
    go_enter Tryz.func10, Tryz.ntmps10
    go_upto_region 1 with (fail)
    rw [← HW1.out]
    go_wp2_with fail
    refine (HCM.out w1 hqB0).mono ?_
    rintro e w2 ⟨rfl, hqC⟩
    go_upto_region 2 with (fail)
    have hBD : Gw w1 w2.drew := hqC.drew
    have hqB : Gw w1 w2 := hqC
    clear a0 a1 a2 b0 b1 b2
    go_region_held3 (fun W => W.cell? ⟨w.heap.size, 0, none⟩ = some (.bool sa) ∧ W.cell? ⟨w.heap.size, 1, none⟩ = some (.slice A L c) ∧ W.cell? ⟨w.heap.size, 2, none⟩ = some (.slice A' L' c') ∧ W.cell? ⟨w.heap.size + 1, 0, none⟩ = some (.bool sb) ∧ W.cell? ⟨w.heap.size + 1, 1, none⟩ = some (.slice B M d) ∧ W.cell? ⟨w.heap.size + 1, 2, none⟩ = some (.slice B' M' d') ∧ Gv (w.heap.size + 1 + 1) w1 W)
      (first | exact HS.out _ (hBD.gv hz2) | exact HS.out _ (hqB.gv hz2) | exact HS.out _ ((((hqB.gv hz2).set ⟨w.heap.size + 1 + 1, 0, none⟩ (Nat.le_refl _) _).set ⟨w.heap.size + 1 + 1, 1, none⟩ (Nat.le_refl _) _).set ⟨w.heap.size + 1 + 1, 2, none⟩ (Nat.le_refl _) _))
      (first | (go_at_call 28; (with_reducible refine (HAI.out _ (by first | exact hBD | assumption)).mono ?_); rintro e w' ⟨s, C, N, f, rfl, hi, hbw, hqB⟩; obtain ⟨q0, q1, q2, q3, q4, q5⟩ := HCE.out _ hqB) | (go_at_call 27; (with_reducible refine (HOV.out _ _ _ _ _ _ _ _ (by assumption) (by first | exact Hid.out (by assumption) | exact laterI (by assumption) (by assumption) | exact laterI (Lib.hid (laterI (by assumption) (by assumption))) (by assumption)) (HU.out _ (by assumption)).2.1).mono ?_); rintro e w' ⟨s2, A1, L1, c1, A2, L2, c2, rfl, hRaw, hqB⟩; obtain ⟨q0, q1, q2, q3, q4, q5⟩ := HCE.out _ hqB))
    all_goals
      obtain ⟨k1, ⟨k2, k3, k4⟩, k5⟩ := HB.out.store3 (W := w') hqB HB.out.bel.size (.bool s2) (.slice A1 L1 c1) (.slice A2 L2 c2)
      obtain ⟨uu, bb, hE, hE1, hE2, hE3⟩ := Hid.out hRaw
      obtain ⟨rfl, rfl, rfl⟩ : Value.slice A1 L1 c1 = uu ∧ Value.slice A2 L2 c2 = bb ∧ s2 = decide (R.num < 0) := by
        injection hE with hE
        simp only [Array.mk.injEq, List.cons.injEq, and_true] at hE
        obtain ⟨e1, e2, e3⟩ := hE
        injection e1 with e1
        exact ⟨e2, e3, e1⟩
      have HE1 := Lib.hid hE1
      have HE2 := Lib.hid hE2
      have HK1 := Lib.hid k1
      have HK5 := Lib.hid k5
      clear hE hE1 hE2 k1 k5 hRaw
      go_wp2_with fail
      refine bodyPost_ret (v := .agg #[.bool (decide (R.num < 0)), .slice A1 L1 c1, .slice A2 L2 c2]) (by simp [results, Tryz.results10, go_sem, k2, k3, k4]) rfl ⟨_, rfl, ⟨.slice A1 L1 c1, .slice A2 L2 c2, rfl, HK5.out _ _ HE1.out, HK5.out _ _ HE2.out, hE3⟩, HK1.out⟩
  · have HR := Lib.hid HRD.out
    have hcm : ((cmpN p.den q.den : Int) == 0) = false := by
      rcases Nat.lt_or_gt_of_ne hd with h4 | h4
      · rw [cmpN_lt h4]; rfl
      · rw [cmpN_gt h4]; rfl
    have HM1 : Hid (∀ W, Gw w1 W → Calls Tryz.prog 29 #[.agg #[.bool sa, .slice A L c], .agg #[.bool false, .slice B' M' d']] W fun e W' => ∃ s C N f, e = .returned (.agg #[.bool s, .slice C N f]) ∧ Hid (IntV W' (.agg #[.bool s, .slice C N f]) (p.num * q.den)) ∧ Hid (Below W.heap.size W W') ∧ Gw w1 W') := fun W hW =>
      (mulI_any _ _ p.num q.den W (HI.out W hW).1 (HD.out W hW).2 k k HK.out.1.1 HK.out.2.2 hk2).mono fun e W' ⟨v, h1, h2, h3⟩ => by
        obtain ⟨u, rfl, h4⟩ := h2
        obtain ⟨C, N, f, rfl⟩ := slice_nat h4
        exact ⟨_, C, N, f, h1, ⟨_, rfl, h4⟩, h3, hW.step h3⟩
    have HM2 : Hid (∀ W, Gw w1 W → Calls Tryz.prog 29 #[.agg #[.bool sb, .slice B M d], .agg #[.bool false, .slice A' L' c']] W fun e W' => ∃ s C N f, e = .returned (.agg #[.bool s, .slice C N f]) ∧ Hid (IntV W' (.agg #[.bool s, .slice C N f]) (q.num * p.den)) ∧ Hid (Below W.heap.size W W') ∧ Gw w1 W') := fun W hW =>
      (mulI_any _ _ q.num p.den W (HI.out W hW).2 (HD.out W hW).1 k k HK.out.2.1 HK.out.1.2 hk2).mono fun e W' ⟨v, h1, h2, h3⟩ => by
        obtain ⟨u, rfl, h4⟩ := h2
        obtain ⟨C, N, f, rfl⟩ := slice_nat h4
        exact ⟨_, C, N, f, h1, ⟨_, rfl, h4⟩, h3, hW.step h3⟩
    have HAI : Hid (∀ W s C N f s' C' N' f', Gw w1 W → IntV W (.agg #[.bool s, .slice C N f]) (p.num * q.den) → IntV W (.agg #[.bool s', .slice C' N' f']) (q.num * p.den) → Calls Tryz.prog 28 #[.agg #[.bool s, .slice C N f], .agg #[.bool s', .slice C' N' f']] W fun e W' => ∃ s2 C2 N2 f2, e = .returned (.agg #[.bool s2, .slice C2 N2 f2]) ∧ Hid (IntV W' (.agg #[.bool s2, .slice C2 N2 f2]) (p.num * q.den + q.num * p.den)) ∧ Hid (Below W.heap.size W W') ∧ Gw w1 W') := fun W s C N f s' C' N' f' hW h1 h2 =>
      (addI_any _ _ (p.num * q.den) (q.num * p.den) W h1 h2 (k + k) (lim_mulI HK.out.1.1 HK.out.2.2) (lim_mulI HK.out.2.1 HK.out.1.2) hk2).mono fun e W' ⟨v, h1, h2, h3⟩ => by
        obtain ⟨u, rfl, h4⟩ := h2
        obtain ⟨C2, N2, f2, rfl⟩ := slice_nat h4
        exact ⟨_, C2, N2, f2, h1, ⟨_, rfl, h4⟩, h3, hW.step h3⟩
    have HMN : Hid (∀ W, Gw w1 W → Calls Tryz.prog 30 #[.slice A' L' c', .slice B' M' d'] W fun e W' => ∃ D O g, e = .returned (.slice D O g) ∧ Hid (NatV W' (.slice D O g) (p.den * q.den)) ∧ Hid (Below W.heap.size W W') ∧ Gw w1 W') := fun W hW =>
      (mulN_any _ _ p.den q.den W (HU.out W hW).2.1 (HU.out W hW).2.2.2 k k HK.out.1.2 HK.out.2.2 hk2).mono fun e W' ⟨v, h1, h3, h4⟩ => by
        obtain ⟨D, O, g, rfl⟩ := slice_nat h3
        exact ⟨D, O, g, h1, h3, h4, hW.step h4⟩
    have HOV : Hid (∀ W s C N f D O g, Gw w1 W → IntV W (.agg #[.bool s, .slice C N f]) (p.num * q.den + q.num * p.den) → NatV W (.slice D O g) (p.den * q.den) → Calls Tryz.prog 27 #[.agg #[.bool s, .slice C N f], .slice D O g] W fun e W' => ∃ s2 A1 L1 c1 A2 L2 c2, e = .returned (.agg #[.bool s2, .slice A1 L1 c1, .slice A2 L2 c2]) ∧ Hid (RawV W' (.agg #[.bool s2, .slice A1 L1 c1, .slice A2 L2 c2]) R.num R.den) ∧ Gw w1 W') := fun W s C N f D O g hW h1 h2 =>
      (over_any _ _ (p.num * q.den + q.num * p.den) (p.den * q.den) W h1 h2 (k + k + 1) (by have := lim_addI (lim_mulI HK.out.1.1 (show Lim k (q.den : Int).natAbs from HK.out.2.2)) (lim_mulI HK.out.2.1 (show Lim k (p.den : Int).natAbs from HK.out.1.2)); exact this.mono (by omega)) ((HK.out.1.2.mul HK.out.2.2).mono (by omega)) (by omega) (Nat.mul_pos hpd hqd)).mono fun e W' ⟨v, h1, h2, h3⟩ => by
        rw [HR.out] at h2
        obtain ⟨u2, b2, h5, h6, h7, h8⟩ := h2
        obtain ⟨A1, L1, c1, rfl⟩ := slice_nat h6
        obtain ⟨A2, L2, c2, rfl⟩ := slice_nat h7
        exact ⟨_, A1, L1, c1, A2, L2, c2, by rw [h1, h5], ⟨_, _, rfl, h6, h7, h8⟩, hW.step h3⟩
    clear hd
    generalize cmpN p.den q.den = cr at *
    go_enter Tryz.func10, Tryz.ntmps10
    go_upto_region 1 with (fail)
    rw [← HW1.out]
    go_wp2_with fail
    refine (HCM.out w1 hqB0).mono ?_
    rintro e w2 ⟨rfl, hqC⟩
    go_upto_region 3 with (fail)
    have hBD : Gw w1 w2.drew := hqC.drew
    have hqB : Gw w1 w2 := hqC
    clear a0 a1 a2 b0 b1 b2
    go_region_held3 (fun W => W.cell? ⟨w.heap.size, 0, none⟩ = some (.bool sa) ∧ W.cell? ⟨w.heap.size, 1, none⟩ = some (.slice A L c) ∧ W.cell? ⟨w.heap.size, 2, none⟩ = some (.slice A' L' c') ∧ W.cell? ⟨w.heap.size + 1, 0, none⟩ = some (.bool sb) ∧ W.cell? ⟨w.heap.size + 1, 1, none⟩ = some (.slice B M d) ∧ W.cell? ⟨w.heap.size + 1, 2, none⟩ = some (.slice B' M' d') ∧ Gv (w.heap.size + 1 + 1) w1 W)
      (first | exact HS.out _ (hBD.gv hz2) | exact HS.out _ (hqB.gv hz2) | exact HS.out _ ((((hqB.gv hz2).set ⟨w.heap.size + 1 + 1, 0, none⟩ (Nat.le_refl _) _).set ⟨w.heap.size + 1 + 1, 1, none⟩ (Nat.le_refl _) _).set ⟨w.heap.size + 1 + 1, 2, none⟩ (Nat.le_refl _) _))
      (first | (go_at_call 29; (with_reducible refine (HM1.out _ (by first | exact hBD | assumption)).mono ?_); rintro e w' ⟨s, C, N, f, rfl, hi, hbw, hqB⟩; obtain ⟨q0, q1, q2, q3, q4, q5⟩ := HCE.out _ hqB) | (go_at_call 29; (with_reducible refine (HM2.out _ (by first | exact hBD | assumption)).mono ?_); rintro e w' ⟨s', C', N', f', rfl, hi', hbw', hqB⟩; obtain ⟨q0, q1, q2, q3, q4, q5⟩ := HCE.out _ hqB) | (go_at_call 28; (with_reducible refine (HAI.out _ _ _ _ _ _ _ _ _ (by first | exact hBD | assumption) (by first | exact Hid.out (by assumption) | exact laterI (by assumption) (by assumption) | exact laterI (Lib.hid (laterI (by assumption) (by assumption))) (by assumption)) (by first | exact Hid.out (by assumption) | exact laterI (by assumption) (by assumption) | exact laterI (Lib.hid (laterI (by assumption) (by assumption))) (by assumption))).mono ?_); rintro e w' ⟨sx, Cx, Nx, fx, rfl, hix, hbwx, hqB⟩; obtain ⟨q0, q1, q2, q3, q4, q5⟩ := HCE.out _ hqB) | (go_at_call 30; (with_reducible refine (HMN.out _ (by first | exact hBD | assumption)).mono ?_); rintro e w' ⟨D, O, g, rfl, hn, hbwn, hqB⟩; obtain ⟨q0, q1, q2, q3, q4, q5⟩ := HCE.out _ hqB) | (go_at_call 27; (with_reducible refine (HOV.out _ _ _ _ _ _ _ _ (by assumption) (by first | exact Hid.out (by assumption) | exact laterI (by assumption) (by assumption) | exact laterI (Lib.hid (laterI (by assumption) (by assumption))) (by assumption)) (by first | exact Hid.out (by assumption) | exact later (by assumption) (by assumption))).mono ?_); rintro e w' ⟨s2, A1, L1, c1, A2, L2, c2, rfl, hRaw, hqB⟩; obtain ⟨q0, q1, q2, q3, q4, q5⟩ := HCE.out _ hqB))
    all_goals
      obtain ⟨k1, ⟨k2, k3, k4⟩, k5⟩ := HB.out.store3 (W := w') hqB HB.out.bel.size (.bool s2) (.slice A1 L1 c1) (.slice A2 L2 c2)
      obtain ⟨uu, bb, hE, hE1, hE2, hE3⟩ := Hid.out hRaw
      obtain ⟨rfl, rfl, rfl⟩ : Value.slice A1 L1 c1 = uu ∧ Value.slice A2 L2 c2 = bb ∧ s2 = decide (R.num < 0) := by
        injection hE with hE
        simp only [Array.mk.injEq, List.cons.injEq, and_true] at hE
        obtain ⟨e1, e2, e3⟩ := hE
        injection e1 with e1
        exact ⟨e2, e3, e1⟩
      have HE1 := Lib.hid hE1
      have HE2 := Lib.hid hE2
      have HK1 := Lib.hid k1
      have HK5 := Lib.hid k5
      clear hE hE1 hE2 k1 k5 hRaw
      go_wp2_with fail
      refine bodyPost_ret (v := .agg #[.bool (decide (R.num < 0)), .slice A1 L1 c1, .slice A2 L2 c2]) (by simp [results, Tryz.results10, go_sem, k2, k3, k4]) rfl ⟨_, rfl, ⟨.slice A1 L1 c1, .slice A2 L2 c2, rfl, HK5.out _ _ HE1.out, HK5.out _ _ HE2.out, hE3⟩, HK1.out⟩
end Go.Proofs.YtmknpeoflafaoabGreatDoor
/- Generated (gen/ratf.py): the contract of num.Rat's Sub. -/
namespace Go.Proofs.YtmknpeoflafaoabGreatDoor
open Go.RowKit Go.Dw
attribute [local go_sem ↓] Go.wp_at_zero Go.wp_at_succ

set_option maxRecDepth 100000 in
set_option maxHeartbeats 16000000 in
theorem subQ_any (va vb : Value) (p q : Rat) (w : World) (h : RatV w va p) (g : RatV w vb q) (k : Nat) (hk : RLim k p) (gk : RLim k q) (hk2 : k + k + 1 ≤ 549755813888) :
    Calls Tryz.prog 34 #[va, vb] w (RatRes (p - q) w) := by
  obtain ⟨R, hR⟩ : ∃ R, p - q = R := ⟨_, rfl⟩
  have HR : Hid (p + -q = R) := by show _ = _; rw [← hR, Rat.sub_eq_add_neg]
  rw [hR]
  clear hR
  obtain ⟨u, x, rfl, hu, hx, hpd⟩ := h
  obtain ⟨u', y, rfl, gu, gy, hqd⟩ := g
  obtain ⟨sa, hsa⟩ : ∃ s, decide (p.num < 0) = s := ⟨_, rfl⟩
  obtain ⟨sb, hsb⟩ : ∃ s, decide (q.num < 0) = s := ⟨_, rfl⟩
  rw [hsa, hsb]
  have HSA := Lib.hid hsa
  have HSB := Lib.hid hsb
  clear hsa hsb
  obtain ⟨A, L, c, rfl⟩ := slice_nat hu
  obtain ⟨A', L', c', rfl⟩ := slice_nat hx
  obtain ⟨B, M, d, rfl⟩ := slice_nat gu
  obtain ⟨B', M', d', rfl⟩ := slice_nat gy
  obtain ⟨w1, hw1⟩ : ∃ w1, w1 = ((w.alloc (.cells #[.bool sa, .slice A L c, .slice A' L' c'] 47)).alloc (.cells #[.bool sb, .slice B M d, .slice B' M' d'] 47)).alloc (.cells #[.bool false, .slice none 0 0, .slice none 0 0] 47) := ⟨_, rfl⟩
  obtain ⟨hbx, hk0, hk1⟩ := boxR w sa sb A A' B B' L L' M M' c c' d d'
  rw [← hw1] at hbx hk0 hk1
  have HB : Hid (Box w w1 (w.heap.size + 1 + 1) 47 [.bool false, .slice none 0 0, .slice none 0 0]) := hbx
  have hz2 : w.heap.size + 1 + 1 ≤ w1.heap.size := by have := hbx.blk.lt; omega
  have HS : Hid (∀ W, Gv (w.heap.size + 1 + 1) w1 W → W.cell? ⟨w.heap.size, 0, none⟩ = some (.bool sa) ∧ W.cell? ⟨w.heap.size, 1, none⟩ = some (.slice A L c) ∧ W.cell? ⟨w.heap.size, 2, none⟩ = some (.slice A' L' c') ∧ W.cell? ⟨w.heap.size + 1, 0, none⟩ = some (.bool sb) ∧ W.cell? ⟨w.heap.size + 1, 1, none⟩ = some (.slice B M d) ∧ W.cell? ⟨w.heap.size + 1, 2, none⟩ = some (.slice B' M' d') ∧ Gv (w.heap.size + 1 + 1) w1 W) := fun W hW => by
    have c0 := (Below.block hW _ (by omega)).trans hk0
    have c1 := (Below.block hW _ (by omega)).trans hk1
    have e0 : Blk W w.heap.size 47 [.bool sa, .slice A L c, .slice A' L' c'] := c0
    have e1 : Blk W (w.heap.size + 1) 47 [.bool sb, .slice B M d, .slice B' M' d'] := c1
    exact ⟨e0.cell 0, e0.cell 1, e0.cell 2, e1.cell 0, e1.cell 1, e1.cell 2, hW⟩
  have HCE : Hid (∀ W, Gw w1 W → W.cell? ⟨w.heap.size + 1 + 1, 0, none⟩ = some (.bool false) ∧ W.cell? ⟨w.heap.size + 1 + 1, 1, none⟩ = some (.slice none 0 0) ∧ W.cell? ⟨w.heap.size + 1 + 1, 2, none⟩ = some (.slice none 0 0) ∧ W.frozen? ⟨w.heap.size + 1 + 1, 0, none⟩ = false ∧ W.frozen? ⟨w.heap.size + 1 + 1, 1, none⟩ = false ∧ W.frozen? ⟨w.heap.size + 1 + 1, 2, none⟩ = false) := fun W hW =>
    ⟨(HB.out.at_ hW 0).1, (HB.out.at_ hW 1).1, (HB.out.at_ hW 2).1, (HB.out.at_ hW 0).2, (HB.out.at_ hW 1).2, (HB.out.at_ hW 2).2⟩
  have HU : Hid (∀ W, Gw w1 W → NatV W (.slice A L c) p.num.natAbs ∧ NatV W (.slice A' L' c') p.den ∧ NatV W (.slice B M d) q.num.natAbs ∧ NatV W (.slice B' M' d') q.den) := fun W hW =>
    ⟨(hu.below HB.out.bel).below hW, (hx.below HB.out.bel).below hW, (gu.below HB.out.bel).below hW, (gy.below HB.out.bel).below hW⟩
  have HI : Hid (∀ W, Gw w1 W → IntV W (.agg #[.bool sa, .slice A L c]) p.num ∧ IntV W (.agg #[.bool sb, .slice B M d]) q.num) := fun W hW =>
    ⟨⟨_, by rw [HSA.out], (HU.out W hW).1⟩, ⟨_, by rw [HSB.out], (HU.out W hW).2.2.1⟩⟩
  have HW1 := Lib.hid hw1
  have hne : w.heap.size ≠ w.heap.size + 1 := by omega
  have hne2 : w.heap.size ≠ w.heap.size + 1 + 1 := by omega
  have hne3 : w.heap.size + 1 ≠ w.heap.size + 1 + 1 := by omega
  have HK := Lib.hid (And.intro hk gk)
  clear hw1 hu hx gu gy hk gk hbx hk0 hk1
  have HMI : Hid (∀ W, Gw w1 W → Calls Tryz.prog 64 #[.agg #[.bool sb, .slice B M d]] W fun e W' => ∃ s C N f, e = .returned (.agg #[.bool s, .slice C N f]) ∧ Hid (IntV W' (.agg #[.bool s, .slice C N f]) (-q.num)) ∧ Hid (Below W.heap.size W W') ∧ Gw w1 W') := fun W hW =>
    (minusI_any _ q.num W (HI.out W hW).2).mono fun e W' ⟨v, h1, h2, h3⟩ => by
      obtain ⟨u, rfl, h4⟩ := h2
      obtain ⟨C, N, f, rfl⟩ := slice_nat h4
      exact ⟨_, C, N, f, h1, ⟨_, rfl, h4⟩, h3, hW.step h3⟩
  have HAD : Hid (∀ W s C N f, Gw w1 W → IntV W (.agg #[.bool s, .slice C N f]) (-q.num) → Calls Tryz.prog 10 #[.agg #[.bool sa, .slice A L c, .slice A' L' c'], .agg #[.bool s, .slice C N f, .slice B' M' d']] W fun e W' => ∃ s2 A1 L1 c1 A2 L2 c2, e = .returned (.agg #[.bool s2, .slice A1 L1 c1, .slice A2 L2 c2]) ∧ Hid (RawV W' (.agg #[.bool s2, .slice A1 L1 c1, .slice A2 L2 c2]) R.num R.den) ∧ Gw w1 W') := fun W s C N f hW h1 => by
    have hp1 : RatV W (.agg #[.bool sa, .slice A L c, .slice A' L' c']) p := ⟨_, _, by rw [HSA.out], (HU.out W hW).1, (HU.out W hW).2.1, hpd⟩
    have hq1 : RatV W (.agg #[.bool s, .slice C N f, .slice B' M' d']) (-q) := by
      obtain ⟨u, e1, e2⟩ := h1
      injection e1 with e1
      simp only [Array.mk.injEq, List.cons.injEq, and_true] at e1
      obtain ⟨e3, e4⟩ := e1
      injection e3 with e3
      refine ⟨.slice C N f, .slice B' M' d', by rw [Rat.neg_num, e3], ?_, ?_, ?_⟩
      · rw [Rat.neg_num, e4]; exact e2
      · rw [Rat.neg_den]; exact (HU.out W hW).2.2.2
      · rw [Rat.neg_den]; exact hqd
    have := addQ_any _ _ p (-q) W hp1 hq1 k HK.out.1 HK.out.2.neg hk2
    rw [HR.out] at this
    refine this.mono fun e W' ⟨v, h1, h2, h3⟩ => ?_
    obtain ⟨u2, b2, h5, h6, h7, h8⟩ := h2
    obtain ⟨A1, L1, c1, rfl⟩ := slice_nat h6
    obtain ⟨A2, L2, c2, rfl⟩ := slice_nat h7
    exact ⟨_, A1, L1, c1, A2, L2, c2, by rw [h1, h5], ⟨_, _, rfl, h6, h7, h8⟩, hW.step h3⟩
  have hqB : Gw w1 w1 := Gw.refl _
  have hBD : Gw w1 w1.drew := (Gw.refl _).drew
  go_enter Tryz.func34, Tryz.ntmps34
  go_upto_region 1 with (fail)
  rw [← HW1.out]
  go_region_held3 (fun W => W.cell? ⟨w.heap.size, 0, none⟩ = some (.bool sa) ∧ W.cell? ⟨w.heap.size, 1, none⟩ = some (.slice A L c) ∧ W.cell? ⟨w.heap.size, 2, none⟩ = some (.slice A' L' c') ∧ W.cell? ⟨w.heap.size + 1, 0, none⟩ = some (.bool sb) ∧ W.cell? ⟨w.heap.size + 1, 1, none⟩ = some (.slice B M d) ∧ W.cell? ⟨w.heap.size + 1, 2, none⟩ = some (.slice B' M' d') ∧ Gv (w.heap.size + 1 + 1) w1 W)
    (first | exact HS.out _ (hBD.gv hz2) | exact HS.out _ (hqB.gv hz2) | exact HS.out _ ((((hqB.gv hz2).set ⟨w.heap.size + 1 + 1, 0, none⟩ (Nat.le_refl _) _).set ⟨w.heap.size + 1 + 1, 1, none⟩ (Nat.le_refl _) _).set ⟨w.heap.size + 1 + 1, 2, none⟩ (Nat.le_refl _) _))
    (first | (go_at_call 64; (with_reducible refine (HMI.out _ (by first | exact hBD | assumption)).mono ?_); rintro e w' ⟨s, C, N, f, rfl, hi, hbw, hqB⟩; obtain ⟨q0, q1, q2, q3, q4, q5⟩ := HCE.out _ hqB) | (go_at_call 10; (with_reducible refine (HAD.out _ _ _ _ _ (by assumption) (by first | exact Hid.out (by assumption) | exact laterI (by assumption) (by assumption) | exact laterI (Lib.hid (laterI (by assumption) (by assumption))) (by assumption))).mono ?_); rintro e w' ⟨s2, A1, L1, c1, A2, L2, c2, rfl, hRaw, hqB⟩; obtain ⟨q0, q1, q2, q3, q4, q5⟩ := HCE.out _ hqB))
  all_goals
    obtain ⟨k1, ⟨k2, k3, k4⟩, k5⟩ := HB.out.store3 (W := w') hqB HB.out.bel.size (.bool s2) (.slice A1 L1 c1) (.slice A2 L2 c2)
    obtain ⟨uu, bb, hE, hE1, hE2, hE3⟩ := Hid.out hRaw
    obtain ⟨rfl, rfl, rfl⟩ : Value.slice A1 L1 c1 = uu ∧ Value.slice A2 L2 c2 = bb ∧ s2 = decide (R.num < 0) := by
      injection hE with hE
      simp only [Array.mk.injEq, List.cons.injEq, and_true] at hE
      obtain ⟨e1, e2, e3⟩ := hE
      injection e1 with e1
      exact ⟨e2, e3, e1⟩
    have HE1 := Lib.hid hE1
    have HE2 := Lib.hid hE2
    have HK1 := Lib.hid k1
    have HK5 := Lib.hid k5
    clear hE hE1 hE2 k1 k5 hRaw
    go_wp2_with fail
    refine bodyPost_ret (v := .agg #[.bool (decide (R.num < 0)), .slice A1 L1 c1, .slice A2 L2 c2]) (by simp [results, Tryz.results34, go_sem, k2, k3, k4]) rfl ⟨_, rfl, ⟨.slice A1 L1 c1, .slice A2 L2 c2, rfl, HK5.out _ _ HE1.out, HK5.out _ _ HE2.out, hE3⟩, HK1.out⟩
end Go.Proofs.YtmknpeoflafaoabGreatDoor
/- The contract of num.Frac, where what divides is above 0. -/
namespace Go.Proofs.YtmknpeoflafaoabGreatDoor
open Go.RowKit Go.Dw
attribute [local go_sem ↓] Go.wp_at_zero Go.wp_at_succ

theorem lim_i64 {n : Int} (h : inI64 n) : Lim 2 n.natAbs := by
  unfold Lim
  have : W32 ^ 2 = 18446744073709551616 := by decide
  rw [this]
  obtain ⟨h1, h2⟩ := h
  omega
set_option maxRecDepth 100000 in
set_option maxHeartbeats 8000000 in
theorem fracQ_any (a b : Int) (w : World) (ha : inI64 a) (hb : inI64 b) (hb0 : 0 < b) :
    Calls Tryz.prog 36 #[.int .i64 a, .int .i64 b] w (RatRes (mkRat a b.toNat) w) := by
  obtain ⟨w1, hw1⟩ : ∃ w1, w1 = w.alloc (.cells #[.bool false, .slice none 0 0, .slice none 0 0] 47) := ⟨_, rfl⟩
  have HB : Hid (Box w w1 w.heap.size 47 [.bool false, .slice none 0 0, .slice none 0 0]) := by
    rw [hw1]
    exact ⟨(Below.refl _ _).alloc (Nat.le_refl _) _, Nat.le_refl _, Blk.new w _ _, fun c hc m => by simp at hc; rcases hc with rfl | rfl <;> simp⟩
  have HW1 := Lib.hid hw1
  have HOA := Lib.hid (ofI_any a w1 ha)
  have HOB : Hid (∀ W, Calls Tryz.prog 65 #[.int .i64 b] W (IntRes b W)) := fun W => ofI_any b W hb
  have HLA := Lib.hid (lim_i64 ha)
  have HLB := Lib.hid (lim_i64 hb)
  have HBA : Hid (b.natAbs = b.toNat) := by show _ = _; omega
  have HBN : Hid (decide (b < 0) = false) := decide_eq_false (by omega)
  have HBP : Hid (0 < b.toNat) := by show _ < _; omega
  clear hw1 ha hb hb0
  go_enter Tryz.func36, Tryz.ntmps36
  go_upto_region 1 with (fail)
  rw [← HW1.out]
  go_wp2_with fail
  refine HOA.out.mono ?_
  rintro e w2 ⟨v, rfl, ⟨u, rfl, hu⟩, hb2⟩
  obtain ⟨A, L, c, rfl⟩ := slice_nat hu
  go_wp2_with fail
  refine (HOB.out w2).mono ?_
  rintro e w3 ⟨v, rfl, ⟨u', rfl, gu⟩, hb3⟩
  obtain ⟨B, M, d, rfl⟩ := slice_nat gu
  rw [HBN.out]
  rw [HBA.out] at gu
  obtain ⟨sa, hsa⟩ : ∃ s, decide (a < 0) = s := ⟨_, rfl⟩
  rw [hsa]
  obtain ⟨wa, hwa⟩ : ∃ wa, wa = w3.alloc (.cells #[.bool sa, .slice A L c] 45) := ⟨_, rfl⟩
  obtain ⟨w4, hw4⟩ : ∃ w4, w4 = wa.alloc (.cells #[.bool false, .slice B M d] 45) := ⟨_, rfl⟩
  have z1 : wa.heap.size = w3.heap.size + 1 := by rw [hwa]; simp
  have HG4 : Hid (Below w3.heap.size w3 w4) := by
    rw [hw4, hwa]
    exact ((Below.refl _ _).alloc (Nat.le_refl _) _).alloc (by simp) _
  have HKA : Hid (Blk w4 w3.heap.size 45 [.bool sa, .slice A L c]) := by
    rw [hw4]
    refine Blk.same (w := wa) ?_ (Same.alloc (S := fun _ => True) _ _) trivial
    rw [hwa]; exact Blk.new w3 _ _
  have HKB : Hid (Blk w4 (w3.heap.size + 1) 45 [.bool false, .slice B M d]) := by rw [hw4, ← z1]; exact Blk.new wa _ _
  rw [hwa] at hw4
  have HW4 := Lib.hid hw4
  have HB4 : Hid (Below w1.heap.size w1 w4) := (hb2.trans (hb3.mono hb2.size)).trans (Below.mono HG4.out (by have := hb2.size; have := hb3.size; omega))
  have HOV := Lib.hid (over_any (.agg #[.bool sa, .slice A L c]) (.slice B M d) a b.toNat w4 ⟨.slice A L c, by rw [hsa], ((hu.below hb3).below HG4.out)⟩ (gu.below HG4.out) 2 HLA.out (by have := HLB.out; rw [HBA.out] at this; exact this) (by omega) HBP.out)
  clear hw4 hwa z1 hu gu hb2 hb3 hsa
  go_upto_region 2 with (fail)
  rw [← HW4.out]
  have a0 : w4.cell? ⟨w3.heap.size, 0, none⟩ = some _ := HKA.out.cell 0
  have a1 : w4.cell? ⟨w3.heap.size, 1, none⟩ = some _ := HKA.out.cell 1
  have b0 : w4.cell? ⟨w3.heap.size + 1, 0, none⟩ = some _ := HKB.out.cell 0
  have b1 : w4.cell? ⟨w3.heap.size + 1, 1, none⟩ = some _ := HKB.out.cell 1
  go_wp2_with fail
  refine HOV.out.mono ?_
  rintro e w5 ⟨v, rfl, ⟨x, y, rfl, hx, hy, hd⟩, hb5⟩
  obtain ⟨A1, L1, c1, rfl⟩ := slice_nat hx
  obtain ⟨A2, L2, c2, rfl⟩ := slice_nat hy
  have HX := Lib.hid hx
  have HY := Lib.hid hy
  have hb6 : Below w1.heap.size w1 w5 := HB4.out.trans (hb5.mono HB4.out.size)
  have d0 : w5.cell? ⟨w.heap.size, 0, none⟩ = some (.bool false) := (HB.out.at_ hb6 0).1
  have d1 : w5.cell? ⟨w.heap.size, 1, none⟩ = some (.slice none 0 0) := (HB.out.at_ hb6 1).1
  have d2 : w5.cell? ⟨w.heap.size, 2, none⟩ = some (.slice none 0 0) := (HB.out.at_ hb6 2).1
  have f0 := (HB.out.at_ hb6 0).2
  have f1 := (HB.out.at_ hb6 1).2
  have f2 := (HB.out.at_ hb6 2).2
  obtain ⟨s2, hs2⟩ : ∃ s, decide ((mkRat a b.toNat).num < 0) = s := ⟨_, rfl⟩
  rw [hs2]
  have HS2 := Lib.hid hs2
  obtain ⟨k1, ⟨k2, k3, k4⟩, k5⟩ := HB.out.store3 (W := w5) hb6 HB.out.bel.size (.bool s2) (.slice A1 L1 c1) (.slice A2 L2 c2)
  have HK1 := Lib.hid k1
  have HK5 := Lib.hid k5
  have HD := Lib.hid hd
  clear hx hy hb5 hb6 hs2 k1 k5 a0 a1 b0 b1 hd
  go_wp2_with fail
  refine bodyPost_ret (v := .agg #[.bool s2, .slice A1 L1 c1, .slice A2 L2 c2]) (by simp [results, Tryz.results36, go_sem, k2, k3, k4]) rfl ⟨_, rfl, ⟨.slice A1 L1 c1, .slice A2 L2 c2, by rw [HS2.out], HK5.out _ _ HX.out, HK5.out _ _ HY.out, HD.out⟩, HK1.out⟩
end Go.Proofs.YtmknpeoflafaoabGreatDoor
/- Quotients in boxes: what a store into another box leaves. -/
namespace Go.Proofs.YtmknpeoflafaoabGreatDoor
open Go.RowKit Go.Dw

/-- a value is no word of a number's -/
def NoW (c : Value) : Prop := ∀ m, c ≠ .int .u32 m
theorem noW_bool (b : Bool) : NoW (.bool b) := fun _ h => by cases h
theorem noW_slice (A : Option Addr) (n c : Nat) : NoW (.slice A n c) := fun _ h => by cases h
theorem noW_string (s : ByteArray) : NoW (.string s) := fun _ h => by cases h
/-- a box of three cells that are no words -/
def QB (w : World) (g : Nat) : Prop := ∃ x y z, Blk w g 47 [x, y, z] ∧ NoW x ∧ NoW y ∧ NoW z
/-- w' is w but for block g -/
structure Otw (g : Nat) (w w' : World) : Prop where
  size : w.heap.size ≤ w'.heap.size
  heap : ∀ b, b ≠ g → w'.heap[b]? = w.heap[b]?
theorem Otw.set {g : Nat} {w w' : World} (h : Otw g w w') (k : Nat) (u : Value) : Otw g w (w'.setCell ⟨g, k, none⟩ u) :=
  ⟨by simpa [World.setCell] using h.size, fun b hb => (Below.heap_setCell w' ⟨g, k, none⟩ u b hb).trans (h.heap b hb)⟩
theorem Otw.refl (g : Nat) (w : World) : Otw g w w := ⟨Nat.le_refl _, fun _ _ => rfl⟩
theorem otw3 (w : World) (g : Nat) (x y z : Value) : Otw g w (((w.setCell ⟨g, 0, none⟩ x).setCell ⟨g, 1, none⟩ y).setCell ⟨g, 2, none⟩ z) := (((Otw.refl g w).set 0 x).set 1 y).set 2 z
theorem QB.nat {w w' : World} {g : Nat} (h : QB w g) (ho : Otw g w w') {v : Value} {n : Nat} (hv : NatV w v n) : NatV w' v n := by
  obtain ⟨x, y, z, hb, hx, hy, hz⟩ := h
  exact NatV.other hb (fun c hc m => by simp at hc; rcases hc with rfl | rfl | rfl; exact hx m; exact hy m; exact hz m) ho.size ho.heap hv
theorem QB.rat {w w' : World} {g : Nat} (h : QB w g) (ho : Otw g w w') {v : Value} {q : Rat} (hv : RatV w v q) : RatV w' v q := by
  obtain ⟨u, b, e, h1, h2, h3⟩ := hv
  exact ⟨u, b, e, h.nat ho h1, h.nat ho h2, h3⟩
theorem QB.int {w w' : World} {g : Nat} (h : QB w g) (ho : Otw g w w') {v : Value} {z : Int} (hv : IntV w v z) : IntV w' v z := by
  obtain ⟨u, e, h1⟩ := hv
  exact ⟨u, e, h.nat ho h1⟩
theorem Otw.blk {w w' : World} {g g' : Nat} {t : TypeId} {cs : List Value} (ho : Otw g w w') (h : Blk w g' t cs) (hne : g' ≠ g) : Blk w' g' t cs := (ho.heap _ hne).trans h
theorem blk_gq {w w' : World} {g : Nat} {t : TypeId} {cs : List Value} (h : Blk w g t cs) (hb : Gq w w') : Blk w' g t cs := h.same (Same.of_below (S := fun _ => True) hb) trivial
theorem QB.gq {w w' : World} {g : Nat} (h : QB w g) (hb : Gq w w') : QB w' g := by
  obtain ⟨x, y, z, h1, h2⟩ := h
  exact ⟨x, y, z, blk_gq h1 hb, h2⟩
theorem QB.other {w w' : World} {g g' : Nat} (h : QB w g') (ho : Otw g w w') (hne : g' ≠ g) : QB w' g' := by
  obtain ⟨x, y, z, h1, h2⟩ := h
  exact ⟨x, y, z, ho.blk h1 hne, h2⟩
theorem QB.lt {w : World} {g : Nat} (h : QB w g) : g < w.heap.size := by
  obtain ⟨x, y, z, h1, _⟩ := h
  exact h1.lt
theorem QB.cells {w : World} {g : Nat} (h : QB w g) : ∃ x y z, w.cell? ⟨g, 0, none⟩ = some x ∧ w.cell? ⟨g, 1, none⟩ = some y ∧ w.cell? ⟨g, 2, none⟩ = some z ∧ w.frozen? ⟨g, 0, none⟩ = false ∧ w.frozen? ⟨g, 1, none⟩ = false ∧ w.frozen? ⟨g, 2, none⟩ = false := by
  obtain ⟨x, y, z, h1, _⟩ := h
  exact ⟨x, y, z, h1.cell 0, h1.cell 1, h1.cell 2, h1.frozen 0, h1.frozen 1, h1.frozen 2⟩
theorem QB.new (w : World) : QB (w.alloc (.cells #[.bool false, .slice none 0 0, .slice none 0 0] 47)) w.heap.size :=
  ⟨_, _, _, Blk.new w 47 [.bool false, .slice none 0 0, .slice none 0 0], noW_bool _, noW_slice _ _ _, noW_slice _ _ _⟩
theorem QB.store {w : World} {g : Nat} (h : QB w g) {x y z : Value} : Blk (((w.setCell ⟨g, 0, none⟩ x).setCell ⟨g, 1, none⟩ y).setCell ⟨g, 2, none⟩ z) g 47 [x, y, z] := by
  obtain ⟨a, b, c, h1, _⟩ := h
  exact ((h1.set_ 0 x).set_ 1 y).set_ 2 z
theorem QB.stored {w : World} {g : Nat} (h : QB w g) {x y z : Value} (hx : NoW x) (hy : NoW y) (hz : NoW z) : QB (((w.setCell ⟨g, 0, none⟩ x).setCell ⟨g, 1, none⟩ y).setCell ⟨g, 2, none⟩ z) g :=
  ⟨x, y, z, h.store, hx, hy, hz⟩
/-- a box that holds a quotient -/
def RatB (w : World) (g : Nat) (q : Rat) : Prop := ∃ s A1 L1 c1 A2 L2 c2, Blk w g 47 [.bool s, .slice A1 L1 c1, .slice A2 L2 c2] ∧ RatV w (.agg #[.bool s, .slice A1 L1 c1, .slice A2 L2 c2]) q
theorem RatV.gq {w w' : World} {v : Value} {q : Rat} (h : RatV w v q) (hb : Gq w w') : RatV w' v q := by
  obtain ⟨u, b, e, h1, h2, h3⟩ := h
  exact ⟨u, b, e, h1.below hb, h2.below hb, h3⟩
theorem RatB.gq {w w' : World} {g : Nat} {q : Rat} (h : RatB w g q) (hb : Gq w w') : RatB w' g q := by
  obtain ⟨s, A1, L1, c1, A2, L2, c2, h1, h2⟩ := h
  exact ⟨s, A1, L1, c1, A2, L2, c2, blk_gq h1 hb, h2.gq hb⟩
theorem RatB.qb {w : World} {g : Nat} {q : Rat} (h : RatB w g q) : QB w g := by
  obtain ⟨s, A1, L1, c1, A2, L2, c2, h1, _⟩ := h
  exact ⟨_, _, _, h1, noW_bool _, noW_slice _ _ _, noW_slice _ _ _⟩
theorem RatB.other {w w' : World} {g g' : Nat} {q : Rat} (h : RatB w g' q) (hb : QB w g) (ho : Otw g w w') (hne : g' ≠ g) : RatB w' g' q := by
  obtain ⟨s, A1, L1, c1, A2, L2, c2, h1, h2⟩ := h
  exact ⟨s, A1, L1, c1, A2, L2, c2, ho.blk h1 hne, hb.rat ho h2⟩
theorem gq_set3 {wc w : World} {g : Nat} (h : Gq wc w) (hg : wc.heap.size ≤ g) (x y z : Value) : Gq wc (((w.setCell ⟨g, 0, none⟩ x).setCell ⟨g, 1, none⟩ y).setCell ⟨g, 2, none⟩ z) :=
  ((h.set (p := ⟨g, 0, none⟩) hg x).set (p := ⟨g, 1, none⟩) hg y).set (p := ⟨g, 2, none⟩) hg z
end Go.Proofs.YtmknpeoflafaoabGreatDoor
