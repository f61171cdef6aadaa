/- Several texts laid into one: The contracts of num.Int's Minus and Mul; Generated (gen/intb.py): the contracts of num.Int's Add and Sub; The contract of num.Of; -/
import Derived.Test.YtmknpeoflafaoabGreatDoorRatZ
import Derived.Test.YtmknpeoflafaoabGreatDoorNatZ
import Derived.Deep.RegionHeld3
import Derived.Deep.DrawnRows
/- The contracts of num.Int's Minus and Mul. -/
namespace Go.Proofs.YtmknpeoflafaoabGreatDoor
open Go.RowKit Go.Dw
attribute [local go_sem ↓] Go.wp_at_zero Go.wp_at_succ

/-- a box of two cells, behind those that were laid ahead -/
theorem boxI (w w0 : World) (h : Below w.heap.size w w0) (c0 c1 : Value) (n0 : ∀ m, c0 ≠ .int .u32 m) (n1 : ∀ m, c1 ≠ .int .u32 m) : Box w (w0.alloc (.cells #[c0, c1] 45)) w0.heap.size 45 [c0, c1] :=
  ⟨h.alloc h.size _, h.size, Blk.new w0 _ _, fun c hc m => by simp at hc; rcases hc with rfl | rfl; exact n0 m; exact n1 m⟩
theorem mulI_sign (a b : Int) : decide (a * b < 0) = ((decide (a < 0) != decide (b < 0)) && decide (0 < a.natAbs * b.natAbs)) := by
  rcases Int.lt_trichotomy a 0 with ha | ha | ha
  · rcases Int.lt_trichotomy b 0 with hb | hb | hb
    · have := Int.mul_pos_of_neg_of_neg ha hb
      simp [ha, hb]; omega
    · subst hb; simp
    · have := Int.mul_neg_of_neg_of_pos ha hb
      have h2 : ¬ b < 0 := by omega
      have h3 : 0 < a.natAbs * b.natAbs := Nat.mul_pos (by omega) (by omega)
      simp [ha, h2, h3, this]
  · subst ha; simp
  · have h1 : ¬ a < 0 := by omega
    rcases Int.lt_trichotomy b 0 with hb | hb | hb
    · have := Int.mul_neg_of_pos_of_neg ha hb
      have h3 : 0 < a.natAbs * b.natAbs := Nat.mul_pos (by omega) (by omega)
      simp [h1, hb, h3, this]
    · subst hb; simp
    · have := Int.mul_pos ha hb
      have h2 : ¬ b < 0 := by omega
      simp [h1, h2]; omega
set_option maxRecDepth 100000 in
set_option maxHeartbeats 8000000 in
theorem minusI_any (v : Value) (a : Int) (w : World) (h : IntV w v a) :
    Calls Tryz.prog 64 #[v] w (IntRes (-a) w) := by
  obtain ⟨u, rfl, hu⟩ := h
  obtain ⟨A, c, L, rfl, hL, _, _⟩ := nat_one hu
  obtain ⟨sa, hsa⟩ : ∃ s, decide (a < 0) = s := ⟨_, rfl⟩
  have HQ : Hid (decide (-a < 0) = (!sa && decide (0 < L))) := by
    show _ = _
    rw [← hsa, Bool.eq_iff_iff]
    simp only [decide_eq_true_eq, Bool.and_eq_true, Bool.not_eq_true', decide_eq_false_iff_not]
    constructor
    · intro h; refine ⟨by omega, ?_⟩
      rcases Nat.eq_zero_or_pos L with e | e
      · have := hL.1 e; omega
      · exact e
    · rintro ⟨h1, h2⟩
      have : a.natAbs ≠ 0 := fun e => by have := hL.2 e; omega
      omega
  rw [hsa]
  clear hsa
  obtain ⟨w1, hw1⟩ : ∃ w1, w1 = (w.alloc (.cells #[.bool sa, .slice A L c] 45)).alloc (.cells #[.bool false, .slice none 0 0] 45) := ⟨_, rfl⟩
  have hsz : (w.alloc (.cells #[.bool sa, .slice A L c] 45)).heap.size = w.heap.size + 1 := by simp
  have HB : Hid (Box w w1 (w.heap.size + 1) 45 [.bool false, .slice none 0 0]) := by
    rw [hw1]
    have := boxI w (w.alloc (.cells #[.bool sa, .slice A L c] 45)) ((Below.refl _ _).alloc (Nat.le_refl _) _) (.bool false) (.slice none 0 0) (by simp) (by simp)
    rw [hsz] at this
    exact this
  have HA : Hid (Blk w1 w.heap.size 45 [.bool sa, .slice A L c]) := by
    rw [hw1]
    exact (Below.heap_alloc _ _ _ (by simp)).trans (Blk.new w _ [.bool sa, .slice A L c])
  have HV := Lib.hid (hu.below HB.out.bel)
  have a0 : w1.cell? ⟨w.heap.size, 0, none⟩ = some (.bool sa) := HA.out.cell 0
  have a1 : w1.cell? ⟨w.heap.size, 1, none⟩ = some (.slice A L c) := HA.out.cell 1
  have d0 : w1.cell? ⟨w.heap.size + 1, 0, none⟩ = some (.bool false) := (HB.out.at_ (Below.refl _ _) 0).1
  have d1 : w1.cell? ⟨w.heap.size + 1, 1, none⟩ = some (.slice none 0 0) := (HB.out.at_ (Below.refl _ _) 1).1
  have f0 := (HB.out.at_ (Below.refl _ _) 0).2
  have f1 := (HB.out.at_ (Below.refl _ _) 1).2
  have HW1 := Lib.hid hw1
  have hne : w.heap.size ≠ w.heap.size + 1 := by omega
  clear hw1 hu hL hsz
  go_enter Tryz.func64, Tryz.ntmps64
  go_upto_region 1 with (fail)
  rw [← HW1.out]
  cases sa with
  | true =>
    obtain ⟨k1, ⟨k2, k3⟩, k4⟩ := HB.out.store2 (Below.refl _ _) HB.out.bel.size (.bool false) (.slice A L c)
    go_wp2_with fail
    refine bodyPost_ret (v := .agg #[.bool false, .slice A L c]) (by simp [results, Tryz.results64, go_sem, k2, k3]) rfl ⟨_, rfl, ⟨.slice A L c, by rw [HQ.out]; rfl, by rw [Int.natAbs_neg]; exact k4 _ _ HV.out⟩, k1⟩
  | false =>
    obtain ⟨k1, ⟨k2, k3⟩, k4⟩ := HB.out.store2 (Below.refl _ _) HB.out.bel.size (.bool (decide (0 < L))) (.slice A L c)
    go_wp2_with fail
    refine bodyPost_ret (v := .agg #[.bool (decide (0 < L)), .slice A L c]) (by simp [results, Tryz.results64, go_sem, k2, k3]) rfl ⟨_, rfl, ⟨.slice A L c, by rw [HQ.out]; rfl, by rw [Int.natAbs_neg]; exact k4 _ _ HV.out⟩, k1⟩
set_option maxRecDepth 100000 in
set_option maxHeartbeats 8000000 in
theorem mulI_any (va vb : Value) (a b : Int) (w : World) (h : IntV w va a) (g : IntV w vb b) (k k' : Nat) (hk : Lim k a.natAbs) (gk : Lim k' b.natAbs) (hk2 : k + k' ≤ 549755813888) :
    Calls Tryz.prog 29 #[va, vb] w (IntRes (a * b) w) := by
  obtain ⟨u, rfl, hu⟩ := h
  obtain ⟨u', rfl, gu⟩ := g
  have HQ := Lib.hid (mulI_sign a b)
  obtain ⟨sa, hsa⟩ : ∃ s, decide (a < 0) = s := ⟨_, rfl⟩
  obtain ⟨sb, hsb⟩ : ∃ s, decide (b < 0) = s := ⟨_, rfl⟩
  rw [hsa, hsb] at HQ
  rw [hsa, hsb]
  clear hsa hsb
  obtain ⟨A, L, c, rfl⟩ := slice_nat hu
  obtain ⟨B, M, d, rfl⟩ := slice_nat gu
  obtain ⟨w1, hw1⟩ : ∃ w1, w1 = ((w.alloc (.cells #[.bool sa, .slice A L c] 45)).alloc (.cells #[.bool sb, .slice B M d] 45)).alloc (.cells #[.bool false, .slice none 0 0] 45) := ⟨_, rfl⟩
  have hsz : (w.alloc (.cells #[.bool sa, .slice A L c] 45)).heap.size = w.heap.size + 1 := by simp
  have hsz2 : ((w.alloc (.cells #[.bool sa, .slice A L c] 45)).alloc (.cells #[.bool sb, .slice B M d] 45)).heap.size = w.heap.size + 1 + 1 := by simp
  have HB : Hid (Box w w1 (w.heap.size + 1 + 1) 45 [.bool false, .slice none 0 0]) := by
    rw [hw1]
    have := boxI w ((w.alloc (.cells #[.bool sa, .slice A L c] 45)).alloc (.cells #[.bool sb, .slice B M d] 45)) (((Below.refl _ _).alloc (Nat.le_refl _) _).alloc (by simp) _) (.bool false) (.slice none 0 0) (by simp) (by simp)
    rw [hsz2] at this
    exact this
  have HA : Hid (Blk w1 w.heap.size 45 [.bool sa, .slice A L c] ∧ Blk w1 (w.heap.size + 1) 45 [.bool sb, .slice B M d]) := by
    rw [hw1]
    have k1 := Blk.new w 45 [.bool sa, .slice A L c]
    have k2 := Blk.new (w.alloc (.cells #[.bool sa, .slice A L c] 45)) 45 [.bool sb, .slice B M d]
    rw [hsz] at k2
    exact ⟨(k1.same (Same.alloc (S := fun _ => True) _ _) trivial).same (Same.alloc (S := fun _ => True) _ _) trivial, k2.same (Same.alloc (S := fun _ => True) _ _) trivial⟩
  have HMU := Lib.hid (mulN_any _ _ a.natAbs b.natAbs w1 (hu.below HB.out.bel) (gu.below HB.out.bel) k k' hk gk hk2)
  have a1 : w1.cell? ⟨w.heap.size, 1, none⟩ = some (.slice A L c) := HA.out.1.cell 1
  have b1 : w1.cell? ⟨w.heap.size + 1, 1, none⟩ = some (.slice B M d) := HA.out.2.cell 1
  have HW1 := Lib.hid hw1
  have hne : w.heap.size ≠ w.heap.size + 1 := by omega
  have hne2 : w.heap.size ≠ w.heap.size + 1 + 1 := by omega
  have hne3 : w.heap.size + 1 ≠ w.heap.size + 1 + 1 := by omega
  clear hw1 hu gu hsz hsz2 hk gk
  go_enter Tryz.func29, Tryz.ntmps29
  go_upto_region 1 with (fail)
  rw [← HW1.out]
  go_wp2_with fail
  refine HMU.out.mono ?_
  rintro e w2 ⟨v, rfl, hv, hb2⟩
  obtain ⟨C, f, N, rfl, hN, _, _⟩ := nat_one hv
  have HV := Lib.hid hv
  have HB2 := Lib.hid hb2
  have a0 : w2.cell? ⟨w.heap.size, 0, none⟩ = some (.bool sa) := (HA.out.1.same (Same.of_below (S := fun _ => True) hb2) trivial).cell 0
  have b0 : w2.cell? ⟨w.heap.size + 1, 0, none⟩ = some (.bool sb) := (HA.out.2.same (Same.of_below (S := fun _ => True) hb2) trivial).cell 0
  have d0 : w2.cell? ⟨w.heap.size + 1 + 1, 0, none⟩ = some (.bool false) := (HB.out.at_ hb2 0).1
  have d1 : w2.cell? ⟨w.heap.size + 1 + 1, 1, none⟩ = some (.slice none 0 0) := (HB.out.at_ hb2 1).1
  have f0 := (HB.out.at_ hb2 0).2
  have f1 := (HB.out.at_ hb2 1).2
  have HQ2 : Hid (decide (a * b < 0) = ((sa != sb) && decide (0 < N))) := by
    show _ = _
    rw [HQ.out]
    congr 1
    rw [decide_eq_decide]
    constructor
    · intro h
      rcases Nat.eq_zero_or_pos N with e | e
      · have := hN.1 e; omega
      · exact e
    · intro h
      rcases Nat.eq_zero_or_pos (a.natAbs * b.natAbs) with e | e
      · have := hN.2 e; omega
      · exact e
  have HMA : Hid ((a * b).natAbs = a.natAbs * b.natAbs) := Int.natAbs_mul a b
  clear hv hb2 hN a1 b1
  cases sa <;> cases sb
  · obtain ⟨k1, ⟨k2, k3⟩, k4⟩ := HB.out.store2 HB2.out HB.out.bel.size (.bool false) (.slice C N f)
    go_wp2_with fail
    refine bodyPost_ret (v := .agg #[.bool false, .slice C N f]) (by simp [results, Tryz.results29, go_sem, k2, k3]) rfl ⟨_, rfl, ⟨.slice C N f, by rw [HQ2.out]; rfl, by rw [HMA.out]; exact k4 _ _ HV.out⟩, k1⟩
  · obtain ⟨k1, ⟨k2, k3⟩, k4⟩ := HB.out.store2 HB2.out HB.out.bel.size (.bool (decide (0 < N))) (.slice C N f)
    go_wp2_with fail
    refine bodyPost_ret (v := .agg #[.bool (decide (0 < N)), .slice C N f]) (by simp [results, Tryz.results29, go_sem, k2, k3]) rfl ⟨_, rfl, ⟨.slice C N f, by rw [HQ2.out]; rfl, by rw [HMA.out]; exact k4 _ _ HV.out⟩, k1⟩
  · obtain ⟨k1, ⟨k2, k3⟩, k4⟩ := HB.out.store2 HB2.out HB.out.bel.size (.bool (decide (0 < N))) (.slice C N f)
    go_wp2_with fail
    refine bodyPost_ret (v := .agg #[.bool (decide (0 < N)), .slice C N f]) (by simp [results, Tryz.results29, go_sem, k2, k3]) rfl ⟨_, rfl, ⟨.slice C N f, by rw [HQ2.out]; rfl, by rw [HMA.out]; exact k4 _ _ HV.out⟩, k1⟩
  · obtain ⟨k1, ⟨k2, k3⟩, k4⟩ := HB.out.store2 HB2.out HB.out.bel.size (.bool false) (.slice C N f)
    go_wp2_with fail
    refine bodyPost_ret (v := .agg #[.bool false, .slice C N f]) (by simp [results, Tryz.results29, go_sem, k2, k3]) rfl ⟨_, rfl, ⟨.slice C N f, by rw [HQ2.out]; rfl, by rw [HMA.out]; exact k4 _ _ HV.out⟩, k1⟩
end Go.Proofs.YtmknpeoflafaoabGreatDoor
/- Generated (gen/intb.py): the contracts of num.Int's Add and Sub. -/
namespace Go.Proofs.YtmknpeoflafaoabGreatDoor
open Go.RowKit Go.Dw
attribute [local go_sem ↓] Go.wp_at_zero Go.wp_at_succ

set_option maxRecDepth 100000 in
set_option maxHeartbeats 8000000 in
theorem addI_any (va vb : Value) (a b : Int) (w : World) (h : IntV w va a) (g : IntV w vb b) (k : Nat) (hk : Lim k a.natAbs) (gk : Lim k b.natAbs) (hk2 : k ≤ 549755813888) :
    Calls Tryz.prog 28 #[va, vb] w (IntRes (a + b) w) := by
  obtain ⟨u, rfl, hu⟩ := h
  obtain ⟨u', rfl, gu⟩ := g
  obtain ⟨sa, hsa⟩ : ∃ s, decide (a < 0) = s := ⟨_, rfl⟩
  obtain ⟨sb, hsb⟩ : ∃ s, decide (b < 0) = s := ⟨_, rfl⟩
  rw [hsa, hsb]
  obtain ⟨A, L, c, rfl⟩ := slice_nat hu
  obtain ⟨B, M, d, rfl⟩ := slice_nat gu
  obtain ⟨w1, hw1⟩ : ∃ w1, w1 = ((w.alloc (.cells #[.bool sa, .slice A L c] 45)).alloc (.cells #[.bool sb, .slice B M d] 45)).alloc (.cells #[.bool false, .slice none 0 0] 45) := ⟨_, rfl⟩
  have hsz : (w.alloc (.cells #[.bool sa, .slice A L c] 45)).heap.size = w.heap.size + 1 := by simp
  have hsz2 : ((w.alloc (.cells #[.bool sa, .slice A L c] 45)).alloc (.cells #[.bool sb, .slice B M d] 45)).heap.size = w.heap.size + 1 + 1 := by simp
  have hsz3 : w1.heap.size = w.heap.size + 3 := by rw [hw1]; simp
  have HB : Hid (Box w w1 (w.heap.size + 1 + 1) 45 [.bool false, .slice none 0 0]) := by
    rw [hw1]
    have := boxI w ((w.alloc (.cells #[.bool sa, .slice A L c] 45)).alloc (.cells #[.bool sb, .slice B M d] 45)) (((Below.refl _ _).alloc (Nat.le_refl _) _).alloc (by simp) _) (.bool false) (.slice none 0 0) (by simp) (by simp)
    rw [hsz2] at this
    exact this
  have HA : Hid (Blk w1 w.heap.size 45 [.bool sa, .slice A L c] ∧ Blk w1 (w.heap.size + 1) 45 [.bool sb, .slice B M d]) := by
    rw [hw1]
    have k1 := Blk.new w 45 [.bool sa, .slice A L c]
    have k2 := Blk.new (w.alloc (.cells #[.bool sa, .slice A L c] 45)) 45 [.bool sb, .slice B M d]
    rw [hsz] at k2
    exact ⟨(k1.same (Same.alloc (S := fun _ => True) _ _) trivial).same (Same.alloc (S := fun _ => True) _ _) trivial, k2.same (Same.alloc (S := fun _ => True) _ _) trivial⟩
  have HS : Hid (∀ W, Gv (w.heap.size + 1 + 1) w1 W → W.cell? ⟨w.heap.size, 0, none⟩ = some (.bool sa) ∧ W.cell? ⟨w.heap.size, 1, none⟩ = some (.slice A L c) ∧ W.cell? ⟨w.heap.size + 1, 0, none⟩ = some (.bool sb) ∧ W.cell? ⟨w.heap.size + 1, 1, none⟩ = some (.slice B M d) ∧ Gv (w.heap.size + 1 + 1) w1 W) := fun W hW => by
    have c0 : Blk W w.heap.size 45 [.bool sa, .slice A L c] := (Below.block hW _ (by omega)).trans HA.out.1
    have c1 : Blk W (w.heap.size + 1) 45 [.bool sb, .slice B M d] := (Below.block hW _ (by omega)).trans HA.out.2
    exact ⟨c0.cell 0, c0.cell 1, c1.cell 0, c1.cell 1, hW⟩
  have HCE : Hid (∀ W, Gw w1 W → W.cell? ⟨w.heap.size + 1 + 1, 0, none⟩ = some (.bool false) ∧ W.cell? ⟨w.heap.size + 1 + 1, 1, none⟩ = some (.slice none 0 0) ∧ W.frozen? ⟨w.heap.size + 1 + 1, 0, none⟩ = false ∧ W.frozen? ⟨w.heap.size + 1 + 1, 1, none⟩ = false) := fun W hW =>
    ⟨(HB.out.at_ hW 0).1, (HB.out.at_ hW 1).1, (HB.out.at_ hW 0).2, (HB.out.at_ hW 1).2⟩
  have HU : Hid (∀ W, Gw w1 W → NatV W (.slice A L c) a.natAbs ∧ NatV W (.slice B M d) b.natAbs) := fun W hW => ⟨(hu.below HB.out.bel).below hW, (gu.below HB.out.bel).below hW⟩
  have hz2 : w.heap.size + 1 + 1 ≤ w1.heap.size := by omega
  have HW1 := Lib.hid hw1
  have hne : w.heap.size ≠ w.heap.size + 1 := by omega
  have hne2 : w.heap.size ≠ w.heap.size + 1 + 1 := by omega
  have hne3 : w.heap.size + 1 ≠ w.heap.size + 1 + 1 := by omega
  have HK := Lib.hid (And.intro hk gk)
  have hqB0 : Gw w1 w1 := Gw.refl _
  obtain ⟨a0, a1, b0, b1, -⟩ := HS.out w1 (hqB0.gv hz2)
  clear hw1 hu gu hsz hsz2 hsz3 hk gk
  by_cases hs : sa = sb
  · have HN : Hid ((a + b).natAbs = a.natAbs + b.natAbs) := by
      show _ = _
      rw [← hsa, ← hsb, decide_eq_decide] at hs
      omega
    have HQ : Hid (decide (a + b < 0) = sa) := by
      show _ = _
      rw [← hsa, decide_eq_decide]
      rw [← hsa, ← hsb, decide_eq_decide] at hs
      omega
    have hss : (sa == sb) = true := by simp [hs]
    have HCL : Hid (∀ W, Gw w1 W → Calls Tryz.prog 57 #[.slice A L c, .slice B M d] W fun e W' => ∃ C N f, e = .returned (.slice C N f) ∧ Hid (NatV W' (.slice C N f) (a.natAbs + b.natAbs)) ∧ Gw w1 W') := fun W hW =>
      (addN_any _ _ a.natAbs b.natAbs W (HU.out W hW).1 (HU.out W hW).2 k HK.out.1 HK.out.2 hk2).mono fun e W' ⟨v, h1, h3, h4⟩ => by
        obtain ⟨C, N, f, rfl⟩ := slice_nat h3
        exact ⟨C, N, f, h1, h3, Gw.step hW h4⟩
    clear hs hsa hsb
    go_enter Tryz.func28, Tryz.ntmps28
    go_upto_region 1 with (fail)
    rw [← HW1.out]
    go_upto_region 2 with (fail)
    have hBD : Gw w1 w1.drew := (Gw.refl _).drew
    have hqC : Gw w1 w1 := Gw.refl _
    have hqB : Gw w1 w1 := Gw.refl _
    clear a0 a1 b0 b1
    go_region_held3 (fun W => W.cell? ⟨w.heap.size, 0, none⟩ = some (.bool sa) ∧ W.cell? ⟨w.heap.size, 1, none⟩ = some (.slice A L c) ∧ W.cell? ⟨w.heap.size + 1, 0, none⟩ = some (.bool sb) ∧ W.cell? ⟨w.heap.size + 1, 1, none⟩ = some (.slice B M d) ∧ Gv (w.heap.size + 1 + 1) w1 W)
      (first | exact HS.out _ (hBD.gv hz2) | exact HS.out _ (hqC.gv hz2) | exact HS.out _ (hqB.gv hz2) | exact HS.out _ (((hqB.gv hz2).set ⟨w.heap.size + 1 + 1, 0, none⟩ (Nat.le_refl _) _).set ⟨w.heap.size + 1 + 1, 1, none⟩ (Nat.le_refl _) _))
      (first | (go_at_call 57; (with_reducible refine (HCL.out _ (by first | exact hBD | assumption)).mono ?_); rintro e w' ⟨C, N, f, rfl, hv, hqB⟩; obtain ⟨q0, q1, q2, q3⟩ := HCE.out _ hqB))
    all_goals
      obtain ⟨k1, ⟨k2, k3⟩, k4⟩ := HB.out.store2 (W := w') hqB HB.out.bel.size (.bool sa) (.slice C N f)
      go_wp2_with fail
      refine bodyPost_ret (v := .agg #[.bool sa, .slice C N f]) (by simp [results, Tryz.results28, go_sem, k2, k3]) rfl ⟨_, rfl, ⟨.slice C N f, by rw [HQ.out], by rw [HN.out]; exact k4 _ _ (Hid.out hv)⟩, k1⟩
  · have hss : (sa == sb) = false := by simpa using hs
    have HC : Hid (∀ W, Gw w1 W → Calls Tryz.prog 26 #[.slice A L c, .slice B M d] W fun e W' => e = .returned (.int .i64 (cmpN a.natAbs b.natAbs)) ∧ Gw w1 W') := fun W hW =>
      (cmpN_any _ _ a.natAbs b.natAbs W (HU.out W hW).1 (HU.out W hW).2 k HK.out.1 HK.out.2 (by omega)).mono fun e W' ⟨h1, h2⟩ => ⟨h1, hW.step h2.below⟩
    have hsg : (a < 0 ∧ ¬ b < 0 ∧ sa = true ∧ sb = false) ∨ (¬ a < 0 ∧ b < 0 ∧ sa = false ∧ sb = true) := by
      rw [← hsa, ← hsb] at hs ⊢
      by_cases h1 : a < 0 <;> by_cases h2 : b < 0 <;> simp [h1, h2] at hs ⊢
    clear hs
    rcases Nat.lt_trichotomy a.natAbs b.natAbs with hc | hc | hc
    · rw [cmpN_lt hc] at HC
      have HN : Hid ((a + b).natAbs = b.natAbs - a.natAbs) := by show _ = _; omega
      have HQ : Hid (decide (a + b < 0) = sb) := by
        show _ = _
        rw [← hsb, decide_eq_decide]
        omega
      have HLE : Hid (a.natAbs ≤ b.natAbs) := Nat.le_of_lt hc
      have HCL : Hid (∀ W, Gw w1 W → Calls Tryz.prog 58 #[.slice B M d, .slice A L c] W fun e W' => ∃ C N f, e = .returned (.slice C N f) ∧ Hid (NatV W' (.slice C N f) (b.natAbs - a.natAbs)) ∧ Gw w1 W') := fun W hW =>
        (subN_any _ _ b.natAbs a.natAbs W (HU.out W hW).2 (HU.out W hW).1 k HK.out.2 HLE.out hk2).mono fun e W' ⟨v, h1, h3, h4⟩ => by
          obtain ⟨C, N, f, rfl⟩ := slice_nat h3
          exact ⟨C, N, f, h1, h3, Gw.step hW h4⟩
      clear hc hsg hsa hsb
      go_enter Tryz.func28, Tryz.ntmps28
      go_upto_region 1 with (fail)
      rw [← HW1.out]
      go_wp2_with fail
      refine (HC.out w1 hqB0).mono ?_
      rintro e w2 ⟨rfl, hqC⟩
      go_upto_region 8 with (fail)
      have hBD : Gw w1 w2.drew := hqC.drew
      have hqB : Gw w1 w2 := hqC
      clear a0 a1 b0 b1
      go_region_held3 (fun W => W.cell? ⟨w.heap.size, 0, none⟩ = some (.bool sa) ∧ W.cell? ⟨w.heap.size, 1, none⟩ = some (.slice A L c) ∧ W.cell? ⟨w.heap.size + 1, 0, none⟩ = some (.bool sb) ∧ W.cell? ⟨w.heap.size + 1, 1, none⟩ = some (.slice B M d) ∧ Gv (w.heap.size + 1 + 1) w1 W)
        (first | exact HS.out _ (hBD.gv hz2) | exact HS.out _ (hqC.gv hz2) | exact HS.out _ (hqB.gv hz2) | exact HS.out _ (((hqB.gv hz2).set ⟨w.heap.size + 1 + 1, 0, none⟩ (Nat.le_refl _) _).set ⟨w.heap.size + 1 + 1, 1, none⟩ (Nat.le_refl _) _))
        (first | (go_at_call 58; (with_reducible refine (HCL.out _ (by first | exact hBD | assumption)).mono ?_); rintro e w' ⟨C, N, f, rfl, hv, hqB⟩; obtain ⟨q0, q1, q2, q3⟩ := HCE.out _ hqB))
      all_goals
        obtain ⟨k1, ⟨k2, k3⟩, k4⟩ := HB.out.store2 (W := w') hqB HB.out.bel.size (.bool sb) (.slice C N f)
        go_wp2_with fail
        refine bodyPost_ret (v := .agg #[.bool sb, .slice C N f]) (by simp [results, Tryz.results28, go_sem, k2, k3]) rfl ⟨_, rfl, ⟨.slice C N f, by rw [HQ.out], by rw [HN.out]; exact k4 _ _ (Hid.out hv)⟩, k1⟩
    · have HQ : Hid (a + b = 0) := by show _ = _; omega
      rw [hc, cmpN_eq] at HC
      clear hc hsg hsa hsb
      go_enter Tryz.func28, Tryz.ntmps28
      go_upto_region 1 with (fail)
      rw [← HW1.out]
      go_wp2_with fail
      refine (HC.out w1 hqB0).mono ?_
      rintro e w2 ⟨rfl, hqC⟩
      obtain ⟨q0, q1, q2, q3⟩ := HCE.out _ hqC
      obtain ⟨k1, ⟨k2, k3⟩, k4⟩ := HB.out.store2 (W := w2) hqC HB.out.bel.size (.bool false) (.slice none 0 0)
      go_wp2_with fail
      refine bodyPost_ret (v := .agg #[.bool false, .slice none 0 0]) (by simp [results, Tryz.results28, go_sem, k2, k3]) rfl ⟨_, rfl, ⟨.slice none 0 0, by rw [HQ.out]; rfl, by rw [HQ.out]; exact nat_zero _⟩, k1⟩
    · rw [cmpN_gt hc] at HC
      have HN : Hid ((a + b).natAbs = a.natAbs - b.natAbs) := by show _ = _; omega
      have HQ : Hid (decide (a + b < 0) = sa) := by
        show _ = _
        rw [← hsa, decide_eq_decide]
        omega
      have HLE : Hid (b.natAbs ≤ a.natAbs) := Nat.le_of_lt hc
      have HCL : Hid (∀ W, Gw w1 W → Calls Tryz.prog 58 #[.slice A L c, .slice B M d] W fun e W' => ∃ C N f, e = .returned (.slice C N f) ∧ Hid (NatV W' (.slice C N f) (a.natAbs - b.natAbs)) ∧ Gw w1 W') := fun W hW =>
        (subN_any _ _ a.natAbs b.natAbs W (HU.out W hW).1 (HU.out W hW).2 k HK.out.1 HLE.out hk2).mono fun e W' ⟨v, h1, h3, h4⟩ => by
          obtain ⟨C, N, f, rfl⟩ := slice_nat h3
          exact ⟨C, N, f, h1, h3, Gw.step hW h4⟩
      clear hc hsg hsa hsb
      go_enter Tryz.func28, Tryz.ntmps28
      go_upto_region 1 with (fail)
      rw [← HW1.out]
      go_wp2_with fail
      refine (HC.out w1 hqB0).mono ?_
      rintro e w2 ⟨rfl, hqC⟩
      go_upto_region 7 with (fail)
      have hBD : Gw w1 w2.drew := hqC.drew
      have hqB : Gw w1 w2 := hqC
      clear a0 a1 b0 b1
      go_region_held3 (fun W => W.cell? ⟨w.heap.size, 0, none⟩ = some (.bool sa) ∧ W.cell? ⟨w.heap.size, 1, none⟩ = some (.slice A L c) ∧ W.cell? ⟨w.heap.size + 1, 0, none⟩ = some (.bool sb) ∧ W.cell? ⟨w.heap.size + 1, 1, none⟩ = some (.slice B M d) ∧ Gv (w.heap.size + 1 + 1) w1 W)
        (first | exact HS.out _ (hBD.gv hz2) | exact HS.out _ (hqC.gv hz2) | exact HS.out _ (hqB.gv hz2) | exact HS.out _ (((hqB.gv hz2).set ⟨w.heap.size + 1 + 1, 0, none⟩ (Nat.le_refl _) _).set ⟨w.heap.size + 1 + 1, 1, none⟩ (Nat.le_refl _) _))
        (first | (go_at_call 58; (with_reducible refine (HCL.out _ (by first | exact hBD | assumption)).mono ?_); rintro e w' ⟨C, N, f, rfl, hv, hqB⟩; obtain ⟨q0, q1, q2, q3⟩ := HCE.out _ hqB))
      all_goals
        obtain ⟨k1, ⟨k2, k3⟩, k4⟩ := HB.out.store2 (W := w') hqB HB.out.bel.size (.bool sa) (.slice C N f)
        go_wp2_with fail
        refine bodyPost_ret (v := .agg #[.bool sa, .slice C N f]) (by simp [results, Tryz.results28, go_sem, k2, k3]) rfl ⟨_, rfl, ⟨.slice C N f, by rw [HQ.out], by rw [HN.out]; exact k4 _ _ (Hid.out hv)⟩, k1⟩
end Go.Proofs.YtmknpeoflafaoabGreatDoor
/- The contract of num.Of. -/
namespace Go.Proofs.YtmknpeoflafaoabGreatDoor
open Go.RowKit Go.Dw
attribute [local go_sem ↓] Go.wp_at_zero Go.wp_at_succ

theorem wrap_neg1 {n : Int} (h : -9223372036854775808 ≤ n ∧ n < 0) : IntKind.u64.wrap n = n + 18446744073709551616 := by
  unfold IntKind.wrap
  simp [IntKind.signed, IntKind.bits]
  omega
theorem wrap_neg2 {n : Int} (h : -9223372036854775808 ≤ n ∧ n < 0) : IntKind.u64.wrap (-(n + 18446744073709551616)) = -n := by
  unfold IntKind.wrap
  simp [IntKind.signed, IntKind.bits]
  omega
set_option maxRecDepth 100000 in
set_option maxHeartbeats 8000000 in
theorem ofI_any (n : Int) (w : World) (hn : inI64 n) :
    Calls Tryz.prog 65 #[.int .i64 n] w (IntRes n w) := by
  obtain ⟨hn1, hn2⟩ := hn
  obtain ⟨w1, hw1⟩ : ∃ w1, w1 = w.alloc (.cells #[.bool false, .slice none 0 0] 45) := ⟨_, rfl⟩
  have HB : Hid (Box w w1 w.heap.size 45 [.bool false, .slice none 0 0]) := by
    rw [hw1]; exact boxI w w (Below.refl _ _) (.bool false) (.slice none 0 0) (by simp) (by simp)
  have HW1 := Lib.hid hw1
  clear hw1
  by_cases h0 : n < 0
  · obtain ⟨m, hm⟩ : ∃ m : Nat, (m : Int) = -n := ⟨n.natAbs, by omega⟩
    have HNO := Lib.hid (natOf_any m w1 (by omega))
    rw [hm] at HNO
    have HA : Hid (n.natAbs = m) := by show _ = _; omega
    have hw2 := wrap_neg1 ⟨hn1, h0⟩
    have hw3 := wrap_neg2 ⟨hn1, h0⟩
    have HS : Hid (decide (n < 0) = true) := decide_eq_true h0
    have hd : decide (n < 0) = true := decide_eq_true h0
    clear hm
    go_enter Tryz.func65, Tryz.ntmps65
    go_upto_region 1 with (fail)
    rw [← HW1.out]
    go_wp2_with fail
    refine HNO.out.mono ?_
    rintro e w2 ⟨v, rfl, hv, hb⟩
    obtain ⟨A, L, c, rfl⟩ := slice_nat hv
    have d0 : w2.cell? ⟨w.heap.size, 0, none⟩ = some (.bool false) := (HB.out.at_ hb 0).1
    have d1 : w2.cell? ⟨w.heap.size, 1, none⟩ = some (.slice none 0 0) := (HB.out.at_ hb 1).1
    have f0 := (HB.out.at_ hb 0).2
    have f1 := (HB.out.at_ hb 1).2
    obtain ⟨k1, ⟨k2, k3⟩, k4⟩ := HB.out.store2 hb HB.out.bel.size (.bool true) (.slice A L c)
    have HV := Lib.hid hv
    clear hv hb
    go_wp2_with fail
    refine bodyPost_ret (v := .agg #[.bool true, .slice A L c]) (by simp [results, Tryz.results65, go_sem, k2, k3]) rfl ⟨_, rfl, ⟨.slice A L c, by rw [HS.out], by rw [HA.out]; exact k4 _ _ HV.out⟩, k1⟩
  · obtain ⟨m, hm⟩ : ∃ m : Nat, (m : Int) = n := ⟨n.natAbs, by omega⟩
    have HNO := Lib.hid (natOf_any m w1 (by omega))
    rw [hm] at HNO
    have HA : Hid (n.natAbs = m) := by show _ = _; omega
    have hw2 : IntKind.u64.wrap n = n := IntWalk.u64_in _ (by omega)
    have HS : Hid (decide (n < 0) = false) := decide_eq_false h0
    have hd : decide (n < 0) = false := decide_eq_false h0
    clear hm
    go_enter Tryz.func65, Tryz.ntmps65
    go_upto_region 1 with (fail)
    rw [← HW1.out]
    go_wp2_with fail
    refine HNO.out.mono ?_
    rintro e w2 ⟨v, rfl, hv, hb⟩
    obtain ⟨A, L, c, rfl⟩ := slice_nat hv
    have d0 : w2.cell? ⟨w.heap.size, 0, none⟩ = some (.bool false) := (HB.out.at_ hb 0).1
    have d1 : w2.cell? ⟨w.heap.size, 1, none⟩ = some (.slice none 0 0) := (HB.out.at_ hb 1).1
    have f0 := (HB.out.at_ hb 0).2
    have f1 := (HB.out.at_ hb 1).2
    obtain ⟨k1, ⟨k2, k3⟩, k4⟩ := HB.out.store2 hb HB.out.bel.size (.bool false) (.slice A L c)
    have HV := Lib.hid hv
    clear hv hb
    go_wp2_with fail
    refine bodyPost_ret (v := .agg #[.bool false, .slice A L c]) (by simp [results, Tryz.results65, go_sem, k2, k3]) rfl ⟨_, rfl, ⟨.slice A L c, by rw [HS.out], by rw [HA.out]; exact k4 _ _ HV.out⟩, k1⟩
end Go.Proofs.YtmknpeoflafaoabGreatDoor
