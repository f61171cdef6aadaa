/- Several texts laid into one: The contracts of the reference's Of and Long; The contract of the reference's Long; -/
import Derived.Test.YteaghgbpcpileaaGreatDoorCkZ
import Derived.Test.YteaghgbpcpileaaGreatDoorLmbY
import Derived.Deep.DrawnRows
import Derived.Deep.RegionHeld3
import Derived.Deep.DeepCutAuto
import Derived.Deep.CutBlock
import Derived.Deep.RegionLaw
/- The contracts of the reference's Of and Long. -/
namespace Go.Proofs.YteaghgbpcpileaaGreatDoor
open Go.RowKit Go.Dw
attribute [local go_sem ↓] Go.wp_at_zero Go.wp_at_succ

/-- a number of the reference's: sign, top, bottom -/
def NumR (w : World) (v : Value) (sg : Bool) (a b : Nat) : Prop := ∃ x y, v = .agg #[.bool sg, x, y] ∧ LimV w x a ∧ LimV w y b
theorem NumR.below {w w' : World} {v : Value} {sg : Bool} {a b : Nat} (h : NumR w v sg a b) (hb : Below w.heap.size w w') : NumR w' v sg a b := by
  obtain ⟨x, y, e, h1, h2⟩ := h
  exact ⟨x, y, e, h1.below hb, h2.below hb⟩
theorem lim_form {w : World} {v : Value} {n : Nat} (h : LimV w v n) : ∃ A L c, v = .slice A L c := by
  obtain ⟨A, c, l, rfl, _⟩ := h
  exact ⟨A, _, c, rfl⟩
/-- below B all is as it was -/
def Gz (B : Nat) (w W : World) : Prop := Below B w W
theorem Gq.gz {w W : World} (h : Gq w W) {B : Nat} (hB : B ≤ w.heap.size) : Gz B w W := Below.mono h hB
theorem Gz.set {B : Nat} {w W : World} (h : Gz B w W) (p : Addr) (hp : B ≤ p.block) (v : Value) : Gz B w (W.setCell p v) := Below.setCell h hp v
theorem boT_drop {s : ByteArray} (h : sgT s = true) : boT s = s.data.toList.drop 1 := by
  rw [boT_eq, if_pos (by have : sgT s = decide (s.data.toList.head? = some 45) := pre45 _; rw [this] at h; exact of_decide_eq_true h)]
theorem boT_same {s : ByteArray} (h : sgT s = false) : boT s = s.data.toList := by
  rw [boT_eq, if_neg (by have : sgT s = decide (s.data.toList.head? = some 45) := pre45 _; rw [this] at h; exact of_decide_eq_false h)]
theorem lim_set3 {w : World} {v : Value} {n g : Nat} (h : LimV w v n) (f : FrB (g + 1) v) (x y z : Value) : LimV (((w.setCell ⟨g, 0, none⟩ x).setCell ⟨g, 1, none⟩ y).setCell ⟨g, 2, none⟩ z) v n := by
  have hne : v.ownBlock ≠ some g := fun e => by have := f.1 _ e; omega
  exact LimV.set (LimV.set (LimV.set h hne x) hne y) hne z
theorem laterL {w w' : World} {v : Value} {n : Nat} (h : Hid (LimV w v n)) (k : Hid (Gq w w')) : LimV w' v n := LimV.below h.out k.out
set_option maxRecDepth 100000 in
set_option maxHeartbeats 8000000 in
theorem ofR_any (num den : ByteArray) (w : World) (h : RatR num den) (hs : num.size ≤ 9223372036854775807) :
    Calls Tryz.prog 63 #[.agg #[.string num, .string den]] w fun e w' => ∃ v, e = .returned v ∧ NumR w' v (sgT num) (valD (boT num)) (valD den.data.toList) ∧ Below w.heap.size w w' := by
  obtain ⟨w1, hw1⟩ : ∃ w1, w1 = (w.alloc (.cells #[.string num, .string den] 73)).alloc (.cells #[.bool false, .slice none 0 0, .slice none 0 0] 94) := ⟨_, rfl⟩
  have hz1 : w1.heap.size = w.heap.size + 2 := by rw [hw1]; simp
  have HB : Hid (Below w.heap.size w w1) := by rw [hw1]; exact ((Below.refl _ _).alloc (Nat.le_refl _) _).alloc (by simp) _
  have HG : Hid (Blk w1 (w.heap.size + 1) 94 [.bool false, .slice none 0 0, .slice none 0 0]) := by
    rw [hw1]
    have := Blk.new (w.alloc (.cells #[.string num, .string den] 73)) 94 [.bool false, .slice none 0 0, .slice none 0 0]
    rw [show (w.alloc (.cells #[.string num, .string den] 73)).heap.size = w.heap.size + 1 by simp] at this
    exact this
  have HA : Hid (Blk w1 w.heap.size 73 [.string num, .string den]) := by
    rw [hw1]
    exact (Below.heap_alloc _ _ _ (by simp)).trans (Blk.new w _ [.string num, .string den])
  have HS : Hid (∀ W, Gz (w.heap.size + 1) w1 W → W.cell? ⟨w.heap.size, 1, none⟩ = some (.string den) ∧ Gz (w.heap.size + 1) w1 W) := fun W hW => by
    have c0 : Blk W w.heap.size 73 [.string num, .string den] := (Below.block hW _ (by omega)).trans HA.out
    exact ⟨c0.cell 1, hW⟩
  have c0 : w1.cell? ⟨w.heap.size, 0, none⟩ = some (.string num) := HA.out.cell 0
  obtain ⟨n, hn⟩ : ∃ n : ByteArray, n = ⟨(boT num).toArray⟩ := ⟨_, rfl⟩
  have hnl : n.data.toList = boT num := by rw [hn]
  have hnz : n.size ≤ 2000 := by have := h.nl; rw [← hnl, Array.length_toList] at this; exact this
  have hdz : den.size ≤ 2000 := by have := h.dl; rw [Array.length_toList] at this; exact this
  have HLA : Hid (∀ W, Gq w1 W → Calls Tryz.prog 80 #[.string n] W fun e W' => ∃ A L c, e = .returned (.slice A L c) ∧ Hid (LimV W' (.slice A L c) (valD (boT num))) ∧ Hid (FrB (w.heap.size + 2) (.slice A L c)) ∧ Hid (Gq W W') ∧ Gq w1 W') := fun W hW =>
    (limbsR_any n W (by rw [hnl]; exact ((noZ_iff _).1 h.nz).1) (by omega)).mono fun e W' ⟨v, h1, h2, h3, h4⟩ => by
      obtain ⟨A, L, c, rfl⟩ := lim_form h2
      rw [hnl] at h2
      exact ⟨A, L, c, h1, h2, h3.mono (by have := Below.size hW; omega), h4, hW.trans h4⟩
  have HLB : Hid (∀ W, Gq w1 W → Calls Tryz.prog 80 #[.string den] W fun e W' => ∃ A L c, e = .returned (.slice A L c) ∧ Hid (LimV W' (.slice A L c) (valD den.data.toList)) ∧ Hid (FrB (w.heap.size + 2) (.slice A L c)) ∧ Hid (Gq W W') ∧ Gq w1 W') := fun W hW =>
    (limbsR_any den W ((noZ_iff _).1 h.dz).1 (by omega)).mono fun e W' ⟨v, h1, h2, h3, h4⟩ => by
      obtain ⟨A, L, c, rfl⟩ := lim_form h2
      exact ⟨A, L, c, h1, h2, h3.mono (by have := Below.size hW; omega), h4, hW.trans h4⟩
  have HCE : Hid (∀ W, Gq w1 W → W.cell? ⟨w.heap.size + 1, 0, none⟩ = some (.bool false) ∧ W.cell? ⟨w.heap.size + 1, 1, none⟩ = some (.slice none 0 0) ∧ W.cell? ⟨w.heap.size + 1, 2, none⟩ = some (.slice none 0 0) ∧ W.frozen? ⟨w.heap.size + 1, 0, none⟩ = false ∧ W.frozen? ⟨w.heap.size + 1, 1, none⟩ = false ∧ W.frozen? ⟨w.heap.size + 1, 2, none⟩ = false) := fun W hW => by
    have k := HG.out.same (Same.of_below (S := fun _ => True) hW) trivial
    exact ⟨k.cell 0, k.cell 1, k.cell 2, k.frozen 0, k.frozen 1, k.frozen 2⟩
  have HEND : Hid (∀ W A L c B M c2 sb, Gq w1 W → LimV W (.slice A L c) (valD (boT num)) → LimV W (.slice B M c2) (valD den.data.toList) → FrB (w.heap.size + 2) (.slice A L c) → FrB (w.heap.size + 2) (.slice B M c2) →
      Below w.heap.size w (((W.setCell ⟨w.heap.size + 1, 0, none⟩ (.bool sb)).setCell ⟨w.heap.size + 1, 1, none⟩ (.slice A L c)).setCell ⟨w.heap.size + 1, 2, none⟩ (.slice B M c2)) ∧
      ((((W.setCell ⟨w.heap.size + 1, 0, none⟩ (.bool sb)).setCell ⟨w.heap.size + 1, 1, none⟩ (.slice A L c)).setCell ⟨w.heap.size + 1, 2, none⟩ (.slice B M c2)).cell? ⟨w.heap.size + 1, 0, none⟩ = some (.bool sb) ∧ (((W.setCell ⟨w.heap.size + 1, 0, none⟩ (.bool sb)).setCell ⟨w.heap.size + 1, 1, none⟩ (.slice A L c)).setCell ⟨w.heap.size + 1, 2, none⟩ (.slice B M c2)).cell? ⟨w.heap.size + 1, 1, none⟩ = some (.slice A L c) ∧ (((W.setCell ⟨w.heap.size + 1, 0, none⟩ (.bool sb)).setCell ⟨w.heap.size + 1, 1, none⟩ (.slice A L c)).setCell ⟨w.heap.size + 1, 2, none⟩ (.slice B M c2)).cell? ⟨w.heap.size + 1, 2, none⟩ = some (.slice B M c2)) ∧
      NumR (((W.setCell ⟨w.heap.size + 1, 0, none⟩ (.bool sb)).setCell ⟨w.heap.size + 1, 1, none⟩ (.slice A L c)).setCell ⟨w.heap.size + 1, 2, none⟩ (.slice B M c2)) (.agg #[.bool sb, .slice A L c, .slice B M c2]) sb (valD (boT num)) (valD den.data.toList)) := fun W A L c B M c2 sb hW h1 h2 f1 f2 => by
    have k := ((((HG.out.same (Same.of_below (S := fun _ => True) hW) trivial).set_ 0 (.bool sb)).set_ 1 (.slice A L c)).set_ 2 (.slice B M c2))
    have hbw := HB.out.trans (Below.mono hW HB.out.size)
    refine ⟨((hbw.setCell (p := ⟨w.heap.size + 1, 0, none⟩) (by simp) _).setCell (p := ⟨w.heap.size + 1, 1, none⟩) (by simp) _).setCell (p := ⟨w.heap.size + 1, 2, none⟩) (by simp) _, ⟨k.cell 0, k.cell 1, k.cell 2⟩, _, _, rfl, lim_set3 h1 f1 _ _ _, lim_set3 h2 f2 _ _ _⟩
  have hz2 : w.heap.size + 1 ≤ w1.heap.size := by omega
  have hqB : Gq w1 w1 := Gq.refl _
  have hBD : Gq w1 w1.drew := (Gq.refl _).drew
  have HW1 := Lib.hid hw1
  have hne : w.heap.size ≠ w.heap.size + 1 := by omega
  clear hw1 HA
  have hll : num.data.toList.length = num.size := by rw [Array.length_toList]; rfl
  have hp : 0 < num.size := by
    rcases Nat.eq_zero_or_pos num.size with e | e
    · have : num.data.toList = [] := List.eq_nil_of_length_eq_zero (by omega)
      have h2 := h.nz
      rw [boT_eq, this] at h2
      simp [noZ_nil] at h2
    · exact e
  have hpb : decide (0 < num.size) = true := decide_eq_true hp
  have hh : num.data.toList.head? = some (num[0]'hp) := by
    cases hq : num.data.toList with
    | nil => rw [hq] at hll; simp at hll; omega
    | cons x r =>
      have : num.data.toList[0]'(by rw [hq]; simp) = num[0]'hp := by rw [Array.getElem_toList]; rfl
      rw [← this]
      simp [hq]
  have hsg : sgT num = decide (num[0]'hp = 45) := by
    have : sgT num = decide (num.data.toList.head? = some 45) := pre45 _
    rw [this, hh]; simp
  have hmain : (sgT num = true ∧ (((num[0]'hp).toNat : Int) == 45) = true ∧ num.extract 1 num.size = n) ∨ (sgT num = false ∧ (((num[0]'hp).toNat : Int) == 45) = false ∧ num = n) := by
    by_cases h2 : num[0]'hp = 45
    · have hs1 : sgT num = true := by rw [hsg]; exact decide_eq_true h2
      refine .inl ⟨hs1, by rw [h2]; rfl, ?_⟩
      apply ba_ext
      rw [hnl, boT_drop hs1, ext_endL, List.take_of_length_le (by omega)]
    · have hs1 : sgT num = false := by rw [hsg]; exact decide_eq_false h2
      refine .inr ⟨hs1, ?_, ?_⟩
      · rw [beq_eq_false_iff_ne]
        intro e
        exact h2 (UInt8.toNat_inj.1 (by have : (45 : UInt8).toNat = 45 := rfl; omega))
      · apply ba_ext
        rw [hnl, boT_same hs1]
  generalize valD den.data.toList = y at *
  generalize valD (boT num) = x at *
  generalize sgT num = sb at *
  have HH := Lib.hid h
  clear hsg hh hn hnl hnz hdz h
  go_enter Tryz.func63, Tryz.ntmps63
  go_upto_region 1 with (fail)
  rw [← HW1.out]
  rcases hmain with ⟨rfl, h45, hx⟩ | ⟨rfl, h45, rfl⟩
  · have HX := Lib.hid hx
    clear hx
    go_upto_region 4 with (fail)
    rw [HX.out]
    go_region_held3 (fun W => W.cell? ⟨w.heap.size, 1, none⟩ = some (.string den) ∧ Gz (w.heap.size + 1) w1 W)
      (first | exact HS.out _ (Gq.gz hBD hz2) | exact HS.out _ (Gq.gz hqB hz2) | exact HS.out _ ((((Gq.gz hqB hz2).set ⟨w.heap.size + 1, 0, none⟩ (Nat.le_refl _) _).set ⟨w.heap.size + 1, 1, none⟩ (Nat.le_refl _) _).set ⟨w.heap.size + 1, 2, none⟩ (Nat.le_refl _) _))
      (first | (go_at_call 80; (with_reducible refine (HLA.out _ (by assumption)).mono ?_); rintro e w' ⟨A, L, c, rfl, hv, hf, hb, hqB⟩; obtain ⟨q0, q1, q2, q3, q4, q5⟩ := HCE.out _ hqB) | (go_at_call 80; (with_reducible refine (HLB.out _ (by assumption)).mono ?_); rintro e w' ⟨B, M, c2, rfl, hv, hf, hb, hqB⟩; obtain ⟨q0, q1, q2, q3, q4, q5⟩ := HCE.out _ hqB))
    all_goals
      have hA : LimV w' (.slice A L c) x := by
        first
          | exact Hid.out (show Hid (LimV w' (.slice A L c) x) by assumption)
          | exact laterL (w' := w') (by assumption) (by assumption)
      have hC : LimV w' (.slice B M c2) y := by
        first
          | exact Hid.out (show Hid (LimV w' (.slice B M c2) y) by assumption)
          | exact laterL (w' := w') (by assumption) (by assumption)
      have fA : Hid (FrB (w.heap.size + 2) (.slice A L c)) := by assumption
      have fC : Hid (FrB (w.heap.size + 2) (.slice B M c2)) := by assumption
      obtain ⟨k1, ⟨k2, k3, k4⟩, k5⟩ := HEND.out w' A L c B M c2 _ hqB hA hC fA.out fC.out
      go_wp2_with fail
      refine bodyPost_ret (by simp [results, Tryz.results63, go_sem, k2, k3, k4]) rfl ⟨_, rfl, k5, k1⟩
  · go_upto_region 4 with (fail)
    go_region_held3 (fun W => W.cell? ⟨w.heap.size, 1, none⟩ = some (.string den) ∧ Gz (w.heap.size + 1) w1 W)
      (first | exact HS.out _ (Gq.gz hBD hz2) | exact HS.out _ (Gq.gz hqB hz2) | exact HS.out _ ((((Gq.gz hqB hz2).set ⟨w.heap.size + 1, 0, none⟩ (Nat.le_refl _) _).set ⟨w.heap.size + 1, 1, none⟩ (Nat.le_refl _) _).set ⟨w.heap.size + 1, 2, none⟩ (Nat.le_refl _) _))
      (first | (go_at_call 80; (with_reducible refine (HLA.out _ (by assumption)).mono ?_); rintro e w' ⟨A, L, c, rfl, hv, hf, hb, hqB⟩; obtain ⟨q0, q1, q2, q3, q4, q5⟩ := HCE.out _ hqB) | (go_at_call 80; (with_reducible refine (HLB.out _ (by assumption)).mono ?_); rintro e w' ⟨B, M, c2, rfl, hv, hf, hb, hqB⟩; obtain ⟨q0, q1, q2, q3, q4, q5⟩ := HCE.out _ hqB))
    all_goals
      have hA : LimV w' (.slice A L c) x := by
        first
          | exact Hid.out (show Hid (LimV w' (.slice A L c) x) by assumption)
          | exact laterL (w' := w') (by assumption) (by assumption)
      have hC : LimV w' (.slice B M c2) y := by
        first
          | exact Hid.out (show Hid (LimV w' (.slice B M c2) y) by assumption)
          | exact laterL (w' := w') (by assumption) (by assumption)
      have fA : Hid (FrB (w.heap.size + 2) (.slice A L c)) := by assumption
      have fC : Hid (FrB (w.heap.size + 2) (.slice B M c2)) := by assumption
      obtain ⟨k1, ⟨k2, k3, k4⟩, k5⟩ := HEND.out w' A L c B M c2 _ hqB hA hC fA.out fC.out
      go_wp2_with fail
      refine bodyPost_ret (by simp [results, Tryz.results63, go_sem, k2, k3, k4]) rfl ⟨_, rfl, k5, k1⟩
end Go.Proofs.YteaghgbpcpileaaGreatDoor
/- The contract of the reference's Long. -/
namespace Go.Proofs.YteaghgbpcpileaaGreatDoor
open Go.RowKit Go.Dw

set_option maxRecDepth 100000 in
set_option maxHeartbeats 4000000 in
theorem longR_any (v : Value) (sg : Bool) (a b m : Nat) (w : World) (h : NumR w v sg a b) (k : Nat) (hk : Lim k a) (gk : Lim k b) (hk2 : k ≤ 1000000) (hp : HasPow w) (_hm : m ≤ 1000000) :
    Calls Tryz.prog 62 #[v, .int .i64 (m : Int)] w fun e w' => e = .returned (.bool (decide (m < (Lib.decDigits a).length) || decide (m < (Lib.decDigits b).length))) ∧ Below w.heap.size w w' := by
  obtain ⟨x, y, rfl, hx, hy⟩ := h
  obtain ⟨w1, hw1⟩ : ∃ w1, w1 = w.alloc (.cells #[.bool sg, x, y] 94) := ⟨_, rfl⟩
  have HB : Hid (Gq w w1) := by rw [hw1]; exact (Gq.refl _).alloc _
  have HK : Hid (Blk w1 w.heap.size 94 [.bool sg, x, y]) := by rw [hw1]; exact Blk.new w _ _
  have HDA : Hid (∀ W, Gq w W → Calls Tryz.prog 81 #[x] W fun e W' => e = .returned (.string ⟨(Lib.decDigits a).toArray⟩) ∧ Gq W W') := fun W hW => digitsR_any x a W (hx.below hW) k hk hk2 (hp.below hW)
  have HDB : Hid (∀ W, Gq w W → Calls Tryz.prog 81 #[y] W fun e W' => e = .returned (.string ⟨(Lib.decDigits b).toArray⟩) ∧ Gq W W') := fun W hW => digitsR_any y b W (hy.below hW) k gk hk2 (hp.below hW)
  obtain ⟨A, L, c, rfl⟩ := lim_form hx
  obtain ⟨B, M, d, rfl⟩ := lim_form hy
  have ha : (⟨(Lib.decDigits a).toArray⟩ : ByteArray).size = (Lib.decDigits a).length := str_size _
  have hb : (⟨(Lib.decDigits b).toArray⟩ : ByteArray).size = (Lib.decDigits b).length := str_size _
  generalize (⟨(Lib.decDigits a).toArray⟩ : ByteArray) = sa at *
  generalize (⟨(Lib.decDigits b).toArray⟩ : ByteArray) = sb at *
  rw [← ha, ← hb]
  have c1 : w1.cell? ⟨w.heap.size, 1, none⟩ = some (.slice A L c) := HK.out.cell 1
  have HW := Lib.hid hw1
  clear hw1 hx hy hk gk hp ha hb
  go_enter Tryz.func62, Tryz.ntmps62
  go_upto_region 1 with (fail)
  rw [← HW.out]
  go_wp2_with fail
  refine (HDA.out _ HB.out).mono ?_
  rintro e w2 ⟨rfl, hb2⟩
  have HB2 : Hid (Gq w w2) := HB.out.trans hb2
  have HK2 := Lib.hid (HK.out.same (Same.of_below (S := fun _ => True) hb2) trivial)
  clear hb2 c1
  by_cases h1 : m < sa.size
  · have h1b : decide (m < sa.size) = true := by simpa using h1
    have h1c : decide ((m : Int) < (sa.size : Int)) = true := decide_eq_true (by omega)
    go_wp2_with fail
    go_ret
    exact ⟨by simp [h1], HB2.out⟩
  have h1b : decide (m < sa.size) = false := by simpa using h1
  have h1c : decide ((m : Int) < (sa.size : Int)) = false := decide_eq_false (by omega)
  have c2 : w2.cell? ⟨w.heap.size, 2, none⟩ = some (.slice B M d) := HK2.out.cell 2
  go_wp2_with fail
  refine (HDB.out _ HB2.out).mono ?_
  rintro e w3 ⟨rfl, hb3⟩
  have HB3 : Hid (Gq w w3) := HB2.out.trans hb3
  clear hb3
  go_wp2_with fail
  go_ret
  exact ⟨by simp [h1], HB3.out⟩
end Go.Proofs.YteaghgbpcpileaaGreatDoor
