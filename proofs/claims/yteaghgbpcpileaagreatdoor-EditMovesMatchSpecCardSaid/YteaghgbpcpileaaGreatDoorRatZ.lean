/- Several texts laid into one: Results in boxes; the contracts of num.Parse, num.From; The contract of num.From; The contracts of (num.Rat).Lowest, clock.digits; The contract of clock.CheckRatio; -/
import Derived.Test.YteaghgbpcpileaaGreatDoorRatY
import Derived.Test.YteaghgbpcpileaaGreatDoorNumC
import Derived.Test.YteaghgbpcpileaaGreatDoorPlnA
import Derived.Test.YteaghgbpcpileaaGreatDoorShCut
import Derived.Deep.RegionHeld3
import Derived.Deep.DrawnRows
import Derived.Test.YteaghgbpcpileaaGreatDoorNumB
/- Results in boxes; the contracts of num.Parse, num.From. -/
namespace Go.Proofs.YteaghgbpcpileaaGreatDoor
open Go.RowKit Go.Dw
attribute [local go_sem ↓] Go.wp_at_zero Go.wp_at_succ

/-- a result's box, still empty -/
structure Box (w w1 : World) (g : Nat) (t : TypeId) (cs : List Value) : Prop where
  bel : Below w.heap.size w w1
  le : w.heap.size ≤ g
  blk : Blk w1 g t cs
  no : ∀ c ∈ cs, ∀ m, c ≠ .int .u32 m
section
variable {w w1 W : World} {g : Nat} {t : TypeId}
theorem Box.at_ {cs : List Value} (h : Box w w1 g t cs) (hb : Below w1.heap.size w1 W) (i : Nat) : W.cell? ⟨g, i, none⟩ = cs[i]? ∧ W.frozen? ⟨g, i, none⟩ = false := by
  have c1 : Blk W g t cs := (hb.block _ h.blk.lt).trans h.blk
  exact ⟨c1.cell i, c1.frozen i⟩
theorem Box.store2 {c0 c1 : Value} (h : Box w w1 g t [c0, c1]) (hb : Below w1.heap.size w1 W) (hw : w.heap.size ≤ w1.heap.size) (x y : Value) :
    Below w.heap.size w ((W.setCell ⟨g, 0, none⟩ x).setCell ⟨g, 1, none⟩ y) ∧ (((W.setCell ⟨g, 0, none⟩ x).setCell ⟨g, 1, none⟩ y).cell? ⟨g, 0, none⟩ = some x ∧ ((W.setCell ⟨g, 0, none⟩ x).setCell ⟨g, 1, none⟩ y).cell? ⟨g, 1, none⟩ = some y) ∧
    ∀ v n, NatV W v n → NatV ((W.setCell ⟨g, 0, none⟩ x).setCell ⟨g, 1, none⟩ y) v n := by
  have h1 : Below w.heap.size w W := h.bel.trans (hb.mono hw)
  have k1 : Blk W g t [c0, c1] := (hb.block _ h.blk.lt).trans h.blk
  have k2 := (k1.set_ 0 x).set_ 1 y
  refine ⟨(h1.setCell (p := ⟨g, 0, none⟩) h.le _).setCell (p := ⟨g, 1, none⟩) h.le _, ⟨k2.cell 0, k2.cell 1⟩, fun v n hv => ?_⟩
  refine NatV.other k1 h.no (by simp [World.setCell]) (fun b hb => ?_) hv
  rw [Below.heap_setCell _ ⟨g, 1, none⟩ _ b hb, Below.heap_setCell _ ⟨g, 0, none⟩ _ b hb]
theorem Box.store3 {c0 c1 c2 : Value} (h : Box w w1 g t [c0, c1, c2]) (hb : Below w1.heap.size w1 W) (hw : w.heap.size ≤ w1.heap.size) (x y z : Value) :
    Below w.heap.size w (((W.setCell ⟨g, 0, none⟩ x).setCell ⟨g, 1, none⟩ y).setCell ⟨g, 2, none⟩ z) ∧
    ((((W.setCell ⟨g, 0, none⟩ x).setCell ⟨g, 1, none⟩ y).setCell ⟨g, 2, none⟩ z).cell? ⟨g, 0, none⟩ = some x ∧ (((W.setCell ⟨g, 0, none⟩ x).setCell ⟨g, 1, none⟩ y).setCell ⟨g, 2, none⟩ z).cell? ⟨g, 1, none⟩ = some y ∧ (((W.setCell ⟨g, 0, none⟩ x).setCell ⟨g, 1, none⟩ y).setCell ⟨g, 2, none⟩ z).cell? ⟨g, 2, none⟩ = some z) ∧
    ∀ v n, NatV W v n → NatV (((W.setCell ⟨g, 0, none⟩ x).setCell ⟨g, 1, none⟩ y).setCell ⟨g, 2, none⟩ z) v n := by
  have h1 : Below w.heap.size w W := h.bel.trans (hb.mono hw)
  have k1 : Blk W g t [c0, c1, c2] := (hb.block _ h.blk.lt).trans h.blk
  have k2 := ((k1.set_ 0 x).set_ 1 y).set_ 2 z
  refine ⟨((h1.setCell (p := ⟨g, 0, none⟩) h.le _).setCell (p := ⟨g, 1, none⟩) h.le _).setCell (p := ⟨g, 2, none⟩) h.le _, ⟨k2.cell 0, k2.cell 1, k2.cell 2⟩, fun v n hv => ?_⟩
  refine NatV.other k1 h.no (by simp [World.setCell]) (fun b hb => ?_) hv
  rw [Below.heap_setCell _ ⟨g, 2, none⟩ _ b hb, Below.heap_setCell _ ⟨g, 1, none⟩ _ b hb, Below.heap_setCell _ ⟨g, 0, none⟩ _ b hb]
end
set_option maxRecDepth 100000 in
set_option maxHeartbeats 8000000 in
theorem parse_any (s : ByteArray) (w : World) (hs : s.size ≤ 1099511627776) (hd : (boT s).all isD = true) :
    Calls Tryz.prog 110 #[.string s] w (IntRes (numZ s) w) := by
  have HCP : Hid (∀ W, Calls Tryz.prog 91 #[.string s, .string ⟨#[45]⟩] W fun e w' => e = .returned (.tuple #[.string ⟨(boT s).toArray⟩, .bool (sgT s)]) ∧ w' = W) := fun W => Any.strings_CutPrefix Tryz.lays103 s ⟨#[45]⟩ W
  have hbz : (⟨(boT s).toArray⟩ : ByteArray).size = (boT s).length := by rw [← ba_len]
  have HNT : Hid (∀ W, Calls Tryz.prog 111 #[.string ⟨(boT s).toArray⟩] W (NatRes (valD (boT s)) W)) := fun W =>
    natText_any ⟨(boT s).toArray⟩ W (by rw [hbz]; have := boT_len s; omega) (by simpa using hd)
  have HZ := Lib.hid (And.intro (numZ_abs s) (numZ_neg s))
  obtain ⟨w1, hw1⟩ : ∃ w1, w1 = w.alloc (.cells #[.bool false, .slice none 0 0] 129) := ⟨_, rfl⟩
  have HB : Hid (Box w w1 w.heap.size 129 [.bool false, .slice none 0 0]) := by
    rw [hw1]
    exact ⟨(Below.refl _ _).alloc (Nat.le_refl _) _, Nat.le_refl _, Blk.new w _ _, fun c hc m => by simp at hc; rcases hc with rfl | rfl <;> simp⟩
  have HW1 := Lib.hid hw1
  clear hw1 hbz hd hs
  generalize sgT s = sg at *
  generalize (⟨(boT s).toArray⟩ : ByteArray) = bs at *
  generalize valD (boT s) = n at *
  go_enter Tryz.func110, Tryz.ntmps110
  go_upto_region 1 with (fail)
  rw [← HW1.out]
  go_wp2_with fail
  refine (HCP.out _).mono ?_
  rintro e w2 ⟨rfl, rfl⟩
  go_wp2_with fail
  refine (HNT.out _).mono ?_
  rintro e w3 ⟨v, rfl, hv, hb⟩
  obtain ⟨A, c, L, rfl, hL, _, _⟩ := nat_one hv
  have HV := Lib.hid hv
  have HB3 := Lib.hid hb
  obtain ⟨d0, f0⟩ := HB.out.at_ hb 0
  obtain ⟨d1, f1⟩ := HB.out.at_ hb 1
  have e0 : w3.cell? ⟨w.heap.size, 0, none⟩ = some (.bool false) := d0
  have e1 : w3.cell? ⟨w.heap.size, 1, none⟩ = some (.slice none 0 0) := d1
  clear d0 d1 hv hb
  have HSG : Hid (decide (0 < L) = decide (0 < n)) := by
    show _ = _
    by_cases h : n = 0
    · have := hL.2 h; subst this h; rfl
    · have : ¬ L = 0 := fun e => h (hL.1 e)
      rw [decide_eq_decide]; omega
  clear hL
  obtain ⟨pb, hpb⟩ : ∃ v, decide (0 < n) = v := ⟨_, rfl⟩
  rw [hpb] at HSG HZ
  clear hpb
  cases sg
  · go_wp2_with fail
    obtain ⟨k1, ⟨k2, k3⟩, k4⟩ := HB.out.store2 HB3.out HB.out.bel.size (.bool false) (.slice A L c)
    refine bodyPost_ret (v := .agg #[.bool false, .slice A L c]) (by simp [results, Tryz.results110, go_sem, k2, k3]) rfl ⟨_, rfl, ⟨.slice A L c, ?_, ?_⟩, k1⟩
    · rw [HZ.out.2]; rfl
    · rw [HZ.out.1]; exact k4 _ _ HV.out
  · have hlt := HSG.out
    go_wp2_with fail
    obtain ⟨k1, ⟨k2, k3⟩, k4⟩ := HB.out.store2 HB3.out HB.out.bel.size (.bool pb) (.slice A L c)
    refine bodyPost_ret (v := .agg #[.bool pb, .slice A L c]) (by simp [results, Tryz.results110, go_sem, k2, k3]) rfl ⟨_, rfl, ⟨.slice A L c, ?_, ?_⟩, k1⟩
    · rw [HZ.out.2]; simp
    · rw [HZ.out.1]; exact k4 _ _ HV.out
end Go.Proofs.YteaghgbpcpileaaGreatDoor
/- The contract of num.From. -/
namespace Go.Proofs.YteaghgbpcpileaaGreatDoor
open Go.RowKit Go.Dw
attribute [local go_sem ↓] Go.wp_at_zero Go.wp_at_succ

def Gw (w W : World) : Prop := Below w.heap.size w W
theorem Gw.refl (w : World) : Gw w w := Below.refl _ _
theorem Gw.step {w W W' : World} (h : Gw w W) (k : Below W.heap.size W W') : Gw w W' := Below.trans h (k.mono (Below.size h))
theorem Gw.drew {w W : World} (h : Gw w W) : Gw w W.drew := below_drewN h 1
/-- below B all is as it was -/
def Gv (B : Nat) (w W : World) : Prop := Below B w W
theorem Gw.gv {w W : World} (h : Gw w W) {B : Nat} (hB : B ≤ w.heap.size) : Gv B w W := Below.mono h hB
theorem Gv.set {B : Nat} {w W : World} (h : Gv B w W) (p : Addr) (hp : B ≤ p.block) (v : Value) : Gv B w (W.setCell p v) := Below.setCell h hp v
theorem Gv.drew {B : Nat} {w W : World} (h : Gv B w W) : Gv B w W.drew := below_drewN h 1
theorem slice_nat {w : World} {v : Value} {n : Nat} (h : NatV w v n) : ∃ A L c, v = .slice A L c := by
  obtain ⟨A, c, l, rfl, _⟩ := h
  exact ⟨A, _, c, rfl⟩
theorem later {w w' : World} {v : Value} {n : Nat} (h : Hid (NatV w v n)) (k : Hid (Below w.heap.size w w')) : NatV w' v n := NatV.below h.out k.out
set_option maxRecDepth 100000 in
set_option maxHeartbeats 8000000 in
theorem from_any (num den : ByteArray) (w : World) (hs : num.size ≤ 1099511627776) (hs2 : den.size ≤ 1099511627776) (hd : (boT num).all isD = true) (hd2 : den.data.toList.all isD = true) (hdp : 0 < valD den.data.toList) :
    Calls Tryz.prog 93 #[.agg #[.string num, .string den]] w fun e w' => ∃ v, e = .returned v ∧ RawV w' v (numZ num) (valD den.data.toList) ∧ Below w.heap.size w w' := by
  obtain ⟨w1, hw1⟩ : ∃ w1, w1 = (w.alloc (.cells #[.string num, .string den] 73)).alloc (.cells #[.bool false, .slice none 0 0, .slice none 0 0] 131) := ⟨_, rfl⟩
  have hz1 : w1.heap.size = w.heap.size + 2 := by rw [hw1]; simp
  have HB : Hid (Box w w1 (w.heap.size + 1) 131 [.bool false, .slice none 0 0, .slice none 0 0]) := by
    rw [hw1]
    refine ⟨((Below.refl _ _).alloc (Nat.le_refl _) _).alloc (by simp) _, by omega, ?_, fun c hc m => by simp at hc; rcases hc with rfl | rfl <;> simp⟩
    have := Blk.new (w.alloc (.cells #[.string num, .string den] 73)) 131 [.bool false, .slice none 0 0, .slice none 0 0]
    simpa using this
  have HA : Hid (Blk w1 w.heap.size 73 [.string num, .string den]) := by
    rw [hw1]
    exact (Below.heap_alloc _ _ _ (by simp)).trans (Blk.new w _ [.string num, .string den])
  have HS : Hid (∀ W, Gv (w.heap.size + 1) w1 W → W.cell? ⟨w.heap.size, 0, none⟩ = some (.string num) ∧ W.cell? ⟨w.heap.size, 1, none⟩ = some (.string den) ∧ Gv (w.heap.size + 1) w1 W) := fun W hW => by
    have c0 : Blk W w.heap.size 73 [.string num, .string den] := (Below.block hW _ (by omega)).trans HA.out
    exact ⟨c0.cell 0, c0.cell 1, hW⟩
  have HPA : Hid (∀ W, Gw w1 W → Calls Tryz.prog 110 #[.string num] W fun e W' => ∃ A L c, e = .returned (.agg #[.bool (decide (numZ num < 0)), .slice A L c]) ∧ Hid (NatV W' (.slice A L c) (numZ num).natAbs) ∧ Hid (Below W.heap.size W W') ∧ Gw w1 W') := fun W hW =>
    (parse_any num W hs hd).mono fun e W' ⟨v, h1, ⟨u, h2, h3⟩, h4⟩ => by
      obtain ⟨A, L, c, rfl⟩ := slice_nat h3
      exact ⟨A, L, c, by rw [h1, h2], h3, h4, hW.step h4⟩
  have HNT : Hid (∀ W, Gw w1 W → Calls Tryz.prog 111 #[.string den] W fun e W' => ∃ A L c, e = .returned (.slice A L c) ∧ Hid (NatV W' (.slice A L c) (valD den.data.toList)) ∧ Hid (Below W.heap.size W W') ∧ Gw w1 W') := fun W hW =>
    (natText_any den W hs2 hd2).mono fun e W' ⟨v, h1, h3, h4⟩ => by
      obtain ⟨A, L, c, rfl⟩ := slice_nat h3
      exact ⟨A, L, c, h1, h3, h4, hW.step h4⟩
  have HCE : Hid (∀ W, Gw w1 W → W.cell? ⟨w.heap.size + 1, 0, none⟩ = some (.bool false) ∧ W.cell? ⟨w.heap.size + 1, 1, none⟩ = some (.slice none 0 0) ∧ W.cell? ⟨w.heap.size + 1, 2, none⟩ = some (.slice none 0 0) ∧ W.frozen? ⟨w.heap.size + 1, 0, none⟩ = false ∧ W.frozen? ⟨w.heap.size + 1, 1, none⟩ = false ∧ W.frozen? ⟨w.heap.size + 1, 2, none⟩ = false) := fun W hW =>
    ⟨(HB.out.at_ hW 0).1, (HB.out.at_ hW 1).1, (HB.out.at_ hW 2).1, (HB.out.at_ hW 0).2, (HB.out.at_ hW 1).2, (HB.out.at_ hW 2).2⟩
  have hz2 : w.heap.size + 1 ≤ w1.heap.size := by omega
  have hqB : Gw w1 w1 := Gw.refl _
  have hBD : Gw w1 w1.drew := (Gw.refl _).drew
  have HW1 := Lib.hid hw1
  have hne : w.heap.size ≠ w.heap.size + 1 := by omega
  clear hw1 HA
  generalize valD den.data.toList = d at *
  generalize numZ num = z at *
  obtain ⟨sb, hsb⟩ : ∃ v, decide (z < 0) = v := ⟨_, rfl⟩
  rw [hsb] at HPA
  have HSB := Lib.hid hsb
  clear hsb hd hd2
  go_enter Tryz.func93, Tryz.ntmps93
  go_upto_region 1 with (fail)
  rw [← HW1.out]
  go_region_held3 (fun W => W.cell? ⟨w.heap.size, 0, none⟩ = some (.string num) ∧ W.cell? ⟨w.heap.size, 1, none⟩ = some (.string den) ∧ Gv (w.heap.size + 1) w1 W)
    (first | exact HS.out _ (hBD.gv hz2) | exact HS.out _ (hqB.gv hz2) | exact HS.out _ ((((hqB.gv hz2).set ⟨w.heap.size + 1, 0, none⟩ (Nat.le_refl _) _).set ⟨w.heap.size + 1, 1, none⟩ (Nat.le_refl _) _).set ⟨w.heap.size + 1, 2, none⟩ (Nat.le_refl _) _))
    (first | (go_at_call 110; (with_reducible refine (HPA.out _ (by assumption)).mono ?_); rintro e w' ⟨A, L, c, rfl, hv, hb, hqB⟩; obtain ⟨q0, q1, q2, q3, q4, q5⟩ := HCE.out _ hqB) | (go_at_call 111; (with_reducible refine (HNT.out _ (by assumption)).mono ?_); rintro e w' ⟨B, M, c2, rfl, hv, hb, hqB⟩; obtain ⟨q0, q1, q2, q3, q4, q5⟩ := HCE.out _ hqB))
  all_goals
    have hA : NatV w' (.slice A L c) z.natAbs := by
      first
        | exact Hid.out (show Hid (NatV w' (.slice A L c) z.natAbs) by assumption)
        | exact later (w' := w') (by assumption) (by assumption)
    have hC : NatV w' (.slice B M c2) d := by
      first
        | exact Hid.out (show Hid (NatV w' (.slice B M c2) d) by assumption)
        | exact later (w' := w') (by assumption) (by assumption)
    obtain ⟨k1, ⟨k2, k3, k4⟩, k5⟩ := HB.out.store3 (W := w') hqB HB.out.bel.size (.bool sb) (.slice A L c) (.slice B M c2)
    go_wp2_with fail
    refine bodyPost_ret (v := .agg #[.bool sb, .slice A L c, .slice B M c2]) (by simp [results, Tryz.results93, go_sem, k2, k3, k4]) rfl ⟨_, rfl, ⟨.slice A L c, .slice B M c2, ?_, k5 _ _ hA, k5 _ _ hC, hdp⟩, k1⟩
    rw [HSB.out]
end Go.Proofs.YteaghgbpcpileaaGreatDoor
/- The contracts of (num.Rat).Lowest, clock.digits. -/
namespace Go.Proofs.YteaghgbpcpileaaGreatDoor
open Go.RowKit Go.Dw
attribute [local go_sem ↓] Go.wp_at_zero Go.wp_at_succ

set_option maxRecDepth 100000 in
set_option maxHeartbeats 8000000 in
theorem lowest_any (v : Value) (z : Int) (d : Nat) (w : World) (h : RawV w v z d) (k : Nat) (hk : Lim k z.natAbs) (gk : Lim k d) (hk2 : k ≤ 549755813888) :
    Calls Tryz.prog 94 #[v] w fun e w' => e = .returned (.bool (decide (Nat.gcd z.natAbs d = 1))) ∧ Below w.heap.size w w' := by
  obtain ⟨u, b, rfl, hu, hb, hd⟩ := h
  obtain ⟨A, L, c, rfl⟩ := slice_nat hu
  obtain ⟨B, M, c2, rfl⟩ := slice_nat hb
  obtain ⟨sb, hsb⟩ : ∃ v, decide (z < 0) = v := ⟨_, rfl⟩
  have hkd : Lim k (mkRat z d).den := by rw [mk_den hd]; exact gk.le (Nat.div_le_self _ _)
  have HLO := Lib.hid (mk_low (z := z) hd)
  obtain ⟨w1, hw1⟩ : ∃ w1, w1 = w.alloc (.cells #[.bool sb, .slice A L c, .slice B M c2] 131) := ⟨_, rfl⟩
  have HB : Hid (Below w.heap.size w w1) := by rw [hw1]; exact (Below.refl _ _).alloc (Nat.le_refl _) _
  have HBK : Hid (Blk w1 w.heap.size 131 [.bool sb, .slice A L c, .slice B M c2]) := by rw [hw1]; exact Blk.new w _ _
  have HS : Hid (∀ W, Gw w1 W → W.cell? ⟨w.heap.size, 0, none⟩ = some (.bool sb) ∧ W.cell? ⟨w.heap.size, 1, none⟩ = some (.slice A L c) ∧ W.cell? ⟨w.heap.size, 2, none⟩ = some (.slice B M c2) ∧ Gw w1 W) := fun W hW => by
    have c0 : Blk W w.heap.size 131 [.bool sb, .slice A L c, .slice B M c2] := (Below.block hW _ HBK.out.lt).trans HBK.out
    exact ⟨c0.cell 0, c0.cell 1, c0.cell 2, hW⟩
  have HOV : Hid (∀ W, Gw w1 W → Calls Tryz.prog 112 #[.agg #[.bool sb, .slice A L c], .slice B M c2] W fun e W' => ∃ s2 A1 L1 c1 A2 L2 c2, e = .returned (.agg #[.bool s2, .slice A1 L1 c1, .slice A2 L2 c2]) ∧ Hid (NatV W' (.slice A2 L2 c2) (mkRat z d).den) ∧ Gw w1 W') := fun W hW =>
    (over_any _ _ z d W ⟨.slice A L c, by rw [hsb], (hu.below HB.out).below hW⟩ ((hb.below HB.out).below hW) k hk gk hk2 hd).mono fun e W' ⟨v, h1, ⟨u2, b2, h2, h3, h4, h5⟩, h6⟩ => by
      obtain ⟨A2, L2, c2, rfl⟩ := slice_nat h4
      obtain ⟨A1, L1, c1, rfl⟩ := slice_nat h3
      exact ⟨_, A1, L1, c1, A2, L2, c2, by rw [h1, h2], h4, hW.step h6⟩
  have HCM : Hid (∀ W A2 L2 c3, Gw w1 W → NatV W (.slice A2 L2 c3) (mkRat z d).den → Calls Tryz.prog 113 #[.slice A2 L2 c3, .slice B M c2] W fun e W' => e = .returned (.int .i64 (cmpN (mkRat z d).den d)) ∧ Gw w1 W') := fun W A2 L2 c3 hW h2 =>
    (cmpN_any _ _ (mkRat z d).den d W h2 ((hb.below HB.out).below hW) k hkd gk (by omega)).mono fun e W' ⟨h1, h2⟩ => ⟨h1, hW.step h2.below⟩
  have HRES : Hid (((cmpN (mkRat z d).den d : Int) == 0) = decide (Nat.gcd z.natAbs d = 1)) := by
    show _ = _
    have h1 : (mkRat z d).den = d ↔ Nat.gcd z.natAbs d = 1 := HLO.out
    by_cases h2 : Nat.gcd z.natAbs d = 1
    · rw [h1.2 h2, cmpN_eq, decide_eq_true h2]; rfl
    · have h3 : (mkRat z d).den ≠ d := fun e => h2 (h1.1 e)
      rw [decide_eq_false h2]
      rcases Nat.lt_or_gt_of_ne h3 with h4 | h4
      · rw [cmpN_lt h4]; rfl
      · rw [cmpN_gt h4]; rfl
  have hfld : ∀ (s2 : Bool) (A1 : Option Addr) (L1 c1 : Nat) (A2 : Option Addr) (L2 c3 : Nat) (W : World), Go.Sem.run Tryz.prog (Instr.field 131 (.agg #[.bool s2, .slice A1 L1 c1, .slice A2 L2 c3]) 1) W = .ok (.slice A2 L2 c3) W := fun _ _ _ _ _ _ _ W => by kernel_rfl
  have hqB : Gw w1 w1 := Gw.refl _
  have hBD : Gw w1 w1.drew := (Gw.refl _).drew
  have HW1 := Lib.hid hw1
  rw [hsb]
  clear hw1 HBK hsb hu hb hk gk hkd HLO
  generalize decide (Nat.gcd z.natAbs d = 1) = res at *
  generalize cmpN (mkRat z d).den d = cr at *
  generalize (mkRat z d).den = dd at *
  go_enter Tryz.func94, Tryz.ntmps94
  go_upto_region 1 with (fail)
  rw [← HW1.out]
  go_region_held3 (fun W => W.cell? ⟨w.heap.size, 0, none⟩ = some (.bool sb) ∧ W.cell? ⟨w.heap.size, 1, none⟩ = some (.slice A L c) ∧ W.cell? ⟨w.heap.size, 2, none⟩ = some (.slice B M c2) ∧ Gw w1 W)
    (first | exact HS.out _ hBD | exact HS.out _ hqB)
    (first | (go_at_call 112; (with_reducible refine (HOV.out _ (by assumption)).mono ?_); rintro e w' ⟨s2, A1, L1, c1, A2, L2, c3, rfl, hv, hqB⟩) | (go_at_call 113; (with_reducible refine (HCM.out _ _ _ _ (by assumption) (Hid.out (by assumption))).mono ?_); rintro e w' ⟨rfl, hqB⟩))
  all_goals
    go_wp2_with fail
    go_ret
    exact ⟨ret_bool HRES.out, HB.out.trans (Below.mono hqB HB.out.size)⟩
end Go.Proofs.YteaghgbpcpileaaGreatDoor
/- The contract of clock.CheckRatio. -/
namespace Go.Proofs.YteaghgbpcpileaaGreatDoor
open Go.RowKit Go.Dw

set_option maxRecDepth 100000 in
set_option maxHeartbeats 4000000 in
theorem checkRatio_any (num den : ByteArray) (w : World) (hs : num.size ≤ 9223372036854775807) (hs2 : den.size ≤ 9223372036854775807) :
    Calls Tryz.prog 72 #[.agg #[.string num, .string den]] w fun e w' => e = .returned (.int .i64 (ratF num den)) ∧ Below w.heap.size w w' := by
  obtain ⟨w1, hw1⟩ : ∃ w1, w1 = w.alloc (.cells #[.string num, .string den] 73) := ⟨_, rfl⟩
  have HB : Hid (Below w.heap.size w w1) := by rw [hw1]; exact (Below.refl _ _).alloc (Nat.le_refl _) _
  have HK : Hid (Blk w1 w.heap.size 73 [.string num, .string den]) := by rw [hw1]; exact Blk.new w _ _
  have c0 : w1.cell? ⟨w.heap.size, 0, none⟩ = some (.string num) := HK.out.cell 0
  have c1 : w1.cell? ⟨w.heap.size, 1, none⟩ = some (.string den) := HK.out.cell 1
  have HCP : Hid (∀ W, Calls Tryz.prog 91 #[.string num, .string ⟨#[45]⟩] W fun e w' => e = .returned (.tuple #[.string ⟨(boT num).toArray⟩, .bool (sgT num)]) ∧ w' = W) := fun W => Any.strings_CutPrefix Tryz.lays103 num ⟨#[45]⟩ W
  obtain ⟨n, hn⟩ : ∃ n : ByteArray, n = ⟨(boT num).toArray⟩ := ⟨_, rfl⟩
  have hnl : n.data.toList = boT num := by rw [hn]
  have hnz : n.size = (boT num).length := by rw [← hnl, Array.length_toList]; rfl
  rw [← hn] at HCP
  have hb := boT_len num
  have HD1 := Lib.hid (digits_any n w1 (by omega))
  have HD2 := Lib.hid (digits_any den w1 hs2)
  rw [hnl] at HD1
  obtain ⟨b1, hb1⟩ : ∃ b, noZ (boT num) = b := ⟨_, rfl⟩
  obtain ⟨b3, hb3⟩ : ∃ b, noZ den.data.toList = b := ⟨_, rfl⟩
  obtain ⟨sg, hsg⟩ : ∃ b, sgT num = b := ⟨_, rfl⟩
  obtain ⟨b2, hb2⟩ : ∃ b, decide (boT num = [48]) = b := ⟨_, rfl⟩
  obtain ⟨b4, hb4⟩ : ∃ b, decide (den.data.toList = [48]) = b := ⟨_, rfl⟩
  have hfr : rFrm num den = (b1 && !(sg && b2) && b3 && !b4) := by unfold rFrm; rw [hb1, hb3, hsg, hb2, hb4]
  have e2 : (n.toList == [48]) = b2 := by
    rw [ByteArray.toList_eq, hnl, ← hb2]
    by_cases h : boT num = [48]
    · rw [h]; rfl
    · rw [decide_eq_false h, beq_eq_false_iff_ne]; exact h
  have e4 : (den.toList == [48]) = b4 := by
    rw [ByteArray.toList_eq, ← hb4]
    by_cases h : den.data.toList = [48]
    · rw [h]; rfl
    · rw [decide_eq_false h, beq_eq_false_iff_ne]; exact h
  rw [hb1] at HD1
  rw [hb3] at HD2
  rw [hsg] at HCP
  have HFR := Lib.hid hfr
  have HNZ := Lib.hid hnz
  have HW := Lib.hid hw1
  have hdz : den.data.toList.length = den.size := by rw [Array.length_toList]; rfl
  have HDZ := Lib.hid hdz
  clear hw1 hn hnl hnz hb hb1 hb3 hsg hb2 hb4 hfr hdz
  go_enter Tryz.func72, Tryz.ntmps72
  go_upto_region 1 with (fail)
  rw [← HW.out]
  go_wp2_with fail
  refine (HCP.out _).mono ?_
  rintro e w' ⟨rfl, hww⟩
  subst hww
  go_wp2_with fail
  refine HD1.out.mono ?_
  rintro e w' ⟨rfl, hww⟩
  subst hww
  cases b1
  · have HE : Hid (ratF num den = 3) := ratF_bad (by rw [HFR.out]; rfl)
    go_wp2_with fail
    go_ret
    exact ⟨ret_int HE.out.symm, HB.out⟩
  by_cases h2 : (sg && b2) = true
  · have HE : Hid (ratF num den = 3) := ratF_bad (by rw [HFR.out, h2]; rfl)
    obtain ⟨rfl, rfl⟩ : sg = true ∧ b2 = true := by simpa using h2
    clear h2
    go_wp2_with fail
    go_ret
    exact ⟨ret_int HE.out.symm, HB.out⟩
  have HSB : Hid ((sg && b2) = false) := by
    show _ = _
    cases h : (sg && b2)
    · rfl
    · exact absurd h h2
  clear h2
  have HMID : Hid (rFrm num den = (b3 && !b4)) := by show _ = _; rw [HFR.out, HSB.out]; rfl
  have hr : sg = false ∨ (sg = true ∧ b2 = false) := by
    cases sg
    · exact .inl rfl
    · cases b2
      · exact .inr ⟨rfl, rfl⟩
      · exact absurd HSB.out (by decide)
  rcases hr with rfl | ⟨rfl, rfl⟩
  all_goals
    clear HFR HSB
    go_wp2_with fail
    refine HD2.out.mono ?_
    rintro e w' ⟨rfl, hww⟩
    subst hww
    cases b3
    case false =>
      have HE : Hid (ratF num den = 3) := ratF_bad (by rw [HMID.out]; rfl)
      go_wp2_with fail
      go_ret
      exact ⟨ret_int HE.out.symm, HB.out⟩
    cases b4
    case true =>
      have HE : Hid (ratF num den = 3) := ratF_bad (by rw [HMID.out]; rfl)
      go_wp2_with fail
      go_ret
      exact ⟨ret_int HE.out.symm, HB.out⟩
    have HF : Hid (rFrm num den = true) := by show _ = _; rw [HMID.out]; rfl
    by_cases hl1 : 2000 < n.size
    · have HE : Hid (ratF num den = 2) := ratF_big HF.out (.inl (by rw [← HNZ.out]; exact hl1))
      have hd1 : decide (2000 < n.size) = true := by simpa using hl1
      go_wp2_with fail
      go_ret
      exact ⟨ret_int HE.out.symm, HB.out⟩
    have hd1 : decide (2000 < n.size) = false := by simpa using hl1
    by_cases hl2 : 2000 < den.size
    · have HE : Hid (ratF num den = 2) := ratF_big HF.out (.inr (by rw [HDZ.out]; exact hl2))
      have hd2 : decide (2000 < den.size) = true := by simpa using hl2
      go_wp2_with fail
      go_ret
      exact ⟨ret_int HE.out.symm, HB.out⟩
    have hd2 : decide (2000 < den.size) = false := by simpa using hl2
    obtain ⟨f1, f2, f3, f4⟩ := rFrm_of HF.out
    have HV := Lib.hid (ratF_val HF.out (by rw [← HNZ.out, HDZ.out]; omega))
    have hnum : num.size ≤ 1099511627776 := by
      have h1 : num.size ≤ n.size + 1 := by
        rw [HNZ.out]
        unfold boT Lib.trimPrefix
        split
        · rw [List.length_drop, Array.length_toList]; show num.size ≤ num.size - 1 + 1; omega
        · rw [Array.length_toList]; show num.size ≤ num.size + 1; omega
      omega
    have HFM := Lib.hid (from_any num den w' hnum (by omega) ((noZ_iff _).1 f1).1 ((noZ_iff _).1 f2).1 f3)
    have HLO := Lib.hid (fun (v : Value) (W : World) (h : RawV W v (numZ num) (valD den.data.toList)) => lowest_any v (numZ num) (valD den.data.toList) W h 2000 (by rw [numZ_abs]; exact lim_valD ((noZ_iff _).1 f1).1 (by rw [← HNZ.out]; omega)) (lim_valD ((noZ_iff _).1 f2).1 (by rw [HDZ.out]; omega)) (by omega))
    rw [numZ_abs] at HLO
    obtain ⟨gb, hgb⟩ : ∃ b, decide (Nat.gcd (valD (boT num)) (valD den.data.toList) = 1) = b := ⟨_, rfl⟩
    rw [hgb] at HLO
    have HVV : Hid (ratF num den = if gb = true then 0 else 3) := by
      show _ = _
      rw [HV.out, ← hgb]
      simp
    clear hgb f1 f2 f3 f4 hnum HV
    go_wp2_with fail
    refine HFM.out.mono ?_
    rintro e w2 ⟨v, rfl, hv, hq⟩
    have HB2 := Lib.hid (HB.out.trans (hq.mono HB.out.size))
    have HL2 := Lib.hid (HLO.out v w2 hv)
    clear hv hq
    go_wp2_with fail
    refine HL2.out.mono ?_
    rintro e w3 ⟨rfl, hq3⟩
    have HB3 := Lib.hid (HB2.out.trans (hq3.mono HB2.out.size))
    clear hq3
    cases gb
    · go_wp2_with fail
      go_ret
      exact ⟨ret_int HVV.out.symm, HB3.out⟩
    · go_wp2_with fail
      go_ret
      exact ⟨ret_int HVV.out.symm, HB3.out⟩
end Go.Proofs.YteaghgbpcpileaaGreatDoor
