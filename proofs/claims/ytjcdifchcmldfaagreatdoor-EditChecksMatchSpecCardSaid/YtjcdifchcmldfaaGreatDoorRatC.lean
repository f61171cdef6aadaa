/- Results in boxes; the contracts of num.Parse, num.From. -/
import Derived.Test.YtjcdifchcmldfaaGreatDoorRatB
import Derived.Test.YtjcdifchcmldfaaGreatDoorNumC
import Derived.Test.YtjcdifchcmldfaaGreatDoorNumA
import Derived.Test.YtjcdifchcmldfaaGreatDoorShCut
import Derived.Deep.RegionHeld3
import Derived.Deep.DrawnRows
namespace Go.Proofs.YtjcdifchcmldfaaGreatDoor
open Go.RowKit Go.Dw
attribute [local go_sem ↓] Go.wp_at_zero Go.wp_at_succ

/-- a result's box, still empty -/
structure Box (w w1 : World) (g : Nat) (t : TypeId) (cs : List Value) : Prop where
  bel : Below w.heap.size w w1
  le : w.heap.size ≤ g
  blk : Blk w1 g t cs
  no : ∀ c ∈ cs, ∀ m, c ≠ .int .u32 m
section
variable {w w1 W : World} {g : Nat} {t : TypeId}
theorem Box.at_ {cs : List Value} (h : Box w w1 g t cs) (hb : Below w1.heap.size w1 W) (i : Nat) : W.cell? ⟨g, i, none⟩ = cs[i]? ∧ W.frozen? ⟨g, i, none⟩ = false := by
  have c1 : Blk W g t cs := (hb.block _ h.blk.lt).trans h.blk
  exact ⟨c1.cell i, c1.frozen i⟩
theorem Box.store2 {c0 c1 : Value} (h : Box w w1 g t [c0, c1]) (hb : Below w1.heap.size w1 W) (hw : w.heap.size ≤ w1.heap.size) (x y : Value) :
    Below w.heap.size w ((W.setCell ⟨g, 0, none⟩ x).setCell ⟨g, 1, none⟩ y) ∧ (((W.setCell ⟨g, 0, none⟩ x).setCell ⟨g, 1, none⟩ y).cell? ⟨g, 0, none⟩ = some x ∧ ((W.setCell ⟨g, 0, none⟩ x).setCell ⟨g, 1, none⟩ y).cell? ⟨g, 1, none⟩ = some y) ∧
    ∀ v n, NatV W v n → NatV ((W.setCell ⟨g, 0, none⟩ x).setCell ⟨g, 1, none⟩ y) v n := by
  have h1 : Below w.heap.size w W := h.bel.trans (hb.mono hw)
  have k1 : Blk W g t [c0, c1] := (hb.block _ h.blk.lt).trans h.blk
  have k2 := (k1.set_ 0 x).set_ 1 y
  refine ⟨(h1.setCell (p := ⟨g, 0, none⟩) h.le _).setCell (p := ⟨g, 1, none⟩) h.le _, ⟨k2.cell 0, k2.cell 1⟩, fun v n hv => ?_⟩
  refine NatV.other k1 h.no (by simp [World.setCell]) (fun b hb => ?_) hv
  rw [Below.heap_setCell _ ⟨g, 1, none⟩ _ b hb, Below.heap_setCell _ ⟨g, 0, none⟩ _ b hb]
theorem Box.store3 {c0 c1 c2 : Value} (h : Box w w1 g t [c0, c1, c2]) (hb : Below w1.heap.size w1 W) (hw : w.heap.size ≤ w1.heap.size) (x y z : Value) :
    Below w.heap.size w (((W.setCell ⟨g, 0, none⟩ x).setCell ⟨g, 1, none⟩ y).setCell ⟨g, 2, none⟩ z) ∧
    ((((W.setCell ⟨g, 0, none⟩ x).setCell ⟨g, 1, none⟩ y).setCell ⟨g, 2, none⟩ z).cell? ⟨g, 0, none⟩ = some x ∧ (((W.setCell ⟨g, 0, none⟩ x).setCell ⟨g, 1, none⟩ y).setCell ⟨g, 2, none⟩ z).cell? ⟨g, 1, none⟩ = some y ∧ (((W.setCell ⟨g, 0, none⟩ x).setCell ⟨g, 1, none⟩ y).setCell ⟨g, 2, none⟩ z).cell? ⟨g, 2, none⟩ = some z) ∧
    ∀ v n, NatV W v n → NatV (((W.setCell ⟨g, 0, none⟩ x).setCell ⟨g, 1, none⟩ y).setCell ⟨g, 2, none⟩ z) v n := by
  have h1 : Below w.heap.size w W := h.bel.trans (hb.mono hw)
  have k1 : Blk W g t [c0, c1, c2] := (hb.block _ h.blk.lt).trans h.blk
  have k2 := ((k1.set_ 0 x).set_ 1 y).set_ 2 z
  refine ⟨((h1.setCell (p := ⟨g, 0, none⟩) h.le _).setCell (p := ⟨g, 1, none⟩) h.le _).setCell (p := ⟨g, 2, none⟩) h.le _, ⟨k2.cell 0, k2.cell 1, k2.cell 2⟩, fun v n hv => ?_⟩
  refine NatV.other k1 h.no (by simp [World.setCell]) (fun b hb => ?_) hv
  rw [Below.heap_setCell _ ⟨g, 2, none⟩ _ b hb, Below.heap_setCell _ ⟨g, 1, none⟩ _ b hb, Below.heap_setCell _ ⟨g, 0, none⟩ _ b hb]
end
set_option maxRecDepth 100000 in
set_option maxHeartbeats 8000000 in
theorem parse_any (s : ByteArray) (w : World) (hs : s.size ≤ 1099511627776) (hd : (boT s).all isD = true) :
    Calls Tryz.prog 79 #[.string s] w (IntRes (numZ s) w) := by
  have HCP : Hid (∀ W, Calls Tryz.prog 59 #[.string s, .string ⟨#[45]⟩] W fun e w' => e = .returned (.tuple #[.string ⟨(boT s).toArray⟩, .bool (sgT s)]) ∧ w' = W) := fun W => Any.strings_CutPrefix Tryz.lays103 s ⟨#[45]⟩ W
  have hbz : (⟨(boT s).toArray⟩ : ByteArray).size = (boT s).length := by rw [← ba_len]
  have HNT : Hid (∀ W, Calls Tryz.prog 80 #[.string ⟨(boT s).toArray⟩] W (NatRes (valD (boT s)) W)) := fun W =>
    natText_any ⟨(boT s).toArray⟩ W (by rw [hbz]; have := boT_len s; omega) (by simpa using hd)
  have HZ := Lib.hid (And.intro (numZ_abs s) (numZ_neg s))
  obtain ⟨w1, hw1⟩ : ∃ w1, w1 = w.alloc (.cells #[.bool false, .slice none 0 0] 96) := ⟨_, rfl⟩
  have HB : Hid (Box w w1 w.heap.size 96 [.bool false, .slice none 0 0]) := by
    rw [hw1]
    exact ⟨(Below.refl _ _).alloc (Nat.le_refl _) _, Nat.le_refl _, Blk.new w _ _, fun c hc m => by simp at hc; rcases hc with rfl | rfl <;> simp⟩
  have HW1 := Lib.hid hw1
  clear hw1 hbz hd hs
  generalize sgT s = sg at *
  generalize (⟨(boT s).toArray⟩ : ByteArray) = bs at *
  generalize valD (boT s) = n at *
  go_enter Tryz.func79, Tryz.ntmps79
  go_upto_region 1 with (fail)
  rw [← HW1.out]
  go_wp2_with fail
  refine (HCP.out _).mono ?_
  rintro e w2 ⟨rfl, rfl⟩
  go_wp2_with fail
  refine (HNT.out _).mono ?_
  rintro e w3 ⟨v, rfl, hv, hb⟩
  obtain ⟨A, c, L, rfl, hL, _, _⟩ := nat_one hv
  have HV := Lib.hid hv
  have HB3 := Lib.hid hb
  obtain ⟨d0, f0⟩ := HB.out.at_ hb 0
  obtain ⟨d1, f1⟩ := HB.out.at_ hb 1
  have e0 : w3.cell? ⟨w.heap.size, 0, none⟩ = some (.bool false) := d0
  have e1 : w3.cell? ⟨w.heap.size, 1, none⟩ = some (.slice none 0 0) := d1
  clear d0 d1 hv hb
  have HSG : Hid (decide (0 < L) = decide (0 < n)) := by
    show _ = _
    by_cases h : n = 0
    · have := hL.2 h; subst this h; rfl
    · have : ¬ L = 0 := fun e => h (hL.1 e)
      rw [decide_eq_decide]; omega
  clear hL
  obtain ⟨pb, hpb⟩ : ∃ v, decide (0 < n) = v := ⟨_, rfl⟩
  rw [hpb] at HSG HZ
  clear hpb
  cases sg
  · go_wp2_with fail
    obtain ⟨k1, ⟨k2, k3⟩, k4⟩ := HB.out.store2 HB3.out HB.out.bel.size (.bool false) (.slice A L c)
    refine bodyPost_ret (v := .agg #[.bool false, .slice A L c]) (by simp [results, Tryz.results79, go_sem, k2, k3]) rfl ⟨_, rfl, ⟨.slice A L c, ?_, ?_⟩, k1⟩
    · rw [HZ.out.2]; rfl
    · rw [HZ.out.1]; exact k4 _ _ HV.out
  · have hlt := HSG.out
    go_wp2_with fail
    obtain ⟨k1, ⟨k2, k3⟩, k4⟩ := HB.out.store2 HB3.out HB.out.bel.size (.bool pb) (.slice A L c)
    refine bodyPost_ret (v := .agg #[.bool pb, .slice A L c]) (by simp [results, Tryz.results79, go_sem, k2, k3]) rfl ⟨_, rfl, ⟨.slice A L c, ?_, ?_⟩, k1⟩
    · rw [HZ.out.2]; simp
    · rw [HZ.out.1]; exact k4 _ _ HV.out
end Go.Proofs.YtjcdifchcmldfaaGreatDoor
