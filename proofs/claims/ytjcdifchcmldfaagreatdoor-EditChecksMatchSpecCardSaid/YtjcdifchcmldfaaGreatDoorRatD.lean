/- The contract of num.From. -/
import Derived.Test.YtjcdifchcmldfaaGreatDoorRatC
namespace Go.Proofs.YtjcdifchcmldfaaGreatDoor
open Go.RowKit Go.Dw
attribute [local go_sem ↓] Go.wp_at_zero Go.wp_at_succ

def Gw (w W : World) : Prop := Below w.heap.size w W
theorem Gw.refl (w : World) : Gw w w := Below.refl _ _
theorem Gw.step {w W W' : World} (h : Gw w W) (k : Below W.heap.size W W') : Gw w W' := Below.trans h (k.mono (Below.size h))
theorem Gw.drew {w W : World} (h : Gw w W) : Gw w W.drew := below_drewN h 1
/-- below B all is as it was -/
def Gv (B : Nat) (w W : World) : Prop := Below B w W
theorem Gw.gv {w W : World} (h : Gw w W) {B : Nat} (hB : B ≤ w.heap.size) : Gv B w W := Below.mono h hB
theorem Gv.set {B : Nat} {w W : World} (h : Gv B w W) (p : Addr) (hp : B ≤ p.block) (v : Value) : Gv B w (W.setCell p v) := Below.setCell h hp v
theorem Gv.drew {B : Nat} {w W : World} (h : Gv B w W) : Gv B w W.drew := below_drewN h 1
theorem slice_nat {w : World} {v : Value} {n : Nat} (h : NatV w v n) : ∃ A L c, v = .slice A L c := by
  obtain ⟨A, c, l, rfl, _⟩ := h
  exact ⟨A, _, c, rfl⟩
theorem later {w w' : World} {v : Value} {n : Nat} (h : Hid (NatV w v n)) (k : Hid (Below w.heap.size w w')) : NatV w' v n := NatV.below h.out k.out
set_option maxRecDepth 100000 in
set_option maxHeartbeats 8000000 in
theorem from_any (num den : ByteArray) (w : World) (hs : num.size ≤ 1099511627776) (hs2 : den.size ≤ 1099511627776) (hd : (boT num).all isD = true) (hd2 : den.data.toList.all isD = true) (hdp : 0 < valD den.data.toList) :
    Calls Tryz.prog 61 #[.agg #[.string num, .string den]] w fun e w' => ∃ v, e = .returned v ∧ RawV w' v (numZ num) (valD den.data.toList) ∧ Below w.heap.size w w' := by
  obtain ⟨w1, hw1⟩ : ∃ w1, w1 = (w.alloc (.cells #[.string num, .string den] 39)).alloc (.cells #[.bool false, .slice none 0 0, .slice none 0 0] 98) := ⟨_, rfl⟩
  have hz1 : w1.heap.size = w.heap.size + 2 := by rw [hw1]; simp
  have HB : Hid (Box w w1 (w.heap.size + 1) 98 [.bool false, .slice none 0 0, .slice none 0 0]) := by
    rw [hw1]
    refine ⟨((Below.refl _ _).alloc (Nat.le_refl _) _).alloc (by simp) _, by omega, ?_, fun c hc m => by simp at hc; rcases hc with rfl | rfl <;> simp⟩
    have := Blk.new (w.alloc (.cells #[.string num, .string den] 39)) 98 [.bool false, .slice none 0 0, .slice none 0 0]
    simpa using this
  have HA : Hid (Blk w1 w.heap.size 39 [.string num, .string den]) := by
    rw [hw1]
    exact (Below.heap_alloc _ _ _ (by simp)).trans (Blk.new w _ [.string num, .string den])
  have HS : Hid (∀ W, Gv (w.heap.size + 1) w1 W → W.cell? ⟨w.heap.size, 0, none⟩ = some (.string num) ∧ W.cell? ⟨w.heap.size, 1, none⟩ = some (.string den) ∧ Gv (w.heap.size + 1) w1 W) := fun W hW => by
    have c0 : Blk W w.heap.size 39 [.string num, .string den] := (Below.block hW _ (by omega)).trans HA.out
    exact ⟨c0.cell 0, c0.cell 1, hW⟩
  have HPA : Hid (∀ W, Gw w1 W → Calls Tryz.prog 79 #[.string num] W fun e W' => ∃ A L c, e = .returned (.agg #[.bool (decide (numZ num < 0)), .slice A L c]) ∧ Hid (NatV W' (.slice A L c) (numZ num).natAbs) ∧ Hid (Below W.heap.size W W') ∧ Gw w1 W') := fun W hW =>
    (parse_any num W hs hd).mono fun e W' ⟨v, h1, ⟨u, h2, h3⟩, h4⟩ => by
      obtain ⟨A, L, c, rfl⟩ := slice_nat h3
      exact ⟨A, L, c, by rw [h1, h2], h3, h4, hW.step h4⟩
  have HNT : Hid (∀ W, Gw w1 W → Calls Tryz.prog 80 #[.string den] W fun e W' => ∃ A L c, e = .returned (.slice A L c) ∧ Hid (NatV W' (.slice A L c) (valD den.data.toList)) ∧ Hid (Below W.heap.size W W') ∧ Gw w1 W') := fun W hW =>
    (natText_any den W hs2 hd2).mono fun e W' ⟨v, h1, h3, h4⟩ => by
      obtain ⟨A, L, c, rfl⟩ := slice_nat h3
      exact ⟨A, L, c, h1, h3, h4, hW.step h4⟩
  have HCE : Hid (∀ W, Gw w1 W → W.cell? ⟨w.heap.size + 1, 0, none⟩ = some (.bool false) ∧ W.cell? ⟨w.heap.size + 1, 1, none⟩ = some (.slice none 0 0) ∧ W.cell? ⟨w.heap.size + 1, 2, none⟩ = some (.slice none 0 0) ∧ W.frozen? ⟨w.heap.size + 1, 0, none⟩ = false ∧ W.frozen? ⟨w.heap.size + 1, 1, none⟩ = false ∧ W.frozen? ⟨w.heap.size + 1, 2, none⟩ = false) := fun W hW =>
    ⟨(HB.out.at_ hW 0).1, (HB.out.at_ hW 1).1, (HB.out.at_ hW 2).1, (HB.out.at_ hW 0).2, (HB.out.at_ hW 1).2, (HB.out.at_ hW 2).2⟩
  have hz2 : w.heap.size + 1 ≤ w1.heap.size := by omega
  have hqB : Gw w1 w1 := Gw.refl _
  have hBD : Gw w1 w1.drew := (Gw.refl _).drew
  have HW1 := Lib.hid hw1
  have hne : w.heap.size ≠ w.heap.size + 1 := by omega
  clear hw1 HA
  generalize valD den.data.toList = d at *
  generalize numZ num = z at *
  obtain ⟨sb, hsb⟩ : ∃ v, decide (z < 0) = v := ⟨_, rfl⟩
  rw [hsb] at HPA
  have HSB := Lib.hid hsb
  clear hsb hd hd2
  go_enter Tryz.func61, Tryz.ntmps61
  go_upto_region 1 with (fail)
  rw [← HW1.out]
  go_region_held3 (fun W => W.cell? ⟨w.heap.size, 0, none⟩ = some (.string num) ∧ W.cell? ⟨w.heap.size, 1, none⟩ = some (.string den) ∧ Gv (w.heap.size + 1) w1 W)
    (first | exact HS.out _ (hBD.gv hz2) | exact HS.out _ (hqB.gv hz2) | exact HS.out _ ((((hqB.gv hz2).set ⟨w.heap.size + 1, 0, none⟩ (Nat.le_refl _) _).set ⟨w.heap.size + 1, 1, none⟩ (Nat.le_refl _) _).set ⟨w.heap.size + 1, 2, none⟩ (Nat.le_refl _) _))
    (first | (go_at_call 79; (with_reducible refine (HPA.out _ (by assumption)).mono ?_); rintro e w' ⟨A, L, c, rfl, hv, hb, hqB⟩; obtain ⟨q0, q1, q2, q3, q4, q5⟩ := HCE.out _ hqB) | (go_at_call 80; (with_reducible refine (HNT.out _ (by assumption)).mono ?_); rintro e w' ⟨B, M, c2, rfl, hv, hb, hqB⟩; obtain ⟨q0, q1, q2, q3, q4, q5⟩ := HCE.out _ hqB))
  all_goals
    have hA : NatV w' (.slice A L c) z.natAbs := by
      first
        | exact Hid.out (show Hid (NatV w' (.slice A L c) z.natAbs) by assumption)
        | exact later (w' := w') (by assumption) (by assumption)
    have hC : NatV w' (.slice B M c2) d := by
      first
        | exact Hid.out (show Hid (NatV w' (.slice B M c2) d) by assumption)
        | exact later (w' := w') (by assumption) (by assumption)
    obtain ⟨k1, ⟨k2, k3, k4⟩, k5⟩ := HB.out.store3 (W := w') hqB HB.out.bel.size (.bool sb) (.slice A L c) (.slice B M c2)
    go_wp2_with fail
    refine bodyPost_ret (v := .agg #[.bool sb, .slice A L c, .slice B M c2]) (by simp [results, Tryz.results61, go_sem, k2, k3, k4]) rfl ⟨_, rfl, ⟨.slice A L c, .slice B M c2, ?_, k5 _ _ hA, k5 _ _ hC, hdp⟩, k1⟩
    rw [HSB.out]
end Go.Proofs.YtjcdifchcmldfaaGreatDoor
