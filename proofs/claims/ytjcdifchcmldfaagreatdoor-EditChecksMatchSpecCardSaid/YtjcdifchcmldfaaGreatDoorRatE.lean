/- The contracts of (num.Rat).Lowest, clock.digits. -/
import Derived.Test.YtjcdifchcmldfaaGreatDoorRatD
namespace Go.Proofs.YtjcdifchcmldfaaGreatDoor
open Go.RowKit Go.Dw
attribute [local go_sem ↓] Go.wp_at_zero Go.wp_at_succ

set_option maxRecDepth 100000 in
set_option maxHeartbeats 8000000 in
theorem lowest_any (v : Value) (z : Int) (d : Nat) (w : World) (h : RawV w v z d) (k : Nat) (hk : Lim k z.natAbs) (gk : Lim k d) (hk2 : k ≤ 549755813888) :
    Calls Tryz.prog 62 #[v] w fun e w' => e = .returned (.bool (decide (Nat.gcd z.natAbs d = 1))) ∧ Below w.heap.size w w' := by
  obtain ⟨u, b, rfl, hu, hb, hd⟩ := h
  obtain ⟨A, L, c, rfl⟩ := slice_nat hu
  obtain ⟨B, M, c2, rfl⟩ := slice_nat hb
  obtain ⟨sb, hsb⟩ : ∃ v, decide (z < 0) = v := ⟨_, rfl⟩
  have hkd : Lim k (mkRat z d).den := by rw [mk_den hd]; exact gk.le (Nat.div_le_self _ _)
  have HLO := Lib.hid (mk_low (z := z) hd)
  obtain ⟨w1, hw1⟩ : ∃ w1, w1 = w.alloc (.cells #[.bool sb, .slice A L c, .slice B M c2] 98) := ⟨_, rfl⟩
  have HB : Hid (Below w.heap.size w w1) := by rw [hw1]; exact (Below.refl _ _).alloc (Nat.le_refl _) _
  have HBK : Hid (Blk w1 w.heap.size 98 [.bool sb, .slice A L c, .slice B M c2]) := by rw [hw1]; exact Blk.new w _ _
  have HS : Hid (∀ W, Gw w1 W → W.cell? ⟨w.heap.size, 0, none⟩ = some (.bool sb) ∧ W.cell? ⟨w.heap.size, 1, none⟩ = some (.slice A L c) ∧ W.cell? ⟨w.heap.size, 2, none⟩ = some (.slice B M c2) ∧ Gw w1 W) := fun W hW => by
    have c0 : Blk W w.heap.size 98 [.bool sb, .slice A L c, .slice B M c2] := (Below.block hW _ HBK.out.lt).trans HBK.out
    exact ⟨c0.cell 0, c0.cell 1, c0.cell 2, hW⟩
  have HOV : Hid (∀ W, Gw w1 W → Calls Tryz.prog 81 #[.agg #[.bool sb, .slice A L c], .slice B M c2] W fun e W' => ∃ s2 A1 L1 c1 A2 L2 c2, e = .returned (.agg #[.bool s2, .slice A1 L1 c1, .slice A2 L2 c2]) ∧ Hid (NatV W' (.slice A2 L2 c2) (mkRat z d).den) ∧ Gw w1 W') := fun W hW =>
    (over_any _ _ z d W ⟨.slice A L c, by rw [hsb], (hu.below HB.out).below hW⟩ ((hb.below HB.out).below hW) k hk gk hk2 hd).mono fun e W' ⟨v, h1, ⟨u2, b2, h2, h3, h4, h5⟩, h6⟩ => by
      obtain ⟨A2, L2, c2, rfl⟩ := slice_nat h4
      obtain ⟨A1, L1, c1, rfl⟩ := slice_nat h3
      exact ⟨_, A1, L1, c1, A2, L2, c2, by rw [h1, h2], h4, hW.step h6⟩
  have HCM : Hid (∀ W A2 L2 c3, Gw w1 W → NatV W (.slice A2 L2 c3) (mkRat z d).den → Calls Tryz.prog 82 #[.slice A2 L2 c3, .slice B M c2] W fun e W' => e = .returned (.int .i64 (cmpN (mkRat z d).den d)) ∧ Gw w1 W') := fun W A2 L2 c3 hW h2 =>
    (cmpN_any _ _ (mkRat z d).den d W h2 ((hb.below HB.out).below hW) k hkd gk (by omega)).mono fun e W' ⟨h1, h2⟩ => ⟨h1, hW.step h2.below⟩
  have HRES : Hid (((cmpN (mkRat z d).den d : Int) == 0) = decide (Nat.gcd z.natAbs d = 1)) := by
    show _ = _
    have h1 : (mkRat z d).den = d ↔ Nat.gcd z.natAbs d = 1 := HLO.out
    by_cases h2 : Nat.gcd z.natAbs d = 1
    · rw [h1.2 h2, cmpN_eq, decide_eq_true h2]; rfl
    · have h3 : (mkRat z d).den ≠ d := fun e => h2 (h1.1 e)
      rw [decide_eq_false h2]
      rcases Nat.lt_or_gt_of_ne h3 with h4 | h4
      · rw [cmpN_lt h4]; rfl
      · rw [cmpN_gt h4]; rfl
  have hfld : ∀ (s2 : Bool) (A1 : Option Addr) (L1 c1 : Nat) (A2 : Option Addr) (L2 c3 : Nat) (W : World), Go.Sem.run Tryz.prog (Instr.field 98 (.agg #[.bool s2, .slice A1 L1 c1, .slice A2 L2 c3]) 1) W = .ok (.slice A2 L2 c3) W := fun _ _ _ _ _ _ _ W => by kernel_rfl
  have hqB : Gw w1 w1 := Gw.refl _
  have hBD : Gw w1 w1.drew := (Gw.refl _).drew
  have HW1 := Lib.hid hw1
  rw [hsb]
  clear hw1 HBK hsb hu hb hk gk hkd HLO
  generalize decide (Nat.gcd z.natAbs d = 1) = res at *
  generalize cmpN (mkRat z d).den d = cr at *
  generalize (mkRat z d).den = dd at *
  go_enter Tryz.func62, Tryz.ntmps62
  go_upto_region 1 with (fail)
  rw [← HW1.out]
  go_region_held3 (fun W => W.cell? ⟨w.heap.size, 0, none⟩ = some (.bool sb) ∧ W.cell? ⟨w.heap.size, 1, none⟩ = some (.slice A L c) ∧ W.cell? ⟨w.heap.size, 2, none⟩ = some (.slice B M c2) ∧ Gw w1 W)
    (first | exact HS.out _ hBD | exact HS.out _ hqB)
    (first | (go_at_call 81; (with_reducible refine (HOV.out _ (by assumption)).mono ?_); rintro e w' ⟨s2, A1, L1, c1, A2, L2, c3, rfl, hv, hqB⟩) | (go_at_call 82; (with_reducible refine (HCM.out _ _ _ _ (by assumption) (Hid.out (by assumption))).mono ?_); rintro e w' ⟨rfl, hqB⟩))
  all_goals
    go_wp2_with fail
    go_ret
    exact ⟨ret_bool HRES.out, HB.out.trans (Below.mono hqB HB.out.size)⟩
end Go.Proofs.YtjcdifchcmldfaaGreatDoor
