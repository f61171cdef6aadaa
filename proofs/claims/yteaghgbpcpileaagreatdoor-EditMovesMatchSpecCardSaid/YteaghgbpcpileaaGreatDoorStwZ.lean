/- Several texts laid into one: Generated (gen/jnr.py): the contract of the reference's within; Generated (gen/sta.py): the checks of a step, and of a shift's numbers: the program's; Generated (gen/stc.py): the checks of lists of steps: the program's; -/
import Derived.Test.YteaghgbpcpileaaGreatDoorNumB
import Derived.Test.YteaghgbpcpileaaGreatDoorProg
import Derived.Deep.DrawnRows
import Derived.Deep.CutBlock
import Derived.Deep.DeepCutAuto
import Derived.Test.YteaghgbpcpileaaGreatDoorStpZ
import Derived.Test.YteaghgbpcpileaaGreatDoorApdZ
/- Generated (gen/jnr.py): the contract of the reference's within. -/
namespace Go.Proofs.YteaghgbpcpileaaGreatDoor
open Go.RowKit Go.Dw
attribute [local go_sem ↓] Go.wp_at_zero Go.wp_at_succ

set_option maxRecDepth 100000 in
theorem withinR_any (n lo hi : Int) (w : World) : Calls Tryz.prog 26 #[.int .i64 n, .int .i64 lo, .int .i64 hi] w fun e w' => e = .returned (.bool (decide (lo ≤ n ∧ n ≤ hi))) ∧ w = w' := by
  by_cases h1 : lo ≤ n
  · by_cases h2 : n ≤ hi
    · have HR : Hid (decide (lo ≤ n ∧ n ≤ hi) = true) := decide_eq_true ⟨h1, h2⟩
      rw [HR.out]
      have q1 : decide (lo ≤ n) = true := decide_eq_true h1
      have q2 : decide (n ≤ hi) = true := decide_eq_true h2
      go_enter Tryz.func26, Tryz.ntmps26
      go_wp2_with fail
      go_ret
      exact ⟨rfl, rfl⟩
    · have HR : Hid (decide (lo ≤ n ∧ n ≤ hi) = false) := decide_eq_false (fun h => h2 h.2)
      rw [HR.out]
      have q1 : decide (lo ≤ n) = true := decide_eq_true h1
      have q2 : decide (n ≤ hi) = false := decide_eq_false h2
      go_enter Tryz.func26, Tryz.ntmps26
      go_wp2_with fail
      go_ret
      exact ⟨rfl, rfl⟩
  · have HR : Hid (decide (lo ≤ n ∧ n ≤ hi) = false) := decide_eq_false (fun h => h1 h.1)
    rw [HR.out]
    have q1 : decide (lo ≤ n) = false := decide_eq_false h1
    go_enter Tryz.func26, Tryz.ntmps26
    go_wp2_with fail
    go_ret
    exact ⟨rfl, rfl⟩
end Go.Proofs.YteaghgbpcpileaaGreatDoor
/- Generated (gen/sta.py): the checks of a step, and of a shift's numbers: the program's. -/
namespace Go.Proofs.YteaghgbpcpileaaGreatDoor
open Go.RowKit Go.Dw
attribute [local go_sem ↓] Go.wp_at_zero Go.wp_at_succ

def stpN (kd : Int) (n : Nat) (a b : Int) : Int := if kd = 1 ∨ kd = 2 then (if a = 0 ∧ b = 0 then 0 else 3) else if kd = 3 then (if 0 < n then 3 else 0) else 4
def rngN (a b : Int) : Int := if (0 ≤ a ∧ a ≤ 100000) ∧ (-100000 ≤ b ∧ b ≤ 100000) ∧ (0 ≤ a + b ∧ a + b ≤ 100000) then 0 else 1
theorem stpN_x (s : StpM) : stpN s.kd s.cs.xs.length s.at_ s.by_ = stpF s.x := by unfold stpN stpF StpM.x; simp only [List.length_map]
theorem rngN_x (s : StpM) : rngN s.at_ s.by_ = rngF s.x := rfl
set_option maxRecDepth 100000 in
theorem checkStep_any (kd : Int) (A : Option Addr) (n c : Nat) (a b : Int) (w : World) : Calls Tryz.prog 46 #[.agg #[.int .i64 kd, .slice A n c, .int .i64 a, .int .i64 b]] w fun e w' => e = .returned (.int .i64 (stpN kd n a b)) ∧ Gq w w' := by
  obtain ⟨F, hF⟩ : ∃ F, stpN kd n a b = F := ⟨_, rfl⟩
  rw [hF]
  unfold stpN at hF
  obtain ⟨w1, hw1⟩ : ∃ w1, w1 = w.alloc (.cells #[.int .i64 kd, .slice A n c, .int .i64 a, .int .i64 b] 60) := ⟨_, rfl⟩
  have HG1 : Hid (Gq w w1) := by rw [hw1]; exact (Gq.refl _).alloc _
  have HK1 : Hid (Blk w1 w.heap.size 60 [.int .i64 kd, .slice A n c, .int .i64 a, .int .i64 b]) := by rw [hw1]; exact Blk.new w _ _
  have c0 : w1.cell? ⟨w.heap.size, 0, none⟩ = some (.int .i64 kd) := HK1.out.cell 0
  have c1 : w1.cell? ⟨w.heap.size, 1, none⟩ = some (.slice A n c) := HK1.out.cell 1
  have c2 : w1.cell? ⟨w.heap.size, 2, none⟩ = some (.int .i64 a) := HK1.out.cell 2
  have c3 : w1.cell? ⟨w.heap.size, 3, none⟩ = some (.int .i64 b) := HK1.out.cell 3
  have HW1 := Lib.hid hw1
  clear hw1
  by_cases hk1 : kd = 1
  · have hk := hk1
    have e1 : (kd == 1) = true := by simp [hk]
    have x1 : (kd != 1) = false := by simp [hk]
    have e2 : (kd == 2) = false := by simp [hk]
    have x2 : (kd != 2) = true := by simp [hk]
    have e3 : (kd == 3) = false := by simp [hk]
    have x3 : (kd != 3) = true := by simp [hk]
    by_cases ha : a = 0
    · have y1 : (a != 0) = false := by simp [ha]
      by_cases hb : b = 0
      · have y2 : (b != 0) = false := by simp [hb]
        have HR : Hid (F = 0) := by show _ = _; rw [← hF, if_pos (by omega), if_pos ⟨ha, hb⟩]
        rw [HR.out]
        clear hF hk hk1 ha hb
        go_enter Tryz.func46, Tryz.ntmps46
        go_upto_region 1 with (fail)
        rw [← HW1.out]
        go_wp2_with fail
        go_ret
        exact ⟨rfl, HG1.out⟩
      · have y2 : (b != 0) = true := by simp [hb]
        have HR : Hid (F = 3) := by show _ = _; rw [← hF, if_pos (by omega), if_neg (fun k => hb k.2)]
        rw [HR.out]
        clear hF hk hk1 ha
        go_enter Tryz.func46, Tryz.ntmps46
        go_upto_region 1 with (fail)
        rw [← HW1.out]
        go_wp2_with fail
        go_ret
        exact ⟨rfl, HG1.out⟩
    · have y1 : (a != 0) = true := by simp [ha]
      have HR : Hid (F = 3) := by show _ = _; rw [← hF, if_pos (by omega), if_neg (fun k => ha k.1)]
      rw [HR.out]
      clear hF hk hk1
      go_enter Tryz.func46, Tryz.ntmps46
      go_upto_region 1 with (fail)
      rw [← HW1.out]
      go_wp2_with fail
      go_ret
      exact ⟨rfl, HG1.out⟩
  by_cases hk2 : kd = 2
  · have hk := hk2
    have e1 : (kd == 1) = false := by simp [hk]
    have x1 : (kd != 1) = true := by simp [hk]
    have e2 : (kd == 2) = true := by simp [hk]
    have x2 : (kd != 2) = false := by simp [hk]
    have e3 : (kd == 3) = false := by simp [hk]
    have x3 : (kd != 3) = true := by simp [hk]
    by_cases ha : a = 0
    · have y1 : (a != 0) = false := by simp [ha]
      by_cases hb : b = 0
      · have y2 : (b != 0) = false := by simp [hb]
        have HR : Hid (F = 0) := by show _ = _; rw [← hF, if_pos (by omega), if_pos ⟨ha, hb⟩]
        rw [HR.out]
        clear hF hk hk2 ha hb
        go_enter Tryz.func46, Tryz.ntmps46
        go_upto_region 1 with (fail)
        rw [← HW1.out]
        go_wp2_with fail
        go_ret
        exact ⟨rfl, HG1.out⟩
      · have y2 : (b != 0) = true := by simp [hb]
        have HR : Hid (F = 3) := by show _ = _; rw [← hF, if_pos (by omega), if_neg (fun k => hb k.2)]
        rw [HR.out]
        clear hF hk hk2 ha
        go_enter Tryz.func46, Tryz.ntmps46
        go_upto_region 1 with (fail)
        rw [← HW1.out]
        go_wp2_with fail
        go_ret
        exact ⟨rfl, HG1.out⟩
    · have y1 : (a != 0) = true := by simp [ha]
      have HR : Hid (F = 3) := by show _ = _; rw [← hF, if_pos (by omega), if_neg (fun k => ha k.1)]
      rw [HR.out]
      clear hF hk hk2
      go_enter Tryz.func46, Tryz.ntmps46
      go_upto_region 1 with (fail)
      rw [← HW1.out]
      go_wp2_with fail
      go_ret
      exact ⟨rfl, HG1.out⟩
  by_cases hk3 : kd = 3
  · have hk := hk3
    have e1 : (kd == 1) = false := by simp [hk]
    have x1 : (kd != 1) = true := by simp [hk]
    have e2 : (kd == 2) = false := by simp [hk]
    have x2 : (kd != 2) = true := by simp [hk]
    have e3 : (kd == 3) = true := by simp [hk]
    have x3 : (kd != 3) = false := by simp [hk]
    by_cases hn : 0 < n
    · have y1 : decide ((0 : Int) < (n : Int)) = true := decide_eq_true (by omega)
      have HR : Hid (F = 3) := by show _ = _; rw [← hF, if_neg (by omega), if_pos hk, if_pos hn]
      rw [HR.out]
      clear hF hk hk3
      go_enter Tryz.func46, Tryz.ntmps46
      go_upto_region 1 with (fail)
      rw [← HW1.out]
      go_wp2_with fail
      go_ret
      exact ⟨rfl, HG1.out⟩
    · have y1 : decide ((0 : Int) < (n : Int)) = false := decide_eq_false (by omega)
      have HR : Hid (F = 0) := by show _ = _; rw [← hF, if_neg (by omega), if_pos hk, if_neg hn]
      rw [HR.out]
      clear hF hk hk3
      go_enter Tryz.func46, Tryz.ntmps46
      go_upto_region 1 with (fail)
      rw [← HW1.out]
      go_wp2_with fail
      go_ret
      exact ⟨rfl, HG1.out⟩
  have e1 : (kd == 1) = false := by simp; omega
  have x1 : (kd != 1) = true := by simp; omega
  have e2 : (kd == 2) = false := by simp; omega
  have x2 : (kd != 2) = true := by simp; omega
  have e3 : (kd == 3) = false := by simp; omega
  have x3 : (kd != 3) = true := by simp; omega
  have HR : Hid (F = 4) := by show _ = _; rw [← hF, if_neg (by omega), if_neg hk3]
  rw [HR.out]
  clear hF 
  go_enter Tryz.func46, Tryz.ntmps46
  go_upto_region 1 with (fail)
  rw [← HW1.out]
  go_wp2_with fail
  go_ret
  exact ⟨rfl, HG1.out⟩
set_option maxRecDepth 100000 in
theorem checkShift_any (kd : Int) (A : Option Addr) (n c : Nat) (a b : Int) (w : World) : Calls Tryz.prog 51 #[.agg #[.int .i64 kd, .slice A n c, .int .i64 a, .int .i64 b]] w fun e w' => e = .returned (.int .i64 (rngN a b)) ∧ Gq w w' := by
  obtain ⟨F, hF⟩ : ∃ F, rngN a b = F := ⟨_, rfl⟩
  rw [hF]
  unfold rngN at hF
  obtain ⟨w1, hw1⟩ : ∃ w1, w1 = w.alloc (.cells #[.int .i64 kd, .slice A n c, .int .i64 a, .int .i64 b] 60) := ⟨_, rfl⟩
  have HG1 : Hid (Gq w w1) := by rw [hw1]; exact (Gq.refl _).alloc _
  have HK1 : Hid (Blk w1 w.heap.size 60 [.int .i64 kd, .slice A n c, .int .i64 a, .int .i64 b]) := by rw [hw1]; exact Blk.new w _ _
  have c0 : w1.cell? ⟨w.heap.size, 0, none⟩ = some (.int .i64 kd) := HK1.out.cell 0
  have c1 : w1.cell? ⟨w.heap.size, 1, none⟩ = some (.slice A n c) := HK1.out.cell 1
  have c2 : w1.cell? ⟨w.heap.size, 2, none⟩ = some (.int .i64 a) := HK1.out.cell 2
  have c3 : w1.cell? ⟨w.heap.size, 3, none⟩ = some (.int .i64 b) := HK1.out.cell 3
  have HW1 := Lib.hid hw1
  clear hw1
  by_cases h0 : a < 0
  · have y0 : decide (a < 0) = true := decide_eq_true h0
    have HR : Hid (F = 1) := by show _ = _; rw [← hF, if_neg (by omega)]
    rw [HR.out]
    clear hF 
    go_enter Tryz.func51, Tryz.ntmps51
    go_upto_region 1 with (fail)
    rw [← HW1.out]
    go_wp2_with fail
    go_ret
    exact ⟨rfl, HG1.out⟩
  have y0 : decide (a < 0) = false := decide_eq_false h0
  by_cases h1 : 100000 < a
  · have y1 : decide (100000 < a) = true := decide_eq_true h1
    have HR : Hid (F = 1) := by show _ = _; rw [← hF, if_neg (by omega)]
    rw [HR.out]
    clear hF 
    go_enter Tryz.func51, Tryz.ntmps51
    go_upto_region 1 with (fail)
    rw [← HW1.out]
    go_wp2_with fail
    go_ret
    exact ⟨rfl, HG1.out⟩
  have y1 : decide (100000 < a) = false := decide_eq_false h1
  by_cases h2 : b < -100000
  · have y2 : decide (b < -100000) = true := decide_eq_true h2
    have HR : Hid (F = 1) := by show _ = _; rw [← hF, if_neg (by omega)]
    rw [HR.out]
    clear hF 
    go_enter Tryz.func51, Tryz.ntmps51
    go_upto_region 1 with (fail)
    rw [← HW1.out]
    go_wp2_with fail
    go_ret
    exact ⟨rfl, HG1.out⟩
  have y2 : decide (b < -100000) = false := decide_eq_false h2
  by_cases h3 : 100000 < b
  · have y3 : decide (100000 < b) = true := decide_eq_true h3
    have HR : Hid (F = 1) := by show _ = _; rw [← hF, if_neg (by omega)]
    rw [HR.out]
    clear hF 
    go_enter Tryz.func51, Tryz.ntmps51
    go_upto_region 1 with (fail)
    rw [← HW1.out]
    go_wp2_with fail
    go_ret
    exact ⟨rfl, HG1.out⟩
  have y3 : decide (100000 < b) = false := decide_eq_false h3
  have W1 : IntKind.i64.wrap (a + b) = a + b := IntWalk.i64_in _ ⟨by omega, by omega⟩
  by_cases h4 : a + b < 0
  · have y4 : decide (a + b < 0) = true := decide_eq_true h4
    have HR : Hid (F = 1) := by show _ = _; rw [← hF, if_neg (by omega)]
    rw [HR.out]
    clear hF 
    go_enter Tryz.func51, Tryz.ntmps51
    go_upto_region 1 with (fail)
    rw [← HW1.out]
    go_wp2_with fail
    go_ret
    exact ⟨rfl, HG1.out⟩
  have y4 : decide (a + b < 0) = false := decide_eq_false h4
  by_cases h5 : 100000 < a + b
  · have y5 : decide (100000 < a + b) = true := decide_eq_true h5
    have HR : Hid (F = 1) := by show _ = _; rw [← hF, if_neg (by omega)]
    rw [HR.out]
    clear hF 
    go_enter Tryz.func51, Tryz.ntmps51
    go_upto_region 1 with (fail)
    rw [← HW1.out]
    go_wp2_with fail
    go_ret
    exact ⟨rfl, HG1.out⟩
  have y5 : decide (100000 < a + b) = false := decide_eq_false h5
  have HR : Hid (F = 0) := by show _ = _; rw [← hF, if_pos (by omega)]
  rw [HR.out]
  clear hF 
  go_enter Tryz.func51, Tryz.ntmps51
  go_upto_region 1 with (fail)
  rw [← HW1.out]
  go_wp2_with fail
  go_ret
  exact ⟨rfl, HG1.out⟩
end Go.Proofs.YteaghgbpcpileaaGreatDoor
/- Generated (gen/stc.py): the checks of lists of steps: the program's. -/
namespace Go.Proofs.YteaghgbpcpileaaGreatDoor
open Go.RowKit Go.Dw
attribute [local go_sem ↓] Go.wp_at_zero Go.wp_at_succ

theorem stpsF_bad {l : List Stp} {k : Nat} (hl : l.length ≤ 200) (hk : k < l.length) (h : ∀ j, j < k → stF (l.getD j dStp) = 0) (hb : stF (l.getD k dStp) ≠ 0) : stpsF l = stF (l.getD k dStp) := by
  unfold stpsF; rw [if_neg (by omega)]; exact firstNZ_bad (f := fun i => stF (l.getD i dStp)) h hb hk
theorem stpsF_good {l : List Stp} (hl : l.length ≤ 200) (h : ∀ j, j < l.length → stF (l.getD j dStp) = 0) : stpsF l = 0 := by
  unfold stpsF; rw [if_neg (by omega)]; exact firstNZ_ok h
set_option maxRecDepth 100000 in
set_option maxHeartbeats 4000000 in
theorem checkSteps_any (A : Option Addr) (c : Nat) (L : List StpM) (w : World) (h : Rd w A (L.flatMap StpM.cells)) :
    Calls Tryz.prog 31 #[.slice A L.length c] w fun e w' => e = .returned (.int .i64 (stpsF (L.map StpM.x))) ∧ Gq w w' := by
  have HR := Lib.hid h
  clear h
  by_cases hl : 200 < L.length
  · have HE : Hid (stpsF (L.map StpM.x) = 2) := by show _ = _; unfold stpsF; rw [List.length_map, if_pos hl]
    rw [HE.out]
    have q : decide ((200 : Int) < (L.length : Int)) = true := decide_eq_true (by omega)
    clear hl
    go_enter Tryz.func31, Tryz.ntmps31
    go_wp2_with fail
    go_ret
    exact ⟨rfl, Below.refl _ _⟩
  have q : decide ((200 : Int) < (L.length : Int)) = false := decide_eq_false (by omega)
  have HL : Hid ((L.map StpM.x).length ≤ 200) := by show _ ≤ _; rw [List.length_map]; omega
  go_enter Tryz.func31, Tryz.ntmps31
  go_wp2_with fail
  go_loopw [12] (fun kv wr => ∃ k : Nat, k ≤ L.length ∧ kv = .int .i64 (k : Int) ∧ Hid (∀ j, j < k → stF ((L.map StpM.x).getD j dStp) = 0) ∧ Hid (Gq w wr)) (fun kv _ => L.length - (intOf kv).toNat)
  case atStart => exact ⟨0, Nat.zero_le _, rfl, fun j hj => absurd hj (Nat.not_lt_zero _), Gq.refl _⟩
  case round =>
    obtain ⟨k, hk, rfl, HN, HG⟩ := hrel
    by_cases hlt : k < L.length
    case neg =>
      have hd : decide (k < L.length) = false := by simpa using hlt
      have HE : Hid (stpsF (L.map StpM.x) = 0) := stpsF_good HL.out (fun j hj => HN.out j (by rw [List.length_map] at hj; omega))
      go_wp2_with fail
      go_ret
      exact ⟨ret_int HE.out.symm, HG.out⟩
    have hd : decide (k < L.length) = true := by simpa using hlt
    obtain ⟨b, off, rfl, hb, hc⟩ := stp_at (HR.out.below HG.out) (by omega)
    obtain ⟨d0, d1, d2, d3⟩ := hc k hlt
    have HX : Hid ((L.map StpM.x).getD k dStp = L[k].x) := by show _ = _; rw [List.getD_eq_getElem?_getD, List.getElem?_map, List.getElem?_eq_getElem hlt]; rfl
    have HS1 := Lib.hid (stpN_x L[k])
    have HS2 := Lib.hid (rngN_x L[k])
    have HBAD : Hid (stF L[k].x ≠ 0 → stpsF (L.map StpM.x) = stF L[k].x) := fun hb => by
      have := stpsF_bad HL.out (by rw [List.length_map]; exact hlt) HN.out (by rw [HX.out]; exact hb)
      rw [this, HX.out]
    have HNX : Hid (stF L[k].x = 0 → ∀ j, j < k + 1 → stF ((L.map StpM.x).getD j dStp) = 0) := fun h0 j hj => by
      by_cases hjk : j = k
      · subst hjk; rw [HX.out]; exact h0
      · exact HN.out j (by omega)
    have HST : Hid (stF L[k].x = if stpN L[k].kd L[k].cs.xs.length L[k].at_ L[k].by_ ≠ 0 then stpN L[k].kd L[k].cs.xs.length L[k].at_ L[k].by_ else if L[k].kd = 3 then rngN L[k].at_ L[k].by_ else 0) := by
      show _ = _; rw [HS1.out, HS2.out]; rfl
    obtain ⟨F, hF⟩ : ∃ F, stF L[k].x = F := ⟨_, rfl⟩
    rw [hF] at HBAD HNX HST
    clear hc HX HS1 HS2 hF
    generalize L[k] = x at *
    obtain ⟨xk, ⟨xA, xc, xs⟩, xa, xb⟩ := x
    simp only at d0 d1 d2 d3 HST
    generalize (xs.length : Nat) = xn at *
    obtain ⟨f1, hf1⟩ : ∃ f, stpN xk xn xa xb = f := ⟨_, rfl⟩
    obtain ⟨w1, hw1⟩ : ∃ w1, w1 = wr.alloc (.cells #[.int .i64 xk, .slice xA xn xc, .int .i64 xa, .int .i64 xb] 60) := ⟨_, rfl⟩
    have HG1 : Hid (Gq w w1) := by rw [hw1]; exact Gq.alloc HG.out _
    have HK1 : Hid (Blk w1 wr.heap.size 60 [.int .i64 xk, .slice xA xn xc, .int .i64 xa, .int .i64 xb]) := by rw [hw1]; exact Blk.new wr _ _
    have HCE : Hid (∀ W, Gq w1 W → W.cell? ⟨wr.heap.size, 0, none⟩ = some (.int .i64 xk) ∧ W.cell? ⟨wr.heap.size, 1, none⟩ = some (.slice xA xn xc) ∧ W.cell? ⟨wr.heap.size, 2, none⟩ = some (.int .i64 xa) ∧ W.cell? ⟨wr.heap.size, 3, none⟩ = some (.int .i64 xb)) := fun W hW => by
      have k1 := blkq HK1.out hW
      exact ⟨k1.cell 0, k1.cell 1, k1.cell 2, k1.cell 3⟩
    have HC1 := Lib.hid (checkStep_any xk xA xn xc xa xb w1)
    rw [hf1] at HC1 HST
    have HW1 := Lib.hid hw1
    clear hw1
    go_upto_region 6 with (fail)
    rw [← HW1.out]
    obtain ⟨c0, c1, c2, c3⟩ := HCE.out w1 (Gq.refl _)
    clear d0 d1 d2 d3
    go_wp2_with fail
    refine HC1.out.mono ?_
    rintro e w2 ⟨rfl, hg2⟩
    have HG2 : Hid (Gq w1 w2) := hg2
    have HGW : Hid (Gq w w2) := HG1.out.trans hg2
    clear hg2 c0 c1 c2 c3 HC1
    obtain ⟨c0, c1, c2, c3⟩ := HCE.out w2 HG2.out
    by_cases h1 : f1 = 0
    case neg =>
      have hfb : (f1 != 0) = true := by simpa using h1
      have HE : Hid (stpsF (L.map StpM.x) = f1) := by
        have h2 := HST.out
        rw [if_pos h1] at h2
        show _ = _
        rw [HBAD.out (by rw [h2]; exact h1), h2]
      clear h1 hf1
      go_wp2_with fail
      go_ret
      exact ⟨ret_int HE.out.symm, HGW.out⟩
    have hfb : (f1 != 0) = false := by simp [h1]
    have HST2 : Hid (F = if xk = 3 then rngN xa xb else 0) := by have h2 := HST.out; rw [if_neg (fun k => k h1)] at h2; exact h2
    clear h1 hf1 HST
    by_cases h3 : xk = 3
    case neg =>
      have e3 : (xk == 3) = false := by simp [h3]
      have HNX2 := Lib.hid (HNX.out (by have := HST2.out; rw [if_neg h3] at this; exact this))
      clear h3
      go_wp2_with fail
      go_roundw
      case rel => exact ⟨k + 1, by omega, by go_num, HNX2.out, HGW.out⟩
      case measure => simp [intOf]; omega
    have e3 : (xk == 3) = true := by simp [h3]
    have HST3 : Hid (F = rngN xa xb) := by have h2 := HST2.out; rw [if_pos h3] at h2; exact h2
    obtain ⟨f2, hf2⟩ : ∃ f, rngN xa xb = f := ⟨_, rfl⟩
    have HC2 := Lib.hid (checkShift_any xk xA xn xc xa xb w2)
    rw [hf2] at HC2 HST3
    clear h3 HST2 hf2
    go_wp2_with fail
    refine HC2.out.mono ?_
    rintro e w3 ⟨rfl, hg3⟩
    have HG3 : Hid (Gq w w3) := HGW.out.trans hg3
    clear hg3 c0 c1 c2 c3 HC2
    by_cases h2 : f2 = 0
    · have hfc : (f2 != 0) = false := by simp [h2]
      have HNX2 := Lib.hid (HNX.out (by rw [HST3.out]; exact h2))
      clear h2
      go_wp2_with fail
      go_roundw
      case rel => exact ⟨k + 1, by omega, by go_num, HNX2.out, HG3.out⟩
      case measure => simp [intOf]; omega
    · have hfc : (f2 != 0) = true := by simpa using h2
      have HE : Hid (stpsF (L.map StpM.x) = f2) := by show _ = _; rw [HBAD.out (by rw [HST3.out]; exact h2), HST3.out]
      clear h2
      go_wp2_with fail
      go_ret
      exact ⟨ret_int HE.out.symm, HG3.out⟩
end Go.Proofs.YteaghgbpcpileaaGreatDoor
