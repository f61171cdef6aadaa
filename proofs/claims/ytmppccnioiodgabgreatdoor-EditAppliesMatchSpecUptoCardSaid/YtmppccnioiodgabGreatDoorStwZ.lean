/- Several texts laid into one: Generated (gen/jnr.py): the contract of the reference's within; Generated (gen/sta.py): the checks of a step, and of a shift's numbers: the program's and the reference's; Generated (gen/stc.py): the checks of lists of steps: the program's and the reference's; Generated (gen/fol.py): Follow: the program's and the reference's; -/
import Derived.Test.YtmppccnioiodgabGreatDoorNumB
import Derived.Test.YtmppccnioiodgabGreatDoorProg
import Derived.Deep.DrawnRows
import Derived.Deep.CutBlock
import Derived.Deep.DeepCutAuto
import Derived.Test.YtmppccnioiodgabGreatDoorStpZ
import Derived.Test.YtmppccnioiodgabGreatDoorApdZ
/- Generated (gen/jnr.py): the contract of the reference's within. -/
namespace Go.Proofs.YtmppccnioiodgabGreatDoor
open Go.RowKit Go.Dw
attribute [local go_sem ↓] Go.wp_at_zero Go.wp_at_succ

set_option maxRecDepth 100000 in
theorem withinR_any (n lo hi : Int) (w : World) : Calls Tryz.prog 23 #[.int .i64 n, .int .i64 lo, .int .i64 hi] w fun e w' => e = .returned (.bool (decide (lo ≤ n ∧ n ≤ hi))) ∧ w = w' := by
  by_cases h1 : lo ≤ n
  · by_cases h2 : n ≤ hi
    · have HR : Hid (decide (lo ≤ n ∧ n ≤ hi) = true) := decide_eq_true ⟨h1, h2⟩
      rw [HR.out]
      have q1 : decide (lo ≤ n) = true := decide_eq_true h1
      have q2 : decide (n ≤ hi) = true := decide_eq_true h2
      go_enter Tryz.func23, Tryz.ntmps23
      go_wp2_with fail
      go_ret
      exact ⟨rfl, rfl⟩
    · have HR : Hid (decide (lo ≤ n ∧ n ≤ hi) = false) := decide_eq_false (fun h => h2 h.2)
      rw [HR.out]
      have q1 : decide (lo ≤ n) = true := decide_eq_true h1
      have q2 : decide (n ≤ hi) = false := decide_eq_false h2
      go_enter Tryz.func23, Tryz.ntmps23
      go_wp2_with fail
      go_ret
      exact ⟨rfl, rfl⟩
  · have HR : Hid (decide (lo ≤ n ∧ n ≤ hi) = false) := decide_eq_false (fun h => h1 h.1)
    rw [HR.out]
    have q1 : decide (lo ≤ n) = false := decide_eq_false h1
    go_enter Tryz.func23, Tryz.ntmps23
    go_wp2_with fail
    go_ret
    exact ⟨rfl, rfl⟩
end Go.Proofs.YtmppccnioiodgabGreatDoor
/- Generated (gen/sta.py): the checks of a step, and of a shift's numbers: the program's and the reference's. -/
namespace Go.Proofs.YtmppccnioiodgabGreatDoor
open Go.RowKit Go.Dw
attribute [local go_sem ↓] Go.wp_at_zero Go.wp_at_succ

def stpN (kd : Int) (n : Nat) (a b : Int) : Int := if kd = 1 ∨ kd = 2 then (if a = 0 ∧ b = 0 then 0 else 3) else if kd = 3 then (if 0 < n then 3 else 0) else 4
def rngN (a b : Int) : Int := if (0 ≤ a ∧ a ≤ 100000) ∧ (-100000 ≤ b ∧ b ≤ 100000) ∧ (0 ≤ a + b ∧ a + b ≤ 100000) then 0 else 1
theorem stpN_x (s : StpM) : stpN s.kd s.cs.xs.length s.at_ s.by_ = stpF s.x := by unfold stpN stpF StpM.x; simp only [List.length_map]
theorem rngN_x (s : StpM) : rngN s.at_ s.by_ = rngF s.x := rfl
set_option maxRecDepth 100000 in
theorem checkStep_any (kd : Int) (A : Option Addr) (n c : Nat) (a b : Int) (w : World) : Calls Tryz.prog 30 #[.agg #[.int .i64 kd, .slice A n c, .int .i64 a, .int .i64 b]] w fun e w' => e = .returned (.int .i64 (stpN kd n a b)) ∧ Gq w w' := by
  obtain ⟨F, hF⟩ : ∃ F, stpN kd n a b = F := ⟨_, rfl⟩
  rw [hF]
  unfold stpN at hF
  obtain ⟨w1, hw1⟩ : ∃ w1, w1 = w.alloc (.cells #[.int .i64 kd, .slice A n c, .int .i64 a, .int .i64 b] 40) := ⟨_, rfl⟩
  have HG1 : Hid (Gq w w1) := by rw [hw1]; exact (Gq.refl _).alloc _
  have HK1 : Hid (Blk w1 w.heap.size 40 [.int .i64 kd, .slice A n c, .int .i64 a, .int .i64 b]) := by rw [hw1]; exact Blk.new w _ _
  have c0 : w1.cell? ⟨w.heap.size, 0, none⟩ = some (.int .i64 kd) := HK1.out.cell 0
  have c1 : w1.cell? ⟨w.heap.size, 1, none⟩ = some (.slice A n c) := HK1.out.cell 1
  have c2 : w1.cell? ⟨w.heap.size, 2, none⟩ = some (.int .i64 a) := HK1.out.cell 2
  have c3 : w1.cell? ⟨w.heap.size, 3, none⟩ = some (.int .i64 b) := HK1.out.cell 3
  have HW1 := Lib.hid hw1
  clear hw1
  by_cases hk1 : kd = 1
  · have hk := hk1
    have e1 : (kd == 1) = true := by simp [hk]
    have x1 : (kd != 1) = false := by simp [hk]
    have e2 : (kd == 2) = false := by simp [hk]
    have x2 : (kd != 2) = true := by simp [hk]
    have e3 : (kd == 3) = false := by simp [hk]
    have x3 : (kd != 3) = true := by simp [hk]
    by_cases ha : a = 0
    · have y1 : (a != 0) = false := by simp [ha]
      by_cases hb : b = 0
      · have y2 : (b != 0) = false := by simp [hb]
        have HR : Hid (F = 0) := by show _ = _; rw [← hF, if_pos (by omega), if_pos ⟨ha, hb⟩]
        rw [HR.out]
        clear hF hk hk1 ha hb
        go_enter Tryz.func30, Tryz.ntmps30
        go_upto_region 1 with (fail)
        rw [← HW1.out]
        go_wp2_with fail
        go_ret
        exact ⟨rfl, HG1.out⟩
      · have y2 : (b != 0) = true := by simp [hb]
        have HR : Hid (F = 3) := by show _ = _; rw [← hF, if_pos (by omega), if_neg (fun k => hb k.2)]
        rw [HR.out]
        clear hF hk hk1 ha
        go_enter Tryz.func30, Tryz.ntmps30
        go_upto_region 1 with (fail)
        rw [← HW1.out]
        go_wp2_with fail
        go_ret
        exact ⟨rfl, HG1.out⟩
    · have y1 : (a != 0) = true := by simp [ha]
      have HR : Hid (F = 3) := by show _ = _; rw [← hF, if_pos (by omega), if_neg (fun k => ha k.1)]
      rw [HR.out]
      clear hF hk hk1
      go_enter Tryz.func30, Tryz.ntmps30
      go_upto_region 1 with (fail)
      rw [← HW1.out]
      go_wp2_with fail
      go_ret
      exact ⟨rfl, HG1.out⟩
  by_cases hk2 : kd = 2
  · have hk := hk2
    have e1 : (kd == 1) = false := by simp [hk]
    have x1 : (kd != 1) = true := by simp [hk]
    have e2 : (kd == 2) = true := by simp [hk]
    have x2 : (kd != 2) = false := by simp [hk]
    have e3 : (kd == 3) = false := by simp [hk]
    have x3 : (kd != 3) = true := by simp [hk]
    by_cases ha : a = 0
    · have y1 : (a != 0) = false := by simp [ha]
      by_cases hb : b = 0
      · have y2 : (b != 0) = false := by simp [hb]
        have HR : Hid (F = 0) := by show _ = _; rw [← hF, if_pos (by omega), if_pos ⟨ha, hb⟩]
        rw [HR.out]
        clear hF hk hk2 ha hb
        go_enter Tryz.func30, Tryz.ntmps30
        go_upto_region 1 with (fail)
        rw [← HW1.out]
        go_wp2_with fail
        go_ret
        exact ⟨rfl, HG1.out⟩
      · have y2 : (b != 0) = true := by simp [hb]
        have HR : Hid (F = 3) := by show _ = _; rw [← hF, if_pos (by omega), if_neg (fun k => hb k.2)]
        rw [HR.out]
        clear hF hk hk2 ha
        go_enter Tryz.func30, Tryz.ntmps30
        go_upto_region 1 with (fail)
        rw [← HW1.out]
        go_wp2_with fail
        go_ret
        exact ⟨rfl, HG1.out⟩
    · have y1 : (a != 0) = true := by simp [ha]
      have HR : Hid (F = 3) := by show _ = _; rw [← hF, if_pos (by omega), if_neg (fun k => ha k.1)]
      rw [HR.out]
      clear hF hk hk2
      go_enter Tryz.func30, Tryz.ntmps30
      go_upto_region 1 with (fail)
      rw [← HW1.out]
      go_wp2_with fail
      go_ret
      exact ⟨rfl, HG1.out⟩
  by_cases hk3 : kd = 3
  · have hk := hk3
    have e1 : (kd == 1) = false := by simp [hk]
    have x1 : (kd != 1) = true := by simp [hk]
    have e2 : (kd == 2) = false := by simp [hk]
    have x2 : (kd != 2) = true := by simp [hk]
    have e3 : (kd == 3) = true := by simp [hk]
    have x3 : (kd != 3) = false := by simp [hk]
    by_cases hn : 0 < n
    · have y1 : decide ((0 : Int) < (n : Int)) = true := decide_eq_true (by omega)
      have HR : Hid (F = 3) := by show _ = _; rw [← hF, if_neg (by omega), if_pos hk, if_pos hn]
      rw [HR.out]
      clear hF hk hk3
      go_enter Tryz.func30, Tryz.ntmps30
      go_upto_region 1 with (fail)
      rw [← HW1.out]
      go_wp2_with fail
      go_ret
      exact ⟨rfl, HG1.out⟩
    · have y1 : decide ((0 : Int) < (n : Int)) = false := decide_eq_false (by omega)
      have HR : Hid (F = 0) := by show _ = _; rw [← hF, if_neg (by omega), if_pos hk, if_neg hn]
      rw [HR.out]
      clear hF hk hk3
      go_enter Tryz.func30, Tryz.ntmps30
      go_upto_region 1 with (fail)
      rw [← HW1.out]
      go_wp2_with fail
      go_ret
      exact ⟨rfl, HG1.out⟩
  have e1 : (kd == 1) = false := by simp; omega
  have x1 : (kd != 1) = true := by simp; omega
  have e2 : (kd == 2) = false := by simp; omega
  have x2 : (kd != 2) = true := by simp; omega
  have e3 : (kd == 3) = false := by simp; omega
  have x3 : (kd != 3) = true := by simp; omega
  have HR : Hid (F = 4) := by show _ = _; rw [← hF, if_neg (by omega), if_neg hk3]
  rw [HR.out]
  clear hF 
  go_enter Tryz.func30, Tryz.ntmps30
  go_upto_region 1 with (fail)
  rw [← HW1.out]
  go_wp2_with fail
  go_ret
  exact ⟨rfl, HG1.out⟩
set_option maxRecDepth 100000 in
theorem checkStepR_any (kd : Int) (A : Option Addr) (n c : Nat) (a b : Int) (w : World) : Calls Tryz.prog 40 #[.agg #[.int .i64 kd, .slice A n c, .int .i64 a, .int .i64 b]] w fun e w' => e = .returned (.int .i64 (stpN kd n a b)) ∧ Gq w w' := by
  obtain ⟨F, hF⟩ : ∃ F, stpN kd n a b = F := ⟨_, rfl⟩
  rw [hF]
  unfold stpN at hF
  obtain ⟨w1, hw1⟩ : ∃ w1, w1 = w.alloc (.cells #[.int .i64 kd, .slice A n c, .int .i64 a, .int .i64 b] 40) := ⟨_, rfl⟩
  have HG1 : Hid (Gq w w1) := by rw [hw1]; exact (Gq.refl _).alloc _
  have HK1 : Hid (Blk w1 w.heap.size 40 [.int .i64 kd, .slice A n c, .int .i64 a, .int .i64 b]) := by rw [hw1]; exact Blk.new w _ _
  have c0 : w1.cell? ⟨w.heap.size, 0, none⟩ = some (.int .i64 kd) := HK1.out.cell 0
  have c1 : w1.cell? ⟨w.heap.size, 1, none⟩ = some (.slice A n c) := HK1.out.cell 1
  have c2 : w1.cell? ⟨w.heap.size, 2, none⟩ = some (.int .i64 a) := HK1.out.cell 2
  have c3 : w1.cell? ⟨w.heap.size, 3, none⟩ = some (.int .i64 b) := HK1.out.cell 3
  have HW1 := Lib.hid hw1
  clear hw1
  by_cases hk1 : kd = 1
  · have hk := hk1
    have e1 : (kd == 1) = true := by simp [hk]
    have x1 : (kd != 1) = false := by simp [hk]
    have e2 : (kd == 2) = false := by simp [hk]
    have x2 : (kd != 2) = true := by simp [hk]
    have e3 : (kd == 3) = false := by simp [hk]
    have x3 : (kd != 3) = true := by simp [hk]
    by_cases ha : a = 0
    · have y1 : (a != 0) = false := by simp [ha]
      by_cases hb : b = 0
      · have y2 : (b != 0) = false := by simp [hb]
        have HR : Hid (F = 0) := by show _ = _; rw [← hF, if_pos (by omega), if_pos ⟨ha, hb⟩]
        rw [HR.out]
        clear hF hk hk1 ha hb
        go_enter Tryz.func40, Tryz.ntmps40
        go_upto_region 1 with (fail)
        rw [← HW1.out]
        go_wp2_with fail
        go_ret
        exact ⟨rfl, HG1.out⟩
      · have y2 : (b != 0) = true := by simp [hb]
        have HR : Hid (F = 3) := by show _ = _; rw [← hF, if_pos (by omega), if_neg (fun k => hb k.2)]
        rw [HR.out]
        clear hF hk hk1 ha
        go_enter Tryz.func40, Tryz.ntmps40
        go_upto_region 1 with (fail)
        rw [← HW1.out]
        go_wp2_with fail
        go_ret
        exact ⟨rfl, HG1.out⟩
    · have y1 : (a != 0) = true := by simp [ha]
      have HR : Hid (F = 3) := by show _ = _; rw [← hF, if_pos (by omega), if_neg (fun k => ha k.1)]
      rw [HR.out]
      clear hF hk hk1
      go_enter Tryz.func40, Tryz.ntmps40
      go_upto_region 1 with (fail)
      rw [← HW1.out]
      go_wp2_with fail
      go_ret
      exact ⟨rfl, HG1.out⟩
  by_cases hk2 : kd = 2
  · have hk := hk2
    have e1 : (kd == 1) = false := by simp [hk]
    have x1 : (kd != 1) = true := by simp [hk]
    have e2 : (kd == 2) = true := by simp [hk]
    have x2 : (kd != 2) = false := by simp [hk]
    have e3 : (kd == 3) = false := by simp [hk]
    have x3 : (kd != 3) = true := by simp [hk]
    by_cases ha : a = 0
    · have y1 : (a != 0) = false := by simp [ha]
      by_cases hb : b = 0
      · have y2 : (b != 0) = false := by simp [hb]
        have HR : Hid (F = 0) := by show _ = _; rw [← hF, if_pos (by omega), if_pos ⟨ha, hb⟩]
        rw [HR.out]
        clear hF hk hk2 ha hb
        go_enter Tryz.func40, Tryz.ntmps40
        go_upto_region 1 with (fail)
        rw [← HW1.out]
        go_wp2_with fail
        go_ret
        exact ⟨rfl, HG1.out⟩
      · have y2 : (b != 0) = true := by simp [hb]
        have HR : Hid (F = 3) := by show _ = _; rw [← hF, if_pos (by omega), if_neg (fun k => hb k.2)]
        rw [HR.out]
        clear hF hk hk2 ha
        go_enter Tryz.func40, Tryz.ntmps40
        go_upto_region 1 with (fail)
        rw [← HW1.out]
        go_wp2_with fail
        go_ret
        exact ⟨rfl, HG1.out⟩
    · have y1 : (a != 0) = true := by simp [ha]
      have HR : Hid (F = 3) := by show _ = _; rw [← hF, if_pos (by omega), if_neg (fun k => ha k.1)]
      rw [HR.out]
      clear hF hk hk2
      go_enter Tryz.func40, Tryz.ntmps40
      go_upto_region 1 with (fail)
      rw [← HW1.out]
      go_wp2_with fail
      go_ret
      exact ⟨rfl, HG1.out⟩
  by_cases hk3 : kd = 3
  · have hk := hk3
    have e1 : (kd == 1) = false := by simp [hk]
    have x1 : (kd != 1) = true := by simp [hk]
    have e2 : (kd == 2) = false := by simp [hk]
    have x2 : (kd != 2) = true := by simp [hk]
    have e3 : (kd == 3) = true := by simp [hk]
    have x3 : (kd != 3) = false := by simp [hk]
    by_cases hn : 0 < n
    · have y1 : decide ((0 : Int) < (n : Int)) = true := decide_eq_true (by omega)
      have HR : Hid (F = 3) := by show _ = _; rw [← hF, if_neg (by omega), if_pos hk, if_pos hn]
      rw [HR.out]
      clear hF hk hk3
      go_enter Tryz.func40, Tryz.ntmps40
      go_upto_region 1 with (fail)
      rw [← HW1.out]
      go_wp2_with fail
      go_ret
      exact ⟨rfl, HG1.out⟩
    · have y1 : decide ((0 : Int) < (n : Int)) = false := decide_eq_false (by omega)
      have HR : Hid (F = 0) := by show _ = _; rw [← hF, if_neg (by omega), if_pos hk, if_neg hn]
      rw [HR.out]
      clear hF hk hk3
      go_enter Tryz.func40, Tryz.ntmps40
      go_upto_region 1 with (fail)
      rw [← HW1.out]
      go_wp2_with fail
      go_ret
      exact ⟨rfl, HG1.out⟩
  have e1 : (kd == 1) = false := by simp; omega
  have x1 : (kd != 1) = true := by simp; omega
  have e2 : (kd == 2) = false := by simp; omega
  have x2 : (kd != 2) = true := by simp; omega
  have e3 : (kd == 3) = false := by simp; omega
  have x3 : (kd != 3) = true := by simp; omega
  have HR : Hid (F = 4) := by show _ = _; rw [← hF, if_neg (by omega), if_neg hk3]
  rw [HR.out]
  clear hF 
  go_enter Tryz.func40, Tryz.ntmps40
  go_upto_region 1 with (fail)
  rw [← HW1.out]
  go_wp2_with fail
  go_ret
  exact ⟨rfl, HG1.out⟩
set_option maxRecDepth 100000 in
theorem checkShift_any (kd : Int) (A : Option Addr) (n c : Nat) (a b : Int) (w : World) : Calls Tryz.prog 36 #[.agg #[.int .i64 kd, .slice A n c, .int .i64 a, .int .i64 b]] w fun e w' => e = .returned (.int .i64 (rngN a b)) ∧ Gq w w' := by
  obtain ⟨F, hF⟩ : ∃ F, rngN a b = F := ⟨_, rfl⟩
  rw [hF]
  unfold rngN at hF
  obtain ⟨w1, hw1⟩ : ∃ w1, w1 = w.alloc (.cells #[.int .i64 kd, .slice A n c, .int .i64 a, .int .i64 b] 40) := ⟨_, rfl⟩
  have HG1 : Hid (Gq w w1) := by rw [hw1]; exact (Gq.refl _).alloc _
  have HK1 : Hid (Blk w1 w.heap.size 40 [.int .i64 kd, .slice A n c, .int .i64 a, .int .i64 b]) := by rw [hw1]; exact Blk.new w _ _
  have c0 : w1.cell? ⟨w.heap.size, 0, none⟩ = some (.int .i64 kd) := HK1.out.cell 0
  have c1 : w1.cell? ⟨w.heap.size, 1, none⟩ = some (.slice A n c) := HK1.out.cell 1
  have c2 : w1.cell? ⟨w.heap.size, 2, none⟩ = some (.int .i64 a) := HK1.out.cell 2
  have c3 : w1.cell? ⟨w.heap.size, 3, none⟩ = some (.int .i64 b) := HK1.out.cell 3
  have HW1 := Lib.hid hw1
  clear hw1
  by_cases h0 : a < 0
  · have y0 : decide (a < 0) = true := decide_eq_true h0
    have HR : Hid (F = 1) := by show _ = _; rw [← hF, if_neg (by omega)]
    rw [HR.out]
    clear hF 
    go_enter Tryz.func36, Tryz.ntmps36
    go_upto_region 1 with (fail)
    rw [← HW1.out]
    go_wp2_with fail
    go_ret
    exact ⟨rfl, HG1.out⟩
  have y0 : decide (a < 0) = false := decide_eq_false h0
  by_cases h1 : 100000 < a
  · have y1 : decide (100000 < a) = true := decide_eq_true h1
    have HR : Hid (F = 1) := by show _ = _; rw [← hF, if_neg (by omega)]
    rw [HR.out]
    clear hF 
    go_enter Tryz.func36, Tryz.ntmps36
    go_upto_region 1 with (fail)
    rw [← HW1.out]
    go_wp2_with fail
    go_ret
    exact ⟨rfl, HG1.out⟩
  have y1 : decide (100000 < a) = false := decide_eq_false h1
  by_cases h2 : b < -100000
  · have y2 : decide (b < -100000) = true := decide_eq_true h2
    have HR : Hid (F = 1) := by show _ = _; rw [← hF, if_neg (by omega)]
    rw [HR.out]
    clear hF 
    go_enter Tryz.func36, Tryz.ntmps36
    go_upto_region 1 with (fail)
    rw [← HW1.out]
    go_wp2_with fail
    go_ret
    exact ⟨rfl, HG1.out⟩
  have y2 : decide (b < -100000) = false := decide_eq_false h2
  by_cases h3 : 100000 < b
  · have y3 : decide (100000 < b) = true := decide_eq_true h3
    have HR : Hid (F = 1) := by show _ = _; rw [← hF, if_neg (by omega)]
    rw [HR.out]
    clear hF 
    go_enter Tryz.func36, Tryz.ntmps36
    go_upto_region 1 with (fail)
    rw [← HW1.out]
    go_wp2_with fail
    go_ret
    exact ⟨rfl, HG1.out⟩
  have y3 : decide (100000 < b) = false := decide_eq_false h3
  have W1 : IntKind.i64.wrap (a + b) = a + b := IntWalk.i64_in _ ⟨by omega, by omega⟩
  by_cases h4 : a + b < 0
  · have y4 : decide (a + b < 0) = true := decide_eq_true h4
    have HR : Hid (F = 1) := by show _ = _; rw [← hF, if_neg (by omega)]
    rw [HR.out]
    clear hF 
    go_enter Tryz.func36, Tryz.ntmps36
    go_upto_region 1 with (fail)
    rw [← HW1.out]
    go_wp2_with fail
    go_ret
    exact ⟨rfl, HG1.out⟩
  have y4 : decide (a + b < 0) = false := decide_eq_false h4
  by_cases h5 : 100000 < a + b
  · have y5 : decide (100000 < a + b) = true := decide_eq_true h5
    have HR : Hid (F = 1) := by show _ = _; rw [← hF, if_neg (by omega)]
    rw [HR.out]
    clear hF 
    go_enter Tryz.func36, Tryz.ntmps36
    go_upto_region 1 with (fail)
    rw [← HW1.out]
    go_wp2_with fail
    go_ret
    exact ⟨rfl, HG1.out⟩
  have y5 : decide (100000 < a + b) = false := decide_eq_false h5
  have HR : Hid (F = 0) := by show _ = _; rw [← hF, if_pos (by omega)]
  rw [HR.out]
  clear hF 
  go_enter Tryz.func36, Tryz.ntmps36
  go_upto_region 1 with (fail)
  rw [← HW1.out]
  go_wp2_with fail
  go_ret
  exact ⟨rfl, HG1.out⟩
set_option maxRecDepth 100000 in
theorem checkShiftR_any (kd : Int) (A : Option Addr) (n c : Nat) (a b : Int) (w : World) : Calls Tryz.prog 43 #[.agg #[.int .i64 kd, .slice A n c, .int .i64 a, .int .i64 b]] w fun e w' => e = .returned (.int .i64 (if kd = 3 then rngN a b else 0)) ∧ Gq w w' := by
  obtain ⟨F, hF⟩ : ∃ F, (if kd = 3 then rngN a b else 0) = F := ⟨_, rfl⟩
  rw [hF]
  unfold rngN at hF
  obtain ⟨w1, hw1⟩ : ∃ w1, w1 = w.alloc (.cells #[.int .i64 kd, .slice A n c, .int .i64 a, .int .i64 b] 40) := ⟨_, rfl⟩
  have HG1 : Hid (Gq w w1) := by rw [hw1]; exact (Gq.refl _).alloc _
  have HK1 : Hid (Blk w1 w.heap.size 40 [.int .i64 kd, .slice A n c, .int .i64 a, .int .i64 b]) := by rw [hw1]; exact Blk.new w _ _
  have c0 : w1.cell? ⟨w.heap.size, 0, none⟩ = some (.int .i64 kd) := HK1.out.cell 0
  have c1 : w1.cell? ⟨w.heap.size, 1, none⟩ = some (.slice A n c) := HK1.out.cell 1
  have c2 : w1.cell? ⟨w.heap.size, 2, none⟩ = some (.int .i64 a) := HK1.out.cell 2
  have c3 : w1.cell? ⟨w.heap.size, 3, none⟩ = some (.int .i64 b) := HK1.out.cell 3
  have HW1 := Lib.hid hw1
  clear hw1
  by_cases hk : kd = 3
  case neg =>
    have e3 : (kd == 3) = false := by simp [hk]
    have HR : Hid (F = 0) := by show _ = _; rw [← hF, if_neg hk]
    rw [HR.out]
    clear hF 
    go_enter Tryz.func43, Tryz.ntmps43
    go_upto_region 1 with (fail)
    rw [← HW1.out]
    go_wp2_with fail
    go_ret
    exact ⟨rfl, HG1.out⟩
  have e3 : (kd == 3) = true := by simp [hk]
  rw [if_pos hk] at hF
  clear hk
  have C0 := Lib.hid (withinR_any (a) 0 100000 w1)
  by_cases h0 : 0 ≤ a ∧ a ≤ 100000
  case neg =>
    have y0 : decide (0 ≤ a ∧ a ≤ 100000) = false := decide_eq_false h0
    rw [y0] at C0
    have HR : Hid (F = 1) := by show _ = _; rw [← hF, if_neg (fun k => h0 k.1)]
    rw [HR.out]
    clear hF 
    go_enter Tryz.func43, Tryz.ntmps43
    go_upto_region 1 with (fail)
    rw [← HW1.out]
    go_wp2_with fail
    refine C0.out.mono ?_
    rintro e w2 ⟨rfl, rfl⟩
    go_wp2_with fail
    go_ret
    exact ⟨rfl, HG1.out⟩
  have y0 : decide (0 ≤ a ∧ a ≤ 100000) = true := decide_eq_true h0
  rw [y0] at C0
  have C1 := Lib.hid (withinR_any (b) (-100000) 100000 w1)
  by_cases h1 : (-100000) ≤ b ∧ b ≤ 100000
  case neg =>
    have y1 : decide ((-100000) ≤ b ∧ b ≤ 100000) = false := decide_eq_false h1
    rw [y1] at C1
    have HR : Hid (F = 1) := by show _ = _; rw [← hF, if_neg (fun k => h1 k.2.1)]
    rw [HR.out]
    clear hF 
    go_enter Tryz.func43, Tryz.ntmps43
    go_upto_region 1 with (fail)
    rw [← HW1.out]
    go_wp2_with fail
    refine C0.out.mono ?_
    rintro e w2 ⟨rfl, rfl⟩
    go_wp2_with fail
    refine C1.out.mono ?_
    rintro e w2 ⟨rfl, rfl⟩
    go_wp2_with fail
    go_ret
    exact ⟨rfl, HG1.out⟩
  have y1 : decide ((-100000) ≤ b ∧ b ≤ 100000) = true := decide_eq_true h1
  rw [y1] at C1
  have W1 : IntKind.i64.wrap (a + b) = a + b := IntWalk.i64_in _ ⟨by omega, by omega⟩
  have C2 := Lib.hid (withinR_any (a + b) 0 100000 w1)
  by_cases h2 : 0 ≤ a + b ∧ a + b ≤ 100000
  case neg =>
    have y2 : decide (0 ≤ a + b ∧ a + b ≤ 100000) = false := decide_eq_false h2
    rw [y2] at C2
    have HR : Hid (F = 1) := by show _ = _; rw [← hF, if_neg (fun k => h2 k.2.2)]
    rw [HR.out]
    clear hF 
    go_enter Tryz.func43, Tryz.ntmps43
    go_upto_region 1 with (fail)
    rw [← HW1.out]
    go_wp2_with fail
    refine C0.out.mono ?_
    rintro e w2 ⟨rfl, rfl⟩
    go_wp2_with fail
    refine C1.out.mono ?_
    rintro e w2 ⟨rfl, rfl⟩
    go_wp2_with fail
    refine C2.out.mono ?_
    rintro e w2 ⟨rfl, rfl⟩
    go_wp2_with fail
    go_ret
    exact ⟨rfl, HG1.out⟩
  have y2 : decide (0 ≤ a + b ∧ a + b ≤ 100000) = true := decide_eq_true h2
  rw [y2] at C2
  have HR : Hid (F = 0) := by show _ = _; rw [← hF, if_pos ⟨h0, h1, h2⟩]
  rw [HR.out]
  clear hF 
  go_enter Tryz.func43, Tryz.ntmps43
  go_upto_region 1 with (fail)
  rw [← HW1.out]
  go_wp2_with fail
  refine C0.out.mono ?_
  rintro e w2 ⟨rfl, rfl⟩
  go_wp2_with fail
  refine C1.out.mono ?_
  rintro e w2 ⟨rfl, rfl⟩
  go_wp2_with fail
  refine C2.out.mono ?_
  rintro e w2 ⟨rfl, rfl⟩
  go_wp2_with fail
  go_ret
  exact ⟨rfl, HG1.out⟩
end Go.Proofs.YtmppccnioiodgabGreatDoor
/- Generated (gen/stc.py): the checks of lists of steps: the program's and the reference's. -/
namespace Go.Proofs.YtmppccnioiodgabGreatDoor
open Go.RowKit Go.Dw
attribute [local go_sem ↓] Go.wp_at_zero Go.wp_at_succ

theorem stpsF_bad {l : List Stp} {k : Nat} (hl : l.length ≤ 200) (hk : k < l.length) (h : ∀ j, j < k → stF (l.getD j dStp) = 0) (hb : stF (l.getD k dStp) ≠ 0) : stpsF l = stF (l.getD k dStp) := by
  unfold stpsF; rw [if_neg (by omega)]; exact firstNZ_bad (f := fun i => stF (l.getD i dStp)) h hb hk
theorem stpsF_good {l : List Stp} (hl : l.length ≤ 200) (h : ∀ j, j < l.length → stF (l.getD j dStp) = 0) : stpsF l = 0 := by
  unfold stpsF; rw [if_neg (by omega)]; exact firstNZ_ok h
set_option maxRecDepth 100000 in
set_option maxHeartbeats 4000000 in
theorem checkSteps_any (A : Option Addr) (c : Nat) (L : List StpM) (w : World) (h : Rd w A (L.flatMap StpM.cells)) :
    Calls Tryz.prog 20 #[.slice A L.length c] w fun e w' => e = .returned (.int .i64 (stpsF (L.map StpM.x))) ∧ Gq w w' := by
  have HR := Lib.hid h
  clear h
  by_cases hl : 200 < L.length
  · have HE : Hid (stpsF (L.map StpM.x) = 2) := by show _ = _; unfold stpsF; rw [List.length_map, if_pos hl]
    rw [HE.out]
    have q : decide ((200 : Int) < (L.length : Int)) = true := decide_eq_true (by omega)
    clear hl
    go_enter Tryz.func20, Tryz.ntmps20
    go_wp2_with fail
    go_ret
    exact ⟨rfl, Below.refl _ _⟩
  have q : decide ((200 : Int) < (L.length : Int)) = false := decide_eq_false (by omega)
  have HL : Hid ((L.map StpM.x).length ≤ 200) := by show _ ≤ _; rw [List.length_map]; omega
  go_enter Tryz.func20, Tryz.ntmps20
  go_wp2_with fail
  go_loopw [12] (fun kv wr => ∃ k : Nat, k ≤ L.length ∧ kv = .int .i64 (k : Int) ∧ Hid (∀ j, j < k → stF ((L.map StpM.x).getD j dStp) = 0) ∧ Hid (Gq w wr)) (fun kv _ => L.length - (intOf kv).toNat)
  case atStart => exact ⟨0, Nat.zero_le _, rfl, fun j hj => absurd hj (Nat.not_lt_zero _), Gq.refl _⟩
  case round =>
    obtain ⟨k, hk, rfl, HN, HG⟩ := hrel
    by_cases hlt : k < L.length
    case neg =>
      have hd : decide (k < L.length) = false := by simpa using hlt
      have HE : Hid (stpsF (L.map StpM.x) = 0) := stpsF_good HL.out (fun j hj => HN.out j (by rw [List.length_map] at hj; omega))
      go_wp2_with fail
      go_ret
      exact ⟨ret_int HE.out.symm, HG.out⟩
    have hd : decide (k < L.length) = true := by simpa using hlt
    obtain ⟨b, off, rfl, hb, hc⟩ := stp_at (HR.out.below HG.out) (by omega)
    obtain ⟨d0, d1, d2, d3⟩ := hc k hlt
    have HX : Hid ((L.map StpM.x).getD k dStp = L[k].x) := by show _ = _; rw [List.getD_eq_getElem?_getD, List.getElem?_map, List.getElem?_eq_getElem hlt]; rfl
    have HS1 := Lib.hid (stpN_x L[k])
    have HS2 := Lib.hid (rngN_x L[k])
    have HBAD : Hid (stF L[k].x ≠ 0 → stpsF (L.map StpM.x) = stF L[k].x) := fun hb => by
      have := stpsF_bad HL.out (by rw [List.length_map]; exact hlt) HN.out (by rw [HX.out]; exact hb)
      rw [this, HX.out]
    have HNX : Hid (stF L[k].x = 0 → ∀ j, j < k + 1 → stF ((L.map StpM.x).getD j dStp) = 0) := fun h0 j hj => by
      by_cases hjk : j = k
      · subst hjk; rw [HX.out]; exact h0
      · exact HN.out j (by omega)
    have HST : Hid (stF L[k].x = if stpN L[k].kd L[k].cs.xs.length L[k].at_ L[k].by_ ≠ 0 then stpN L[k].kd L[k].cs.xs.length L[k].at_ L[k].by_ else if L[k].kd = 3 then rngN L[k].at_ L[k].by_ else 0) := by
      show _ = _; rw [HS1.out, HS2.out]; rfl
    obtain ⟨F, hF⟩ : ∃ F, stF L[k].x = F := ⟨_, rfl⟩
    rw [hF] at HBAD HNX HST
    clear hc HX HS1 HS2 hF
    generalize L[k] = x at *
    obtain ⟨xk, ⟨xA, xc, xs⟩, xa, xb⟩ := x
    simp only at d0 d1 d2 d3 HST
    generalize (xs.length : Nat) = xn at *
    obtain ⟨f1, hf1⟩ : ∃ f, stpN xk xn xa xb = f := ⟨_, rfl⟩
    obtain ⟨w1, hw1⟩ : ∃ w1, w1 = wr.alloc (.cells #[.int .i64 xk, .slice xA xn xc, .int .i64 xa, .int .i64 xb] 40) := ⟨_, rfl⟩
    have HG1 : Hid (Gq w w1) := by rw [hw1]; exact Gq.alloc HG.out _
    have HK1 : Hid (Blk w1 wr.heap.size 40 [.int .i64 xk, .slice xA xn xc, .int .i64 xa, .int .i64 xb]) := by rw [hw1]; exact Blk.new wr _ _
    have HCE : Hid (∀ W, Gq w1 W → W.cell? ⟨wr.heap.size, 0, none⟩ = some (.int .i64 xk) ∧ W.cell? ⟨wr.heap.size, 1, none⟩ = some (.slice xA xn xc) ∧ W.cell? ⟨wr.heap.size, 2, none⟩ = some (.int .i64 xa) ∧ W.cell? ⟨wr.heap.size, 3, none⟩ = some (.int .i64 xb)) := fun W hW => by
      have k1 := blkq HK1.out hW
      exact ⟨k1.cell 0, k1.cell 1, k1.cell 2, k1.cell 3⟩
    have HC1 := Lib.hid (checkStep_any xk xA xn xc xa xb w1)
    rw [hf1] at HC1 HST
    have HW1 := Lib.hid hw1
    clear hw1
    go_upto_region 6 with (fail)
    rw [← HW1.out]
    obtain ⟨c0, c1, c2, c3⟩ := HCE.out w1 (Gq.refl _)
    clear d0 d1 d2 d3
    go_wp2_with fail
    refine HC1.out.mono ?_
    rintro e w2 ⟨rfl, hg2⟩
    have HG2 : Hid (Gq w1 w2) := hg2
    have HGW : Hid (Gq w w2) := HG1.out.trans hg2
    clear hg2 c0 c1 c2 c3 HC1
    obtain ⟨c0, c1, c2, c3⟩ := HCE.out w2 HG2.out
    by_cases h1 : f1 = 0
    case neg =>
      have hfb : (f1 != 0) = true := by simpa using h1
      have HE : Hid (stpsF (L.map StpM.x) = f1) := by
        have h2 := HST.out
        rw [if_pos h1] at h2
        show _ = _
        rw [HBAD.out (by rw [h2]; exact h1), h2]
      clear h1 hf1
      go_wp2_with fail
      go_ret
      exact ⟨ret_int HE.out.symm, HGW.out⟩
    have hfb : (f1 != 0) = false := by simp [h1]
    have HST2 : Hid (F = if xk = 3 then rngN xa xb else 0) := by have h2 := HST.out; rw [if_neg (fun k => k h1)] at h2; exact h2
    clear h1 hf1 HST
    by_cases h3 : xk = 3
    case neg =>
      have e3 : (xk == 3) = false := by simp [h3]
      have HNX2 := Lib.hid (HNX.out (by have := HST2.out; rw [if_neg h3] at this; exact this))
      clear h3
      go_wp2_with fail
      go_roundw
      case rel => exact ⟨k + 1, by omega, by go_num, HNX2.out, HGW.out⟩
      case measure => simp [intOf]; omega
    have e3 : (xk == 3) = true := by simp [h3]
    have HST3 : Hid (F = rngN xa xb) := by have h2 := HST2.out; rw [if_pos h3] at h2; exact h2
    obtain ⟨f2, hf2⟩ : ∃ f, rngN xa xb = f := ⟨_, rfl⟩
    have HC2 := Lib.hid (checkShift_any xk xA xn xc xa xb w2)
    rw [hf2] at HC2 HST3
    clear h3 HST2 hf2
    go_wp2_with fail
    refine HC2.out.mono ?_
    rintro e w3 ⟨rfl, hg3⟩
    have HG3 : Hid (Gq w w3) := HGW.out.trans hg3
    clear hg3 c0 c1 c2 c3 HC2
    by_cases h2 : f2 = 0
    · have hfc : (f2 != 0) = false := by simp [h2]
      have HNX2 := Lib.hid (HNX.out (by rw [HST3.out]; exact h2))
      clear h2
      go_wp2_with fail
      go_roundw
      case rel => exact ⟨k + 1, by omega, by go_num, HNX2.out, HG3.out⟩
      case measure => simp [intOf]; omega
    · have hfc : (f2 != 0) = true := by simpa using h2
      have HE : Hid (stpsF (L.map StpM.x) = f2) := by show _ = _; rw [HBAD.out (by rw [HST3.out]; exact h2), HST3.out]
      clear h2
      go_wp2_with fail
      go_ret
      exact ⟨ret_int HE.out.symm, HG3.out⟩
set_option maxRecDepth 100000 in
set_option maxHeartbeats 4000000 in
theorem checkStepsR_any (A : Option Addr) (c : Nat) (L : List StpM) (w : World) (h : Rd w A (L.flatMap StpM.cells)) :
    Calls Tryz.prog 22 #[.slice A L.length c] w fun e w' => e = .returned (.int .i64 (stpsF (L.map StpM.x))) ∧ Gq w w' := by
  have HR := Lib.hid h
  clear h
  by_cases hl : 200 < L.length
  · have HE : Hid (stpsF (L.map StpM.x) = 2) := by show _ = _; unfold stpsF; rw [List.length_map, if_pos hl]
    rw [HE.out]
    have q : decide ((200 : Int) < (L.length : Int)) = true := decide_eq_true (by omega)
    clear hl
    go_enter Tryz.func22, Tryz.ntmps22
    go_wp2_with fail
    go_ret
    exact ⟨rfl, Below.refl _ _⟩
  have q : decide ((200 : Int) < (L.length : Int)) = false := decide_eq_false (by omega)
  have HL : Hid ((L.map StpM.x).length ≤ 200) := by show _ ≤ _; rw [List.length_map]; omega
  go_enter Tryz.func22, Tryz.ntmps22
  go_wp2_with fail
  go_loopw [3] (fun kv wr => ∃ k : Nat, k ≤ L.length ∧ kv = .int .i64 (k : Int) ∧ Hid (∀ j, j < k → stF ((L.map StpM.x).getD j dStp) = 0) ∧ Hid (Gq w wr)) (fun kv _ => L.length - (intOf kv).toNat)
  case atStart => exact ⟨0, Nat.zero_le _, rfl, fun j hj => absurd hj (Nat.not_lt_zero _), Gq.refl _⟩
  case round =>
    obtain ⟨k, hk, rfl, HN, HG⟩ := hrel
    by_cases hlt : k < L.length
    case neg =>
      have hd : decide (k < L.length) = false := by simpa using hlt
      have HE : Hid (stpsF (L.map StpM.x) = 0) := stpsF_good HL.out (fun j hj => HN.out j (by rw [List.length_map] at hj; omega))
      go_wp2_with fail
      go_ret
      exact ⟨ret_int HE.out.symm, HG.out⟩
    have hd : decide (k < L.length) = true := by simpa using hlt
    obtain ⟨b, off, rfl, hb, hc⟩ := stp_at (HR.out.below HG.out) (by omega)
    obtain ⟨d0, d1, d2, d3⟩ := hc k hlt
    have HX : Hid ((L.map StpM.x).getD k dStp = L[k].x) := by show _ = _; rw [List.getD_eq_getElem?_getD, List.getElem?_map, List.getElem?_eq_getElem hlt]; rfl
    have HS1 := Lib.hid (stpN_x L[k])
    have HS2 := Lib.hid (rngN_x L[k])
    have HBAD : Hid (stF L[k].x ≠ 0 → stpsF (L.map StpM.x) = stF L[k].x) := fun hb => by
      have := stpsF_bad HL.out (by rw [List.length_map]; exact hlt) HN.out (by rw [HX.out]; exact hb)
      rw [this, HX.out]
    have HNX : Hid (stF L[k].x = 0 → ∀ j, j < k + 1 → stF ((L.map StpM.x).getD j dStp) = 0) := fun h0 j hj => by
      by_cases hjk : j = k
      · subst hjk; rw [HX.out]; exact h0
      · exact HN.out j (by omega)
    have HST : Hid (stF L[k].x = if stpN L[k].kd L[k].cs.xs.length L[k].at_ L[k].by_ ≠ 0 then stpN L[k].kd L[k].cs.xs.length L[k].at_ L[k].by_ else if L[k].kd = 3 then rngN L[k].at_ L[k].by_ else 0) := by
      show _ = _; rw [HS1.out, HS2.out]; rfl
    obtain ⟨F, hF⟩ : ∃ F, stF L[k].x = F := ⟨_, rfl⟩
    rw [hF] at HBAD HNX HST
    clear hc HX HS1 HS2 hF
    generalize L[k] = x at *
    obtain ⟨xk, ⟨xA, xc, xs⟩, xa, xb⟩ := x
    simp only at d0 d1 d2 d3 HST
    generalize (xs.length : Nat) = xn at *
    obtain ⟨f1, hf1⟩ : ∃ f, stpN xk xn xa xb = f := ⟨_, rfl⟩
    have HC1 := Lib.hid (checkStepR_any xk xA xn xc xa xb wr)
    rw [hf1] at HC1 HST
    have HDD : Hid (∀ W, Gq wr W → W.cell? ⟨b, off + k * 4, none⟩ = some (.int .i64 xk) ∧ W.cell? ⟨b, off + k * 4 + 1, none⟩ = some (.slice xA xn xc) ∧ W.cell? ⟨b, off + k * 4 + 2, none⟩ = some (.int .i64 xa) ∧ W.cell? ⟨b, off + k * 4 + 3, none⟩ = some (.int .i64 xb)) := fun W hW =>
      ⟨(hW.cell (p := ⟨b, _, none⟩) hb).trans d0, (hW.cell (p := ⟨b, _, none⟩) hb).trans d1, (hW.cell (p := ⟨b, _, none⟩) hb).trans d2, (hW.cell (p := ⟨b, _, none⟩) hb).trans d3⟩
    go_wp2_with fail
    refine HC1.out.mono ?_
    rintro e w2 ⟨rfl, hg2⟩
    have HG2 : Hid (Gq wr w2) := hg2
    have HGW : Hid (Gq w w2) := HG.out.trans hg2
    obtain ⟨c0, c1, c2, c3⟩ := HDD.out w2 HG2.out
    clear hg2 d0 d1 d2 d3 HC1
    by_cases h1 : f1 = 0
    case neg =>
      have hfb : (f1 != 0) = true := by simpa using h1
      have HE : Hid (stpsF (L.map StpM.x) = f1) := by
        have h2 := HST.out
        rw [if_pos h1] at h2
        show _ = _
        rw [HBAD.out (by rw [h2]; exact h1), h2]
      clear h1 hf1
      go_wp2_with fail
      go_ret
      exact ⟨ret_int HE.out.symm, HGW.out⟩
    have hfb : (f1 != 0) = false := by simp [h1]
    have HST2 : Hid (F = if xk = 3 then rngN xa xb else 0) := by have h2 := HST.out; rw [if_neg (fun k => k h1)] at h2; exact h2
    obtain ⟨f2, hf2⟩ : ∃ f, (if xk = 3 then rngN xa xb else 0) = f := ⟨_, rfl⟩
    have HC2 := Lib.hid (checkShiftR_any xk xA xn xc xa xb w2)
    rw [hf2] at HC2 HST2
    clear h1 hf1 hf2 HST
    go_wp2_with fail
    refine HC2.out.mono ?_
    rintro e w3 ⟨rfl, hg3⟩
    have HG3 : Hid (Gq w w3) := HGW.out.trans hg3
    clear hg3 c0 c1 c2 c3 HC2
    by_cases h2 : f2 = 0
    · have hfc : (f2 != 0) = false := by simp [h2]
      have HNX2 := Lib.hid (HNX.out (by rw [HST2.out]; exact h2))
      clear h2
      go_wp2_with fail
      go_roundw
      case rel => exact ⟨k + 1, by omega, by go_num, HNX2.out, HG3.out⟩
      case measure => simp [intOf]; omega
    · have hfc : (f2 != 0) = true := by simpa using h2
      have HE : Hid (stpsF (L.map StpM.x) = f2) := by show _ = _; rw [HBAD.out (by rw [HST2.out]; exact h2), HST2.out]
      clear h2
      go_wp2_with fail
      go_ret
      exact ⟨ret_int HE.out.symm, HG3.out⟩
end Go.Proofs.YtmppccnioiodgabGreatDoor
/- Generated (gen/fol.py): Follow: the program's and the reference's. -/
namespace Go.Proofs.YtmppccnioiodgabGreatDoor
open Go.RowKit Go.Dw
attribute [local go_sem ↓] Go.wp_at_zero Go.wp_at_succ

theorem stpsF_all {l : List Stp} (h : stpsF l = 0) : l.length ≤ 200 ∧ ∀ s ∈ l, stF s = 0 := by
  unfold stpsF at h
  split at h
  · omega
  · refine ⟨by omega, fun s hs => ?_⟩
    obtain ⟨i, hi, rfl⟩ := List.getElem_of_mem hs
    have := firstNZ_zer h i hi
    rwa [List.getD_eq_getElem?_getD, List.getElem?_eq_getElem hi] at this
theorem stF_by {s : StpM} (h : stF s.x = 0) (h3 : s.kd = 3) : -100000 ≤ s.by_ ∧ s.by_ ≤ 100000 := by
  unfold stF at h
  split at h
  · rename_i h1; exact absurd h h1
  · rw [if_pos (show s.x.kd = 3 from h3)] at h
    unfold rngF at h
    split at h
    · rename_i h1; exact h1.2.1
    · omega
set_option maxRecDepth 100000 in
set_option maxHeartbeats 4000000 in
theorem follow_any (A : Option Addr) (c : Nat) (L : List StpM) (z : Int) (w : World) (h : Rd w A (L.flatMap StpM.cells)) :
    Calls Tryz.prog 9 #[.slice A L.length c, .int .i64 z] w fun e w' => e = .returned (.tuple #[.int .i64 (followF (L.map StpM.x) z).1, .int .i64 (followF (L.map StpM.x) z).2]) ∧ Gq w w' := by
  have HR := Lib.hid h
  have HC1 := Lib.hid (checkSteps_any A c L w h)
  obtain ⟨R, hR⟩ : ∃ R, followF (L.map StpM.x) z = R := ⟨_, rfl⟩
  rw [hR]
  obtain ⟨f, hf⟩ : ∃ f, stpsF (L.map StpM.x) = f := ⟨_, rfl⟩
  have HB1 : Hid (f ≠ 0 → R = (0, f)) := fun h0 => by rw [← hR, ← hf]; rw [← hf] at h0; unfold followF; rw [if_pos h0]
  have HB2 : Hid (f = 0 → ¬ (0 ≤ z ∧ z ≤ 100000) → R = (0, 1)) := fun h0 h1 => by rw [← hR]; unfold followF; rw [hf, if_neg (fun k => k h0), if_pos h1]
  have HB3 : Hid (f = 0 → (0 ≤ z ∧ z ≤ 100000) → ¬ (0 ≤ (L.map StpM.x).foldl folS z ∧ (L.map StpM.x).foldl folS z ≤ 100000) → R = (0, 1)) := fun h0 h1 h2 => by rw [← hR]; unfold followF; rw [hf, if_neg (fun k => k h0), if_neg (fun k => k h1), if_pos h2]
  have HB4 : Hid (f = 0 → (0 ≤ z ∧ z ≤ 100000) → (0 ≤ (L.map StpM.x).foldl folS z ∧ (L.map StpM.x).foldl folS z ≤ 100000) → R = ((L.map StpM.x).foldl folS z, 0)) := fun h0 h1 h2 => by rw [← hR]; unfold followF; rw [hf, if_neg (fun k => k h0), if_neg (fun k => k h1), if_neg (fun k => k h2)]
  rw [hf] at HC1
  have HAL : Hid (f = 0 → L.length ≤ 200 ∧ ∀ s ∈ L, stF s.x = 0) := fun h0 => by
    rw [← hf] at h0
    obtain ⟨h1, h2⟩ := stpsF_all h0
    exact ⟨by rwa [List.length_map] at h1, fun s hs => h2 _ (List.mem_map_of_mem hs)⟩
  clear hR hf h
  by_cases hf0 : f = 0
  case neg =>
    have hfb : (f != 0) = true := by simpa using hf0
    have HE := Lib.hid (HB1.out hf0)
    clear hf0 HB1 HB2 HB3 HB4 HAL
    go_enter Tryz.func9, Tryz.ntmps9
    go_wp2_with fail
    refine HC1.out.mono ?_
    rintro e w2 ⟨rfl, hg2⟩
    have HG2 := Lib.hid hg2
    clear hg2
    go_wp2_with fail
    go_ret2
    exact ⟨by rw [HE.out]; rfl, HG2.out⟩
  have hfb : (f != 0) = false := by simp [hf0]
  obtain ⟨hl, hal⟩ := HAL.out hf0
  have HS : Hid (∀ s ∈ L, stF s.x = 0) := hal
  by_cases hz : 0 ≤ z ∧ z ≤ 100000
  case neg =>
    have HE := Lib.hid (HB2.out hf0 hz)
    clear hf0 HB1 HB2 HB3 HB4 HAL hal
    by_cases hz0 : z < 0
    · have y0 : decide (z < 0) = true := decide_eq_true hz0
      clear hz hz0
      go_enter Tryz.func9, Tryz.ntmps9
      go_wp2_with fail
      refine HC1.out.mono ?_
      rintro e w2 ⟨rfl, hg2⟩
      have HG2 : Hid (Gq w w2) := hg2
      clear hg2
      go_wp2_with fail
      go_ret2
      exact ⟨by rw [HE.out]; rfl, HG2.out⟩
    · have y0 : decide (z < 0) = false := decide_eq_false hz0
      have y1 : decide (100000 < z) = true := decide_eq_true (by omega)
      clear hz hz0
      go_enter Tryz.func9, Tryz.ntmps9
      go_wp2_with fail
      refine HC1.out.mono ?_
      rintro e w2 ⟨rfl, hg2⟩
      have HG2 : Hid (Gq w w2) := hg2
      clear hg2
      go_wp2_with fail
      go_ret2
      exact ⟨by rw [HE.out]; rfl, HG2.out⟩
  have y0 : decide (z < 0) = false := decide_eq_false (by omega)
  have y1 : decide (100000 < z) = false := decide_eq_false (by omega)
  have HB5 := Lib.hid (HB3.out hf0 hz)
  have HB6 := Lib.hid (HB4.out hf0 hz)
  have HZ : Hid (0 ≤ z ∧ z ≤ 100000) := hz
  have HL : Hid (L.length ≤ 200) := hl
  clear hf0 hz HB1 HB2 HB3 HB4 HAL hal hl
  go_enter Tryz.func9, Tryz.ntmps9
  go_wp2_with fail
  refine HC1.out.mono ?_
  rintro e w2 ⟨rfl, hg2⟩
  have HG2 : Hid (Gq w w2) := hg2
  clear hg2
  go_wp2_with fail
  go_loopw [1, 22] (fun av kv wr => ∃ (k : Nat) (a : Int), k ≤ L.length ∧ av = .int .i64 a ∧ kv = .int .i64 (k : Int) ∧ Hid (a = ((L.map StpM.x).take k).foldl folS z) ∧ Hid (-100000 * (k : Int) ≤ a ∧ a ≤ 100000 + 100000 * (k : Int)) ∧ Hid (Gq w wr)) (fun _ kv _ => L.length - (intOf kv).toNat)
  case atStart => exact ⟨0, z, Nat.zero_le _, rfl, rfl, by show z = _; simp, by have := HZ.out; show _ ∧ _; omega, HG2.out⟩
  case round =>
    obtain ⟨k, a, hk, rfl, rfl, HN, HAB, HG⟩ := hrel
    have hll : L.length ≤ 200 := HL.out
    by_cases hlt : k < L.length
    case neg =>
      have hd : decide (k < L.length) = false := by simpa using hlt
      have HA : Hid (a = (L.map StpM.x).foldl folS z) := by
        show _ = _
        have := HN.out
        rwa [List.take_of_length_le (by rw [List.length_map]; omega)] at this
      rw [← HA.out] at HB5 HB6
      by_cases ha : a < 0
      · have HE := Lib.hid (HB5.out (by omega))
        have v0 : decide (a < 0) = true := decide_eq_true ha
        clear ha
        go_wp2_with fail
        go_ret2
        exact ⟨by rw [HE.out]; rfl, HG.out⟩
      have v0 : decide (a < 0) = false := decide_eq_false ha
      by_cases hb : 100000 < a
      · have HE := Lib.hid (HB5.out (by omega))
        have v1 : decide (100000 < a) = true := decide_eq_true hb
        clear ha hb
        go_wp2_with fail
        go_ret2
        exact ⟨by rw [HE.out]; rfl, HG.out⟩
      have HE := Lib.hid (HB6.out (by omega))
      have v1 : decide (100000 < a) = false := decide_eq_false hb
      clear ha hb
      go_wp2_with fail
      go_ret2
      exact ⟨by rw [HE.out]; rfl, HG.out⟩
    have hd : decide (k < L.length) = true := by simpa using hlt
    obtain ⟨b, off, rfl, hb, hc⟩ := stp_at (HR.out.below HG.out) (by omega)
    obtain ⟨d0, d1, d2, d3⟩ := hc k hlt
    have HNX : Hid (((L.map StpM.x).take (k + 1)).foldl folS z = folS a L[k].x) := by
      show _ = _
      rw [List.take_succ_eq_append_getElem (by rw [List.length_map]; exact hlt), List.foldl_append, ← HN.out, List.getElem_map]; rfl
    have HBY : Hid (L[k].kd = 3 → -100000 ≤ L[k].by_ ∧ L[k].by_ ≤ 100000) := fun h3 => (stF_by (HS.out _ (List.getElem_mem hlt)) h3)
    clear hc
    generalize L[k] = x at *
    obtain ⟨xk, ⟨xA, xc, xs⟩, xa, xb⟩ := x
    simp only at d0 d1 d2 d3 HBY
    have HFO : Hid (folS a (StpM.x ⟨xk, ⟨xA, xc, xs⟩, xa, xb⟩) = if xk = 3 ∧ xa ≤ a then a + xb else a) := rfl
    rw [HFO.out] at HNX
    generalize (xs.length : Nat) = xn at *
    have HGA : Hid (∀ o, Gq w (wr.alloc o)) := fun o => Gq.alloc HG.out o
    have HLK : Hid (k < 200) := by have := HL.out; show _ < _; omega
    clear HFO
    by_cases h3 : xk = 3
    case neg =>
      have e3 : (xk == 3) = false := by simp [h3]
      have HN2 : Hid (a = ((L.map StpM.x).take (k + 1)).foldl folS z) := by show _ = _; rw [HNX.out, if_neg (fun k => h3 k.1)]
      have HA2 : Hid (-100000 * ((k + 1 : Nat) : Int) ≤ a ∧ a ≤ 100000 + 100000 * ((k + 1 : Nat) : Int)) := by have := HAB.out; show _ ∧ _; omega
      clear h3
      go_wp2_with fail
      go_roundw
      case rel => exact ⟨k + 1, a, by omega, rfl, by go_num, HN2.out, HA2.out, HGA.out _⟩
      case measure => simp [intOf]; omega
    have e3 : (xk == 3) = true := by simp [h3]
    have hby := HBY.out h3
    by_cases h4 : xa ≤ a
    case neg =>
      have e4 : decide (xa ≤ a) = false := decide_eq_false h4
      have HN2 : Hid (a = ((L.map StpM.x).take (k + 1)).foldl folS z) := by show _ = _; rw [HNX.out, if_neg (fun k => h4 k.2)]
      have HA2 : Hid (-100000 * ((k + 1 : Nat) : Int) ≤ a ∧ a ≤ 100000 + 100000 * ((k + 1 : Nat) : Int)) := by have := HAB.out; show _ ∧ _; omega
      clear h3 h4 hby
      go_wp2_with fail
      go_roundw
      case rel => exact ⟨k + 1, a, by omega, rfl, by go_num, HN2.out, HA2.out, HGA.out _⟩
      case measure => simp [intOf]; omega
    have e4 : decide (xa ≤ a) = true := decide_eq_true h4
    obtain ⟨s, hs⟩ : ∃ s, a + xb = s := ⟨_, rfl⟩
    have HN2 : Hid (s = ((L.map StpM.x).take (k + 1)).foldl folS z) := by show _ = _; rw [HNX.out, if_pos ⟨h3, h4⟩, hs]
    have HA2 : Hid (-100000 * ((k + 1 : Nat) : Int) ≤ s ∧ s ≤ 100000 + 100000 * ((k + 1 : Nat) : Int)) := by have := HAB.out; show _ ∧ _; omega
    have W1 : IntKind.i64.wrap (a + xb) = s := by rw [hs]; exact IntWalk.i64_in _ (by have := HA2.out; have := HLK.out; omega)
    clear h3 h4 hby hs
    go_wp2_with fail
    go_roundw
    case rel => exact ⟨k + 1, s, by omega, rfl, by go_num, HN2.out, HA2.out, HGA.out _⟩
    case measure => simp [intOf]; omega
set_option maxRecDepth 100000 in
set_option maxHeartbeats 4000000 in
theorem followR_any (A : Option Addr) (c : Nat) (L : List StpM) (z : Int) (w : World) (h : Rd w A (L.flatMap StpM.cells)) :
    Calls Tryz.prog 10 #[.slice A L.length c, .int .i64 z] w fun e w' => e = .returned (.tuple #[.int .i64 (followF (L.map StpM.x) z).1, .int .i64 (followF (L.map StpM.x) z).2]) ∧ Gq w w' := by
  have HR := Lib.hid h
  have HC1 := Lib.hid (checkStepsR_any A c L w h)
  obtain ⟨R, hR⟩ : ∃ R, followF (L.map StpM.x) z = R := ⟨_, rfl⟩
  rw [hR]
  obtain ⟨f, hf⟩ : ∃ f, stpsF (L.map StpM.x) = f := ⟨_, rfl⟩
  have HB1 : Hid (f ≠ 0 → R = (0, f)) := fun h0 => by rw [← hR, ← hf]; rw [← hf] at h0; unfold followF; rw [if_pos h0]
  have HB2 : Hid (f = 0 → ¬ (0 ≤ z ∧ z ≤ 100000) → R = (0, 1)) := fun h0 h1 => by rw [← hR]; unfold followF; rw [hf, if_neg (fun k => k h0), if_pos h1]
  have HB3 : Hid (f = 0 → (0 ≤ z ∧ z ≤ 100000) → ¬ (0 ≤ (L.map StpM.x).foldl folS z ∧ (L.map StpM.x).foldl folS z ≤ 100000) → R = (0, 1)) := fun h0 h1 h2 => by rw [← hR]; unfold followF; rw [hf, if_neg (fun k => k h0), if_neg (fun k => k h1), if_pos h2]
  have HB4 : Hid (f = 0 → (0 ≤ z ∧ z ≤ 100000) → (0 ≤ (L.map StpM.x).foldl folS z ∧ (L.map StpM.x).foldl folS z ≤ 100000) → R = ((L.map StpM.x).foldl folS z, 0)) := fun h0 h1 h2 => by rw [← hR]; unfold followF; rw [hf, if_neg (fun k => k h0), if_neg (fun k => k h1), if_neg (fun k => k h2)]
  rw [hf] at HC1
  have HAL : Hid (f = 0 → L.length ≤ 200 ∧ ∀ s ∈ L, stF s.x = 0) := fun h0 => by
    rw [← hf] at h0
    obtain ⟨h1, h2⟩ := stpsF_all h0
    exact ⟨by rwa [List.length_map] at h1, fun s hs => h2 _ (List.mem_map_of_mem hs)⟩
  clear hR hf h
  by_cases hf0 : f = 0
  case neg =>
    have hfb : (f != 0) = true := by simpa using hf0
    have HE := Lib.hid (HB1.out hf0)
    clear hf0 HB1 HB2 HB3 HB4 HAL
    go_enter Tryz.func10, Tryz.ntmps10
    go_wp2_with fail
    refine HC1.out.mono ?_
    rintro e w2 ⟨rfl, hg2⟩
    have HG2 := Lib.hid hg2
    clear hg2
    go_wp2_with fail
    go_ret2
    exact ⟨by rw [HE.out]; rfl, HG2.out⟩
  have hfb : (f != 0) = false := by simp [hf0]
  obtain ⟨hl, hal⟩ := HAL.out hf0
  have HS : Hid (∀ s ∈ L, stF s.x = 0) := hal
  by_cases hz : 0 ≤ z ∧ z ≤ 100000
  case neg =>
    have HE := Lib.hid (HB2.out hf0 hz)
    have HW : Hid (∀ W, Calls Tryz.prog 23 #[.int .i64 z, .int .i64 0, .int .i64 100000] W fun e w' => e = .returned (.bool false) ∧ W = w') := fun W => by
      have := withinR_any z 0 100000 W
      rwa [show decide (0 ≤ z ∧ z ≤ 100000) = false from decide_eq_false hz] at this
    clear hf0 hz HB1 HB2 HB3 HB4 HAL hal
    go_enter Tryz.func10, Tryz.ntmps10
    go_wp2_with fail
    refine HC1.out.mono ?_
    rintro e w2 ⟨rfl, hg2⟩
    have HG2 : Hid (Gq w w2) := hg2
    clear hg2
    go_wp2_with fail
    refine (HW.out w2).mono ?_
    rintro e w3 ⟨rfl, rfl⟩
    go_wp2_with fail
    go_ret2
    exact ⟨by rw [HE.out]; rfl, HG2.out⟩
  have HW : Hid (∀ W, Calls Tryz.prog 23 #[.int .i64 z, .int .i64 0, .int .i64 100000] W fun e w' => e = .returned (.bool true) ∧ W = w') := fun W => by
    have := withinR_any z 0 100000 W
    rwa [show decide (0 ≤ z ∧ z ≤ 100000) = true from decide_eq_true hz] at this
  have HB5 := Lib.hid (HB3.out hf0 hz)
  have HB6 := Lib.hid (HB4.out hf0 hz)
  have HZ : Hid (0 ≤ z ∧ z ≤ 100000) := hz
  have HL : Hid (L.length ≤ 200) := hl
  clear hf0 hz HB1 HB2 HB3 HB4 HAL hal hl
  go_enter Tryz.func10, Tryz.ntmps10
  go_wp2_with fail
  refine HC1.out.mono ?_
  rintro e w2 ⟨rfl, hg2⟩
  have HG2 : Hid (Gq w w2) := hg2
  clear hg2
  go_wp2_with fail
  refine (HW.out w2).mono ?_
  rintro e w3 ⟨rfl, rfl⟩
  go_wp2_with fail
  go_loopw [1, 7] (fun av kv wr => ∃ (k : Nat) (a : Int), k ≤ L.length ∧ av = .int .i64 a ∧ kv = .int .i64 (k : Int) ∧ Hid (a = ((L.map StpM.x).take k).foldl folS z) ∧ Hid (-100000 * (k : Int) ≤ a ∧ a ≤ 100000 + 100000 * (k : Int)) ∧ Hid (Gq w wr)) (fun _ kv _ => L.length - (intOf kv).toNat)
  case atStart => exact ⟨0, z, Nat.zero_le _, rfl, rfl, by show z = _; simp, by have := HZ.out; show _ ∧ _; omega, HG2.out⟩
  case round =>
    obtain ⟨k, a, hk, rfl, rfl, HN, HAB, HG⟩ := hrel
    have hll : L.length ≤ 200 := HL.out
    by_cases hlt : k < L.length
    case neg =>
      have hd : decide (k < L.length) = false := by simpa using hlt
      have HA : Hid (a = (L.map StpM.x).foldl folS z) := by
        show _ = _
        have := HN.out
        rwa [List.take_of_length_le (by rw [List.length_map]; omega)] at this
      rw [← HA.out] at HB5 HB6
      by_cases ha : 0 ≤ a ∧ a ≤ 100000
      · have HE := Lib.hid (HB6.out ha)
        have HW2 := Lib.hid (withinR_any a 0 100000 wr)
        rw [show decide (0 ≤ a ∧ a ≤ 100000) = true from decide_eq_true ha] at HW2
        clear ha
        go_wp2_with fail
        refine HW2.out.mono ?_
        rintro e w5 ⟨rfl, rfl⟩
        go_wp2_with fail
        go_ret2
        exact ⟨by rw [HE.out]; rfl, HG.out⟩
      · have HE := Lib.hid (HB5.out ha)
        have HW2 := Lib.hid (withinR_any a 0 100000 wr)
        rw [show decide (0 ≤ a ∧ a ≤ 100000) = false from decide_eq_false ha] at HW2
        clear ha
        go_wp2_with fail
        refine HW2.out.mono ?_
        rintro e w5 ⟨rfl, rfl⟩
        go_wp2_with fail
        go_ret2
        exact ⟨by rw [HE.out]; rfl, HG.out⟩
    have hd : decide (k < L.length) = true := by simpa using hlt
    obtain ⟨b, off, rfl, hb, hc⟩ := stp_at (HR.out.below HG.out) (by omega)
    obtain ⟨d0, d1, d2, d3⟩ := hc k hlt
    have HNX : Hid (((L.map StpM.x).take (k + 1)).foldl folS z = folS a L[k].x) := by
      show _ = _
      rw [List.take_succ_eq_append_getElem (by rw [List.length_map]; exact hlt), List.foldl_append, ← HN.out, List.getElem_map]; rfl
    have HBY : Hid (L[k].kd = 3 → -100000 ≤ L[k].by_ ∧ L[k].by_ ≤ 100000) := fun h3 => (stF_by (HS.out _ (List.getElem_mem hlt)) h3)
    clear hc
    generalize L[k] = x at *
    obtain ⟨xk, ⟨xA, xc, xs⟩, xa, xb⟩ := x
    simp only at d0 d1 d2 d3 HBY
    have HFO : Hid (folS a (StpM.x ⟨xk, ⟨xA, xc, xs⟩, xa, xb⟩) = if xk = 3 ∧ xa ≤ a then a + xb else a) := rfl
    rw [HFO.out] at HNX
    generalize (xs.length : Nat) = xn at *
    have HGA : Hid (∀ o, Gq w (wr.alloc o)) := fun o => Gq.alloc HG.out o
    have HLK : Hid (k < 200) := by have := HL.out; show _ < _; omega
    clear HFO
    by_cases h3 : xk = 3
    case neg =>
      have e3 : (xk == 3) = false := by simp [h3]
      have HN2 : Hid (a = ((L.map StpM.x).take (k + 1)).foldl folS z) := by show _ = _; rw [HNX.out, if_neg (fun k => h3 k.1)]
      have HA2 : Hid (-100000 * ((k + 1 : Nat) : Int) ≤ a ∧ a ≤ 100000 + 100000 * ((k + 1 : Nat) : Int)) := by have := HAB.out; show _ ∧ _; omega
      clear h3
      go_wp2_with fail
      go_roundw
      case rel => exact ⟨k + 1, a, by omega, rfl, by go_num, HN2.out, HA2.out, HG.out⟩
      case measure => simp [intOf]; omega
    have e3 : (xk == 3) = true := by simp [h3]
    have hby := HBY.out h3
    by_cases h4 : xa ≤ a
    case neg =>
      have e4 : decide (xa ≤ a) = false := decide_eq_false h4
      have HN2 : Hid (a = ((L.map StpM.x).take (k + 1)).foldl folS z) := by show _ = _; rw [HNX.out, if_neg (fun k => h4 k.2)]
      have HA2 : Hid (-100000 * ((k + 1 : Nat) : Int) ≤ a ∧ a ≤ 100000 + 100000 * ((k + 1 : Nat) : Int)) := by have := HAB.out; show _ ∧ _; omega
      clear h3 h4 hby
      go_wp2_with fail
      go_roundw
      case rel => exact ⟨k + 1, a, by omega, rfl, by go_num, HN2.out, HA2.out, HG.out⟩
      case measure => simp [intOf]; omega
    have e4 : decide (xa ≤ a) = true := decide_eq_true h4
    obtain ⟨s, hs⟩ : ∃ s, a + xb = s := ⟨_, rfl⟩
    have HN2 : Hid (s = ((L.map StpM.x).take (k + 1)).foldl folS z) := by show _ = _; rw [HNX.out, if_pos ⟨h3, h4⟩, hs]
    have HA2 : Hid (-100000 * ((k + 1 : Nat) : Int) ≤ s ∧ s ≤ 100000 + 100000 * ((k + 1 : Nat) : Int)) := by have := HAB.out; show _ ∧ _; omega
    have W1 : IntKind.i64.wrap (a + xb) = s := by rw [hs]; exact IntWalk.i64_in _ (by have := HA2.out; have := HLK.out; omega)
    clear h3 h4 hby hs
    go_wp2_with fail
    go_roundw
    case rel => exact ⟨k + 1, s, by omega, rfl, by go_num, HN2.out, HA2.out, HG.out⟩
    case measure => simp [intOf]; omega
end Go.Proofs.YtmppccnioiodgabGreatDoor
