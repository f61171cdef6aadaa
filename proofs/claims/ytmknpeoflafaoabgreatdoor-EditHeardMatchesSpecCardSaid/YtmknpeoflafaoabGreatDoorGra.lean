/- The contract of edit.grainOf. -/
import Derived.Test.YtmknpeoflafaoabGreatDoorNumB
import Derived.Test.YtmknpeoflafaoabGreatDoorProg
import Derived.Deep.DeepCutAuto
import Derived.Deep.CutBlock
import Derived.Deep.RegionHeld3
import Derived.Deep.DrawnRows
namespace Go.Proofs.YtmknpeoflafaoabGreatDoor
open Go.RowKit Go.Dw
attribute [local go_sem ↓] Go.wp_at_zero Go.wp_at_succ

set_option maxRecDepth 100000 in
set_option maxHeartbeats 4000000 in
theorem grainOf_any (m : ByteArray) (ch fr tr at_ ln : Int) (A : Option Addr) (L c : Nat) (k : Int) (w : World) (h1 : inI64 (k - at_)) (h2 : inI64 (k - at_ + fr)) :
    Calls Tryz.prog 9 #[.agg #[.string m, .int .i64 ch, .int .i64 fr, .int .i64 tr, .int .i64 at_, .int .i64 ln, .slice A L c], .int .i64 k] w fun e w' =>
      e = .returned (.agg #[.string m, .int .i64 ch, .int .i64 (k - at_ + fr), .string ⟨#[]⟩, .string ⟨#[]⟩]) ∧ Below w.heap.size w w' := by
  obtain ⟨wa, hwa⟩ : ∃ wa, wa = w.alloc (.cells #[.string m, .int .i64 ch, .int .i64 fr, .int .i64 tr, .int .i64 at_, .int .i64 ln, .slice A L c] 40) := ⟨_, rfl⟩
  obtain ⟨w1, hw1⟩ : ∃ w1, w1 = wa.alloc (.cells #[.string ⟨#[]⟩, .int .i64 0, .int .i64 0, .string ⟨#[]⟩, .string ⟨#[]⟩] 33) := ⟨_, rfl⟩
  have z1 : wa.heap.size = w.heap.size + 1 := by rw [hwa]; simp
  have ba : Gq w wa := by rw [hwa]; exact (Gq.refl _).alloc _
  have bc : Gq wa w1 := by rw [hw1]; exact (Gq.refl _).alloc _
  have hb1 : Gq w w1 := ba.trans bc
  have kA : Blk w1 w.heap.size 40 [.string m, .int .i64 ch, .int .i64 fr, .int .i64 tr, .int .i64 at_, .int .i64 ln, .slice A L c] := by
    refine Blk.same (w := wa) (?_ : Blk wa w.heap.size _ _) (Same.of_below (S := fun _ => True) bc) trivial; rw [hwa]; exact Blk.new w _ _
  have kB : Blk w1 (w.heap.size + 1) 33 [.string ⟨#[]⟩, .int .i64 0, .int .i64 0, .string ⟨#[]⟩, .string ⟨#[]⟩] := by rw [hw1, ← z1]; exact Blk.new wa _ _
  have c0 : w1.cell? ⟨w.heap.size, 0, none⟩ = _ := kA.cell 0
  have c1 : w1.cell? ⟨w.heap.size, 1, none⟩ = _ := kA.cell 1
  have c2 : w1.cell? ⟨w.heap.size, 2, none⟩ = _ := kA.cell 2
  have c4 : w1.cell? ⟨w.heap.size, 4, none⟩ = _ := kA.cell 4
  have d0 : w1.cell? ⟨w.heap.size + 1, 0, none⟩ = _ := kB.cell 0
  have d1 : w1.cell? ⟨w.heap.size + 1, 1, none⟩ = _ := kB.cell 1
  have d2 : w1.cell? ⟨w.heap.size + 1, 2, none⟩ = _ := kB.cell 2
  have d3 : w1.cell? ⟨w.heap.size + 1, 3, none⟩ = _ := kB.cell 3
  have d4 : w1.cell? ⟨w.heap.size + 1, 4, none⟩ = _ := kB.cell 4
  have f0 := kB.frozen 0
  have f3 := kB.frozen 3
  have f4 := kB.frozen 4
  have f1 := kB.frozen 1
  have f2 := kB.frozen 2
  simp only [List.getElem?_cons_zero, List.getElem?_cons_succ] at c0 c1 c2 c4 d0 d1 d2 d3 d4
  have hr1 : IntKind.i64.wrap (k - at_) = k - at_ := IntWalk.i64_in _ h1
  have hr2 : IntKind.i64.wrap (k - at_ + fr) = k - at_ + fr := IntWalk.i64_in _ h2
  obtain ⟨wz, hwz⟩ : ∃ wz, wz = ((((w1.setCell ⟨w.heap.size + 1, 0, none⟩ (.string m)).setCell ⟨w.heap.size + 1, 1, none⟩ (.int .i64 ch)).setCell ⟨w.heap.size + 1, 2, none⟩ (.int .i64 (k - at_ + fr))).setCell ⟨w.heap.size + 1, 3, none⟩ (.string ⟨#[]⟩)).setCell ⟨w.heap.size + 1, 4, none⟩ (.string ⟨#[]⟩) := ⟨_, rfl⟩
  have k5 : Blk wz (w.heap.size + 1) 33 [.string m, .int .i64 ch, .int .i64 (k - at_ + fr), .string ⟨#[]⟩, .string ⟨#[]⟩] := by rw [hwz]; exact ((((kB.set_ 0 _).set_ 1 _).set_ 2 _).set_ 3 _).set_ 4 _
  have k2 : wz.cell? ⟨w.heap.size + 1, 0, none⟩ = _ := k5.cell 0
  have k3 : wz.cell? ⟨w.heap.size + 1, 1, none⟩ = _ := k5.cell 1
  have k4 : wz.cell? ⟨w.heap.size + 1, 2, none⟩ = _ := k5.cell 2
  have k6 : wz.cell? ⟨w.heap.size + 1, 3, none⟩ = _ := k5.cell 3
  have k7 : wz.cell? ⟨w.heap.size + 1, 4, none⟩ = _ := k5.cell 4
  simp only [List.getElem?_cons_zero, List.getElem?_cons_succ] at k2 k3 k4 k6 k7
  have HB : Hid (Below w.heap.size w wz) := by
    rw [hwz]
    exact ((((hb1.set (p := ⟨w.heap.size + 1, 0, none⟩) (show w.heap.size ≤ w.heap.size + 1 by omega) _).set (p := ⟨w.heap.size + 1, 1, none⟩) (show w.heap.size ≤ w.heap.size + 1 by omega) _).set (p := ⟨w.heap.size + 1, 2, none⟩) (show w.heap.size ≤ w.heap.size + 1 by omega) _).set (p := ⟨w.heap.size + 1, 3, none⟩) (show w.heap.size ≤ w.heap.size + 1 by omega) _).set (p := ⟨w.heap.size + 1, 4, none⟩) (show w.heap.size ≤ w.heap.size + 1 by omega) _
  rw [hwa] at hw1
  have HW1 := Lib.hid hw1
  have HWZ := Lib.hid hwz
  clear hw1 hwz hwa ba bc hb1 kA kB k5 z1 h1 h2
  go_enter Tryz.func9, Tryz.ntmps9
  go_upto_region 1 with (fail)
  rw [← HW1.out]
  go_wp2_with fail
  rw [← HWZ.out]
  exact bodyPost_ret (v := .agg #[.string m, .int .i64 ch, .int .i64 (k - at_ + fr), .string ⟨#[]⟩, .string ⟨#[]⟩]) (by simp [results, Tryz.results9, go_sem, k2, k3, k4, k6, k7]) rfl ⟨rfl, HB.out⟩
end Go.Proofs.YtmknpeoflafaoabGreatDoor
