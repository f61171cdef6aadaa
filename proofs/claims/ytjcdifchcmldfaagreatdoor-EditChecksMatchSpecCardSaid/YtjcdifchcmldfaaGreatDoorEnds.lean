/- The contracts of End, the reference's too. -/
import Derived.Test.YtjcdifchcmldfaaGreatDoorChkR
import Derived.Test.YtjcdifchcmldfaaGreatDoorEndR
import Derived.Test.YtjcdifchcmldfaaGreatDoorNumA
namespace Go.Proofs.YtjcdifchcmldfaaGreatDoor
open Go.RowKit Go.Dw

theorem isNm_len (s : ByteArray) (h : isNm s = true) : s.size ≤ 40 := by
  unfold isNm at h
  split at h
  · simp only [Bool.and_eq_true, decide_eq_true_eq] at h; exact h.1.1
  · cases h
theorem endOk_of {e : EdtM} (h : ediF isNm 1000000 e.x = 0) : EndOk e.cs.xs := fun c hc => by
  have := ((ediF_ok h).c c.x (List.mem_map_of_mem hc)).r
  obtain ⟨_, _, _, ⟨a1, a2⟩, ⟨a3, a4⟩, _⟩ := this
  simp only [CliM.x] at a1 a2 a3 a4
  omega
set_option maxRecDepth 100000 in
set_option maxHeartbeats 4000000 in
theorem end2_any (e : EdtM) (w : World) (h : EdtOk w e) :
    Calls Tryz.prog 6 #[e.v] w fun en w' => en = .returned (.tuple #[.int .i64 (endR isNm 1000000 e.x).1, .int .i64 (endR isNm 1000000 e.x).2]) ∧ Below w.heap.size w w' := by
  have HOK := Lib.hid h
  have HCK : Hid (∀ W, Gq w W → Calls Tryz.prog 8 #[e.v] W fun en w' => en = .returned (.int .i64 (ediF isNm 1000000 e.x)) ∧ Gq W w') := fun W hW => check_any e W (h.below hW)
  obtain ⟨f, hf⟩ : ∃ f, ediF isNm 1000000 e.x = f := ⟨_, rfl⟩
  have HF := Lib.hid hf
  rw [hf] at HCK
  have HRE : Hid (endR isNm 1000000 e.x = if f ≠ 0 then (0, f) else (endF e.x.cs, 0)) := by show _ = _; unfold endR; rw [hf]
  have HEO : Hid (f = 0 → EndOk e.cs.xs) := fun h0 => endOk_of (by rw [hf]; exact h0)
  obtain ⟨rt, tk, ⟨A, d, xs⟩⟩ := e
  have HEN : Hid (f = 0 → ∀ W, Gq w W → Calls Tryz.prog 13 #[.slice A xs.length d] W fun en w' => en = .returned (.int .i64 (endF (xs.map CliM.x))) ∧ Gq W w') := fun h0 W hW => end_any A d xs W (hW.rd h.cr) h.cl (HEO.out h0)
  simp only [EdtM.x, EdtM.v, Slc.v] at HCK HRE ⊢
  obtain ⟨w1, hw1⟩ : ∃ w1, w1 = w.alloc (.cells #[.int .i64 rt, .int .i64 tk, .slice A xs.length d] 24) := ⟨_, rfl⟩
  have HB : Hid (Gq w w1) := by rw [hw1]; exact (Gq.refl _).alloc _
  have HK : Hid (Blk w1 w.heap.size 24 [.int .i64 rt, .int .i64 tk, .slice A xs.length d]) := by rw [hw1]; exact Blk.new w _ _
  have c0 : w1.cell? ⟨w.heap.size, 0, none⟩ = some (.int .i64 rt) := HK.out.cell 0
  have c1 : w1.cell? ⟨w.heap.size, 1, none⟩ = some (.int .i64 tk) := HK.out.cell 1
  have c2 : w1.cell? ⟨w.heap.size, 2, none⟩ = some (.slice A xs.length d) := HK.out.cell 2
  have HW := Lib.hid hw1
  clear hw1 hf h
  go_enter Tryz.func6, Tryz.ntmps6
  go_upto_region 1 with (fail)
  rw [← HW.out]
  go_wp2_with fail
  refine (HCK.out _ HB.out).mono ?_
  rintro e w2 ⟨rfl, hb2⟩
  have HB2 : Hid (Gq w w2) := HB.out.trans hb2
  have HK2 := Lib.hid (HK.out.same (Same.of_below (S := fun _ => True) hb2) trivial)
  clear hb2 c0 c1 c2
  by_cases h0 : f = 0
  case neg =>
    have HQ : Hid (endR isNm 1000000 ⟨rt, tk, xs.map CliM.x⟩ = (0, f)) := by show _ = _; rw [HRE.out, if_pos h0]
    have hfb : (!(f == 0)) = true := by simp [h0]
    go_wp2_with fail
    go_ret2
    exact ⟨by rw [HQ.out]; rfl, HB2.out⟩
  have HQ : Hid (endR isNm 1000000 ⟨rt, tk, xs.map CliM.x⟩ = (endF (xs.map CliM.x), 0)) := by show _ = _; rw [HRE.out, if_neg (by omega)]
  have HE2 := Lib.hid (HEN.out h0 w2 HB2.out)
  subst h0
  have c0 : w2.cell? ⟨w.heap.size, 0, none⟩ = some (.int .i64 rt) := HK2.out.cell 0
  have c1 : w2.cell? ⟨w.heap.size, 1, none⟩ = some (.int .i64 tk) := HK2.out.cell 1
  have c2 : w2.cell? ⟨w.heap.size, 2, none⟩ = some (.slice A xs.length d) := HK2.out.cell 2
  go_wp2_with fail
  refine HE2.out.mono ?_
  rintro e w3 ⟨rfl, hb3⟩
  have HB3 : Hid (Gq w w3) := HB2.out.trans hb3
  clear hb3
  go_wp2_with fail
  go_ret2
  exact ⟨by rw [HQ.out]; rfl, HB3.out⟩
set_option maxRecDepth 100000 in
set_option maxHeartbeats 4000000 in
theorem end2R_any (e : EdtM) (w : World) (h : EdtOk w e) (hpw : HasPow w) :
    Calls Tryz.prog 7 #[e.v] w fun en w' => en = .returned (.tuple #[.int .i64 (endR isNm 1000000 e.x).1, .int .i64 (endR isNm 1000000 e.x).2]) ∧ Below w.heap.size w w' := by
  have HOK := Lib.hid h
  have HCK : Hid (∀ W, Gq w W → Calls Tryz.prog 9 #[e.v] W fun en w' => en = .returned (.int .i64 (ediF isNm 1000000 e.x)) ∧ Gq W w') := fun W hW => checkR_any e W (h.below hW) (hpw.below hW)
  obtain ⟨f, hf⟩ : ∃ f, ediF isNm 1000000 e.x = f := ⟨_, rfl⟩
  have HF := Lib.hid hf
  rw [hf] at HCK
  have HRE : Hid (endR isNm 1000000 e.x = if f ≠ 0 then (0, f) else (endF e.x.cs, 0)) := by show _ = _; unfold endR; rw [hf]
  have HEO : Hid (f = 0 → EndOk e.cs.xs) := fun h0 => endOk_of (by rw [hf]; exact h0)
  obtain ⟨rt, tk, ⟨A, d, xs⟩⟩ := e
  have HEN : Hid (f = 0 → ∀ W, Gq w W → Calls Tryz.prog 14 #[.agg #[.int .i64 rt, .int .i64 tk, .slice A xs.length d]] W fun en w' => en = .returned (.int .i64 (endF (xs.map CliM.x))) ∧ Gq W w') := fun h0 W hW => endR_any ⟨rt, tk, ⟨A, d, xs⟩⟩ W (h.below hW) (HEO.out h0)
  simp only [EdtM.x, EdtM.v, Slc.v] at HCK HRE ⊢
  obtain ⟨w1, hw1⟩ : ∃ w1, w1 = w.alloc (.cells #[.int .i64 rt, .int .i64 tk, .slice A xs.length d] 24) := ⟨_, rfl⟩
  have HB : Hid (Gq w w1) := by rw [hw1]; exact (Gq.refl _).alloc _
  have HK : Hid (Blk w1 w.heap.size 24 [.int .i64 rt, .int .i64 tk, .slice A xs.length d]) := by rw [hw1]; exact Blk.new w _ _
  have c0 : w1.cell? ⟨w.heap.size, 0, none⟩ = some (.int .i64 rt) := HK.out.cell 0
  have c1 : w1.cell? ⟨w.heap.size, 1, none⟩ = some (.int .i64 tk) := HK.out.cell 1
  have c2 : w1.cell? ⟨w.heap.size, 2, none⟩ = some (.slice A xs.length d) := HK.out.cell 2
  have HW := Lib.hid hw1
  clear hw1 hf h hpw
  go_enter Tryz.func7, Tryz.ntmps7
  go_upto_region 1 with (fail)
  rw [← HW.out]
  go_wp2_with fail
  refine (HCK.out _ HB.out).mono ?_
  rintro e w2 ⟨rfl, hb2⟩
  have HB2 : Hid (Gq w w2) := HB.out.trans hb2
  have HK2 := Lib.hid (HK.out.same (Same.of_below (S := fun _ => True) hb2) trivial)
  clear hb2 c0 c1 c2
  by_cases h0 : f = 0
  case neg =>
    have HQ : Hid (endR isNm 1000000 ⟨rt, tk, xs.map CliM.x⟩ = (0, f)) := by show _ = _; rw [HRE.out, if_pos h0]
    have hfb : (!(f == 0)) = true := by simp [h0]
    go_wp2_with fail
    go_ret2
    exact ⟨by rw [HQ.out]; rfl, HB2.out⟩
  have HQ : Hid (endR isNm 1000000 ⟨rt, tk, xs.map CliM.x⟩ = (endF (xs.map CliM.x), 0)) := by show _ = _; rw [HRE.out, if_neg (by omega)]
  have HE2 := Lib.hid (HEN.out h0 w2 HB2.out)
  subst h0
  have c0 : w2.cell? ⟨w.heap.size, 0, none⟩ = some (.int .i64 rt) := HK2.out.cell 0
  have c1 : w2.cell? ⟨w.heap.size, 1, none⟩ = some (.int .i64 tk) := HK2.out.cell 1
  have c2 : w2.cell? ⟨w.heap.size, 2, none⟩ = some (.slice A xs.length d) := HK2.out.cell 2
  go_wp2_with fail
  refine HE2.out.mono ?_
  rintro e w3 ⟨rfl, hb3⟩
  have HB3 : Hid (Gq w w3) := HB2.out.trans hb3
  clear hb3
  go_wp2_with fail
  go_ret2
  exact ⟨by rw [HQ.out]; rfl, HB3.out⟩
end Go.Proofs.YtjcdifchcmldfaaGreatDoor
