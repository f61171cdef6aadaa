/- The contract of edit.Text. -/
import Derived.Test.YtmppccnioiodgaaGreatDoorBldZ
import Derived.Test.YtmppccnioiodgaaGreatDoorCliZ
namespace Go.Proofs.YtmppccnioiodgaaGreatDoor
open Go.RowKit Go.Dw

def TxtR (e : Edt) (w : World) (en : Ending) (w' : World) : Prop := en = .returned (.tuple #[.string (mkB (txtF isNm 1000000 e).1), .int .i64 (txtF isNm 1000000 e).2]) ∧ Below w.heap.size w w'
theorem txtF_bad {nm : ByteArray → Bool} {mx : Int} {e : Edt} {f : Int} (h : ediF nm mx e = f) (h0 : f ≠ 0) : txtF nm mx e = ([], f) := by unfold txtF; rw [h, if_pos h0]
theorem txtF_big {nm : ByteArray → Bool} {mx : Int} {e : Edt} (h : ediF nm mx e = 0) (g : 500000 < (ediT e).length) : txtF nm mx e = ([], 2) := by unfold txtF; rw [h, if_neg (by omega), if_pos g]
theorem txtF_ok {nm : ByteArray → Bool} {mx : Int} {e : Edt} (h : ediF nm mx e = 0) (g : ¬ 500000 < (ediT e).length) : txtF nm mx e = (ediT e, 0) := by unfold txtF; rw [h, if_neg (by omega), if_neg g]
set_option maxRecDepth 100000 in
set_option maxHeartbeats 4000000 in
theorem text_e (e : EdtM) (w : World) (h : EdtOk w e) (hp : HasPow w) :
    Calls Tryz.prog 12 #[e.v] w (TxtR e.x w) := by
  have HCK : Hid (∀ W, Gq w W → Calls Tryz.prog 9 #[e.v] W fun en w' => en = .returned (.int .i64 (ediF isNm 1000000 e.x)) ∧ Gq W w') := fun W hW => check_any e W (h.below hW)
  obtain ⟨f, hf⟩ : ∃ f, ediF isNm 1000000 e.x = f := ⟨_, rfl⟩
  have HF := Lib.hid hf
  rw [hf] at HCK
  have HWR : Hid (f = 0 → ∀ W, Gq w W → Calls Tryz.prog 30 #[e.v] W fun en w' => en = .returned (.string (mkB (ediT e.x))) ∧ Gq W w') := fun h0 W hW => write_e e W (h.below hW) (ediF_ok (by rw [hf]; exact h0)) (hp.below hW)
  have HTR : Hid (∀ en w', TxtR e.x w en w' ↔ en = .returned (.tuple #[.string (mkB (txtF isNm 1000000 e.x).1), .int .i64 (txtF isNm 1000000 e.x).2]) ∧ Below w.heap.size w w') := fun _ _ => Iff.rfl
  obtain ⟨ex, hex⟩ : ∃ ex, e.x = ex := ⟨_, rfl⟩
  rw [hex] at HWR HTR HF ⊢
  obtain ⟨rt, tk, ⟨A, d, xs⟩⟩ := e
  simp only [EdtM.v, Slc.v] at HCK HWR ⊢
  generalize (xs.length : Nat) = xn at *
  obtain ⟨w1, hw1⟩ : ∃ w1, w1 = w.alloc (.cells #[.int .i64 rt, .int .i64 tk, .slice A xn d] 24) := ⟨_, rfl⟩
  have HB : Hid (Gq w w1) := by rw [hw1]; exact (Gq.refl _).alloc _
  have HK : Hid (Blk w1 w.heap.size 24 [.int .i64 rt, .int .i64 tk, .slice A xn d]) := by rw [hw1]; exact Blk.new w _ _
  have c0 : w1.cell? ⟨w.heap.size, 0, none⟩ = some (.int .i64 rt) := HK.out.cell 0
  have c1 : w1.cell? ⟨w.heap.size, 1, none⟩ = some (.int .i64 tk) := HK.out.cell 1
  have c2 : w1.cell? ⟨w.heap.size, 2, none⟩ = some (.slice A xn d) := HK.out.cell 2
  have HW := Lib.hid hw1
  clear hw1 hf h hp hex
  go_enter Tryz.func12, Tryz.ntmps12
  go_upto_region 1 with (fail)
  rw [← HW.out]
  go_wp2_with fail
  refine (HCK.out _ HB.out).mono ?_
  rintro e w2 ⟨rfl, hb2⟩
  have HB2 : Hid (Gq w w2) := HB.out.trans hb2
  have HK2 := Lib.hid (HK.out.same (Same.of_below (S := fun _ => True) hb2) trivial)
  clear hb2 c0 c1 c2
  by_cases h0 : f = 0
  case neg =>
    have HQ := Lib.hid (txtF_bad HF.out h0)
    have hfb : (!(f == 0)) = true := by simp [h0]
    go_wp2_with fail
    go_ret2
    exact (HTR.out _ _).2 ⟨by rw [HQ.out]; rfl, HB2.out⟩
  have HE2 := Lib.hid (HWR.out h0 w2 HB2.out)
  subst h0
  have c0 : w2.cell? ⟨w.heap.size, 0, none⟩ = some (.int .i64 rt) := HK2.out.cell 0
  have c1 : w2.cell? ⟨w.heap.size, 1, none⟩ = some (.int .i64 tk) := HK2.out.cell 1
  have c2 : w2.cell? ⟨w.heap.size, 2, none⟩ = some (.slice A xn d) := HK2.out.cell 2
  go_wp2_with fail
  refine HE2.out.mono ?_
  rintro e w3 ⟨rfl, hb3⟩
  have HB3 : Hid (Gq w w3) := HB2.out.trans hb3
  clear hb3
  have hz := mkB_size (ediT ex)
  obtain ⟨s, hs⟩ : ∃ s, mkB (ediT ex) = s := ⟨_, rfl⟩
  rw [hs] at hz ⊢
  have HS := Lib.hid hs
  have HZ := Lib.hid hz
  clear hs hz
  by_cases hb : 500000 < s.size
  · have HQ := Lib.hid (txtF_big HF.out (by rw [← HZ.out]; exact hb))
    have hbb : decide (500000 < s.size) = true := by simpa using hb
    go_wp2_with fail
    go_ret2
    exact (HTR.out _ _).2 ⟨by rw [HQ.out]; rfl, HB3.out⟩
  · have HQ := Lib.hid (txtF_ok HF.out (by rw [← HZ.out]; exact hb))
    have hbb : decide (500000 < s.size) = false := by simpa using hb
    go_wp2_with fail
    go_ret2
    exact (HTR.out _ _).2 ⟨by rw [HQ.out]; show _ = Ending.returned (.tuple #[.string (mkB (ediT ex)), .int .i64 0]); rw [HS.out]; rfl, HB3.out⟩
end Go.Proofs.YtmppccnioiodgaaGreatDoor
