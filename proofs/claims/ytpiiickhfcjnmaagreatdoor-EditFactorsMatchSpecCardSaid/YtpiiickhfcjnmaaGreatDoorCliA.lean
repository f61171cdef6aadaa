/- The contract of edit.checkClip. -/
import Derived.Test.YtpiiickhfcjnmaaGreatDoorEnv
import Derived.Test.YtpiiickhfcjnmaaGreatDoorPlnF
namespace Go.Proofs.YtpiiickhfcjnmaaGreatDoor
open Go.RowKit Go.Dw

/-- what a clip's numbers must be -/
def CliN (tk xc xf xt xa xl : Int) : Prop := (0 ≤ xc ∧ xc < 16) ∧ (0 ≤ xf ∧ xf ≤ 10000000000000) ∧ (0 ≤ xt ∧ xt < tk) ∧ (0 ≤ xa ∧ xa < 100000) ∧ (1 ≤ xl ∧ xl ≤ 100000 - xa) ∧ xf + xl ≤ 10000000000000
theorem cliF_of (nm : ByteArray → Bool) (tk : Int) (c : Cli) (h : nm c.m = true) : (¬ CliN tk c.ch c.fr c.tr c.at_ c.ln → cliF nm tk c = 1) ∧ (CliN tk c.ch c.fr c.tr c.at_ c.ln → cliF nm tk c = envF c.ln c.e) := by
  unfold cliF cliR
  rw [if_neg (by rw [h]; decide)]
  refine ⟨fun g => ?_, fun g => ?_⟩
  · exact if_pos (decide_eq_false_iff_not.2 g)
  · exact if_neg (fun e => decide_eq_false_iff_not.1 e g)
theorem CliOk.x_ln {w : World} {c : CliM} (h : CliOk w c) : inI64 c.ln := h.ln
set_option maxRecDepth 100000 in
set_option maxHeartbeats 8000000 in
theorem cli_any (c : CliM) (tk : Int) (w : World) (h : CliOk w c) :
    Calls Tryz.prog 31 #[c.v, .int .i64 tk] w fun e w' => e = .returned (.int .i64 (cliF isNm tk c.x)) ∧ Below w.heap.size w w' := by
  have HEV : Hid (∀ W, Gq w W → Calls Tryz.prog 82 #[c.v] W fun e w' => e = .returned (.int .i64 (envF c.ln c.e.xs)) ∧ Below W.heap.size W w') := fun W hW => env_any c W (h.below hW) h.ln
  have HCF := Lib.hid (cliF_of isNm tk c.x)
  have hm := h.m
  have HNF : Hid (isNm c.m = false → cliF isNm tk c.x = 5) := fun g => by unfold cliF; rw [if_pos (by exact g)]
  obtain ⟨xm, xc, xf, xt, xa, xl, ⟨A, d, xs⟩⟩ := c
  obtain ⟨_, i1, i2, i3, i4, i5, _, _, _⟩ := h
  obtain ⟨E, hE⟩ : ∃ E, cliF isNm tk (CliM.x ⟨xm, xc, xf, xt, xa, xl, ⟨A, d, xs⟩⟩) = E := ⟨_, rfl⟩
  rw [hE] at HCF HNF ⊢
  simp only [CliM.x, CliM.v, Slc.v] at HEV HCF HNF i1 i2 i3 i4 i5 hm ⊢
  obtain ⟨i1a, i1b⟩ := i1
  obtain ⟨i2a, i2b⟩ := i2
  obtain ⟨i3a, i3b⟩ := i3
  obtain ⟨i4a, i4b⟩ := i4
  obtain ⟨i5a, i5b⟩ := i5
  clear hE
  generalize (xs.length : Nat) = xn at *
  obtain ⟨w1, hw1⟩ : ∃ w1, w1 = w.alloc (.cells #[.string xm, .int .i64 xc, .int .i64 xf, .int .i64 xt, .int .i64 xa, .int .i64 xl, .slice A xn d] 36) := ⟨_, rfl⟩
  have HB : Hid (Below w.heap.size w w1) := by rw [hw1]; exact (Below.refl _ _).alloc (Nat.le_refl _) _
  have HK : Hid (Blk w1 w.heap.size 36 [.string xm, .int .i64 xc, .int .i64 xf, .int .i64 xt, .int .i64 xa, .int .i64 xl, .slice A xn d]) := by rw [hw1]; exact Blk.new w _ _
  have a0 : w1.cell? ⟨w.heap.size, 0, none⟩ = some (.string xm) := HK.out.cell 0
  have HIN := Lib.hid (isName_any xm w1 hm)
  have HW := Lib.hid hw1
  clear hw1
  go_enter Tryz.func31, Tryz.ntmps31
  go_upto_region 1 with (fail)
  rw [← HW.out]
  go_wp2_with fail
  refine HIN.out.mono ?_
  rintro e w2 ⟨rfl, hb2⟩
  have HB2 : Hid (Gq w w2) := HB.out.trans (hb2.mono HB.out.size)
  have HK2 : Hid (Blk w2 w.heap.size 36 [.string xm, .int .i64 xc, .int .i64 xf, .int .i64 xt, .int .i64 xa, .int .i64 xl, .slice A xn d]) := HK.out.same (Same.of_below (S := fun _ => True) hb2) trivial
  obtain ⟨nb, hnb⟩ : ∃ nb, isNm xm = nb := ⟨_, rfl⟩
  rw [hnb]
  rw [hnb] at HCF HNF
  clear hb2 HIN a0 HK HB hnb
  cases nb
  · have HQ : Hid (E = 5) := HNF.out rfl
    go_wp2_with fail
    go_ret
    exact ⟨ret_int HQ.out.symm, HB2.out⟩
  have HE2 := Lib.hid (HCF.out rfl)
  have HEU : Hid ((¬ ((0 ≤ xc ∧ xc < 16) ∧ (0 ≤ xf ∧ xf ≤ 10000000000000) ∧ (0 ≤ xt ∧ xt < tk) ∧ (0 ≤ xa ∧ xa < 100000) ∧ (1 ≤ xl ∧ xl ≤ 100000 - xa) ∧ xf + xl ≤ 10000000000000) → E = 1) ∧ (((0 ≤ xc ∧ xc < 16) ∧ (0 ≤ xf ∧ xf ≤ 10000000000000) ∧ (0 ≤ xt ∧ xt < tk) ∧ (0 ≤ xa ∧ xa < 100000) ∧ (1 ≤ xl ∧ xl ≤ 100000 - xa) ∧ xf + xl ≤ 10000000000000) → E = envF xl xs)) := HE2.out
  clear HE2 HCF HNF
  have HE2 := HEU
  clear HEU
  have a1 : w2.cell? ⟨w.heap.size, 1, none⟩ = some (.int .i64 xc) := HK2.out.cell 1
  have a2 : w2.cell? ⟨w.heap.size, 2, none⟩ = some (.int .i64 xf) := HK2.out.cell 2
  have a3 : w2.cell? ⟨w.heap.size, 3, none⟩ = some (.int .i64 xt) := HK2.out.cell 3
  have a4 : w2.cell? ⟨w.heap.size, 4, none⟩ = some (.int .i64 xa) := HK2.out.cell 4
  have a5 : w2.cell? ⟨w.heap.size, 5, none⟩ = some (.int .i64 xl) := HK2.out.cell 5
  have a6 : w2.cell? ⟨w.heap.size, 6, none⟩ = some (.slice A xn d) := HK2.out.cell 6
  have a0 : w2.cell? ⟨w.heap.size, 0, none⟩ = some (.string xm) := HK2.out.cell 0
  by_cases h1 : xc < 0
  · have HQ : Hid (E = 1) := HE2.out.1 (by omega)
    go_wp2_with fail
    go_ret
    exact ⟨ret_int HQ.out.symm, HB2.out⟩
  by_cases h2 : 16 ≤ xc
  · have HQ : Hid (E = 1) := HE2.out.1 (by omega)
    go_wp2_with fail
    go_ret
    exact ⟨ret_int HQ.out.symm, HB2.out⟩
  by_cases h3 : xf < 0
  · have HQ : Hid (E = 1) := HE2.out.1 (by omega)
    go_wp2_with fail
    go_ret
    exact ⟨ret_int HQ.out.symm, HB2.out⟩
  by_cases h4 : 10000000000000 < xf
  · have HQ : Hid (E = 1) := HE2.out.1 (by omega)
    go_wp2_with fail
    go_ret
    exact ⟨ret_int HQ.out.symm, HB2.out⟩
  by_cases h5 : xt < 0
  · have HQ : Hid (E = 1) := HE2.out.1 (by omega)
    go_wp2_with fail
    go_ret
    exact ⟨ret_int HQ.out.symm, HB2.out⟩
  by_cases h6 : tk ≤ xt
  · have HQ : Hid (E = 1) := HE2.out.1 (by omega)
    go_wp2_with fail
    go_ret
    exact ⟨ret_int HQ.out.symm, HB2.out⟩
  by_cases h7 : xa < 0
  · have HQ : Hid (E = 1) := HE2.out.1 (by omega)
    go_wp2_with fail
    go_ret
    exact ⟨ret_int HQ.out.symm, HB2.out⟩
  by_cases h8 : 100000 ≤ xa
  · have HQ : Hid (E = 1) := HE2.out.1 (by omega)
    go_wp2_with fail
    go_ret
    exact ⟨ret_int HQ.out.symm, HB2.out⟩
  by_cases h9 : xl < 1
  · have HQ : Hid (E = 1) := HE2.out.1 (by omega)
    go_wp2_with fail
    go_ret
    exact ⟨ret_int HQ.out.symm, HB2.out⟩
  have W1 : IntKind.i64.wrap (100000 - xa) = 100000 - xa := IntWalk.i64_in _ (by omega)
  by_cases h10 : 100000 - xa < xl
  · have HQ : Hid (E = 1) := HE2.out.1 (by omega)
    go_wp2_with fail
    go_ret
    exact ⟨ret_int HQ.out.symm, HB2.out⟩
  have W2 : IntKind.i64.wrap (xf + xl) = xf + xl := IntWalk.i64_in _ (by omega)
  by_cases h11 : 10000000000000 < xf + xl
  · have HQ : Hid (E = 1) := HE2.out.1 (by omega)
    go_wp2_with fail
    go_ret
    exact ⟨ret_int HQ.out.symm, HB2.out⟩
  have HQ : Hid (E = envF xl xs) := HE2.out.2 (by omega)
  have HEN := Lib.hid (HEV.out w2 HB2.out)
  rw [← HQ.out] at HEN
  go_wp2_with fail
  refine HEN.out.mono ?_
  rintro e w3 ⟨rfl, hb3⟩
  have HB3 := Lib.hid (Gq.trans HB2.out hb3)
  clear hb3
  go_wp2_with fail
  go_ret
  exact ⟨rfl, HB3.out⟩
end Go.Proofs.YtpiiickhfcjnmaaGreatDoor
