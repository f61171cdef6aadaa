/- The contract of the reference's Text. -/
import Derived.Test.YtjcdifchcmldfaaGreatDoorTxtA
namespace Go.Proofs.YtjcdifchcmldfaaGreatDoor
open Go.RowKit Go.Dw

theorem mkB_lit (l : List UInt8) : mkB l = ⟨l.toArray⟩ := rfl
set_option maxRecDepth 100000 in
set_option maxHeartbeats 16000000 in
theorem textR_e (e : EdtM) (w : World) (h : EdtOk w e) (hp : HasPow w) :
    Calls Tryz.prog 5 #[e.v] w (TxtR e.x w) := by
  have HOK := Lib.hid h
  have HCK : Hid (∀ W, Gq w W → Calls Tryz.prog 9 #[e.v] W fun en w' => en = .returned (.int .i64 (ediF isNm 1000000 e.x)) ∧ Gq W w') := fun W hW => checkR_any e W (h.below hW) (hp.below hW)
  obtain ⟨f, hf⟩ : ∃ f, ediF isNm 1000000 e.x = f := ⟨_, rfl⟩
  have HF := Lib.hid hf
  have HPW := Lib.hid hp
  rw [hf] at HCK
  have HTR : Hid (∀ en w', TxtR e.x w en w' ↔ en = .returned (.tuple #[.string (mkB (txtF isNm 1000000 e.x).1), .int .i64 (txtF isNm 1000000 e.x).2]) ∧ Below w.heap.size w w') := fun _ _ => Iff.rfl
  have HRT : Hid (f = 0 → EdiRt isNm 1000000 e.x) := fun h0 => ediF_ok (by rw [hf]; exact h0)
  obtain ⟨rt, tk, ⟨A, d, xs⟩⟩ := e
  obtain ⟨r1, r2⟩ := h.rate
  obtain ⟨t1, t2⟩ := h.tracks
  have hcl := h.cl
  simp only at r1 r2 t1 t2 hcl
  obtain ⟨ex, hex⟩ : ∃ ex, EdtM.x ⟨rt, tk, ⟨A, d, xs⟩⟩ = ex := ⟨_, rfl⟩
  have HEX : Hid (ex = ⟨rt, tk, xs.map CliM.x⟩) := hex.symm
  rw [hex] at HTR HF HRT ⊢
  simp only [EdtM.v, Slc.v] at HCK ⊢
  obtain ⟨w1, hw1⟩ : ∃ w1, w1 = w.alloc (.cells #[.int .i64 rt, .int .i64 tk, .slice A xs.length d] 24) := ⟨_, rfl⟩
  have HB : Hid (Gq w w1) := by rw [hw1]; exact (Gq.refl _).alloc _
  have HK : Hid (Blk w1 w.heap.size 24 [.int .i64 rt, .int .i64 tk, .slice A xs.length d]) := by rw [hw1]; exact Blk.new w _ _
  have HR : Hid (Rd w1 A (xs.flatMap CliM.cs)) := HB.out.rd h.cr
  have HS : Hid (∀ W, Gq w1 W → W.cell? ⟨w.heap.size, 0, none⟩ = some (.int .i64 rt) ∧ W.cell? ⟨w.heap.size, 1, none⟩ = some (.int .i64 tk) ∧ W.cell? ⟨w.heap.size, 2, none⟩ = some (.slice A xs.length d)) := fun W hW => by
    have k1 := HK.out.same (Same.of_below (S := fun _ => True) hW) trivial
    exact ⟨k1.cell 0, k1.cell 1, k1.cell 2⟩
  obtain ⟨c0, c1, c2⟩ := HS.out w1 (Gq.refl _)
  have HW := Lib.hid hw1
  clear hw1 hf h hp hex
  go_enter Tryz.func5, Tryz.ntmps5
  go_upto_region 1 with (fail)
  rw [← HW.out]
  go_wp2_with fail
  refine (HCK.out _ HB.out).mono ?_
  rintro e w2 ⟨rfl, hb2⟩
  have HB2 : Hid (Gq w1 w2) := hb2
  clear hb2 c0 c1 c2
  have HBF : Hid (∀ W, Gq w1 W → Below w.heap.size w W) := fun W hW => HB.out.trans hW
  by_cases h0 : f = 0
  case neg =>
    have HQ := Lib.hid (txtF_bad HF.out h0)
    have hfb : (!(f == 0)) = true := by simp [h0]
    go_wp2_with fail
    go_ret2
    exact (HTR.out _ _).2 ⟨by rw [HQ.out]; rfl, HBF.out _ HB2.out⟩
  have HRR := Lib.hid (HRT.out h0)
  subst h0
  have hcl2 : xs.length ≤ 300 := by have := HRR.out.l; rw [HEX.out] at this; simpa using this
  have htk2 : tk ≤ 16 := by have := HRR.out.t.2; rw [HEX.out] at this; exact this
  have HXC : Hid (∀ k (hk : k < xs.length), CliRt isNm tk xs[k].x) := fun k hk => by
    have := HRR.out.c xs[k].x (by rw [HEX.out]; exact List.mem_map_of_mem (List.getElem_mem hk))
    rw [HEX.out] at this; exact this
  have HTL : Hid (∀ k, (((xs.map CliM.x).take k).flatMap cliT).length ≤ 1800000) := fun k => by
    have h1 := take_flat_le cliT 6000 (xs.map CliM.x) k (fun c hc => cliT_len isNm_len (by have := HRR.out.c c (by rw [HEX.out]; exact hc); rw [HEX.out] at this; exact this) htk2)
    rw [List.length_map] at h1
    have : xs.length * 6000 ≤ 300 * 6000 := Nat.mul_le_mul_right _ hcl2
    omega
  have HSN : Hid (∀ k (hk : k < xs.length), ((xs.map CliM.x).take (k + 1)).flatMap cliT = ((xs.map CliM.x).take k).flatMap cliT ++ cliT xs[k].x) := fun k hk => by
    rw [flat_take_snoc cliT _ k (by simpa using hk)]; simp
  have hhd := hdT_len (r := rt) (t := tk) ⟨r1, r2⟩ ⟨t1, t2⟩
  have HEP : Hid (∀ k (hk : k < xs.length), Rd w1 xs[k].e.a (xs[k].e.xs.flatMap Pnt.cs)) := fun k hk => HB.out.rd (HOK.out.co _ (List.getElem_mem hk)).er
  clear HRT HRR HCK HOK
  obtain ⟨H0, hH0⟩ : ∃ H0, H0 = hdT rt tk := ⟨_, rfl⟩
  have HET : Hid (ediT ex = H0 ++ (xs.map CliM.x).flatMap cliT) := by show _ = _; rw [HEX.out, ediT_eq, hH0]
  have HIA : Hid (∀ W, Gq w2 W → Calls Tryz.prog 12 #[.int .i64 rt] W fun e W' => e = .returned (.string (mkB (Lib.itoa rt))) ∧ Gq w2 W') := fun W hW =>
    (itoaM_any rt W ⟨r1, r2⟩ (HPW.out.below (HBF.out W (HB2.out.trans hW)))).mono fun e w' h => ⟨h.1, hW.trans h.2⟩
  have HIB : Hid (∀ W, Gq w2 W → Calls Tryz.prog 12 #[.int .i64 tk] W fun e W' => e = .returned (.string (mkB (Lib.itoa tk))) ∧ Gq w2 W') := fun W hW =>
    (itoaM_any tk W ⟨t1, t2⟩ (HPW.out.below (HBF.out W (HB2.out.trans hW)))).mono fun e w' h => ⟨h.1, hW.trans h.2⟩
  have HCT : Hid ((⟨#[101, 100, 105, 116, 32]⟩ : ByteArray) ++ mkB (Lib.itoa rt) ++ ⟨#[32]⟩ ++ mkB (Lib.itoa tk) ++ ⟨#[10]⟩ = mkB H0) := by
    show _ = _
    apply ba_ext
    rw [hH0]
    simp [mkB, hdT, ByteArray.data_append]
  have z1 : (mkB (Lib.itoa rt)).size ≤ 21 := by rw [mkB_size]; exact itoa_le rt ⟨r1, r2⟩
  have z2 : (mkB (Lib.itoa tk)).size ≤ 21 := by rw [mkB_size]; exact itoa_le tk ⟨t1, t2⟩
  rw [← hH0] at hhd
  clear hH0
  obtain ⟨na, hna⟩ : ∃ na, mkB (Lib.itoa rt) = na := ⟨_, rfl⟩
  obtain ⟨nb, hnb⟩ : ∃ nb, mkB (Lib.itoa tk) = nb := ⟨_, rfl⟩
  rw [hna] at HIA HCT z1
  rw [hnb] at HIB HCT z2
  clear hna hnb
  have HS4 : Hid (∀ W, Gq w2 W → W.cell? ⟨w.heap.size, 0, none⟩ = some (.int .i64 rt) ∧ W.cell? ⟨w.heap.size, 1, none⟩ = some (.int .i64 tk) ∧ Gq w2 W) := fun W hW => ⟨(HS.out W (HB2.out.trans hW)).1, (HS.out W (HB2.out.trans hW)).2.1, hW⟩
  have hBR : Gq w2 w2 := Gq.refl _
  have hBD : Gq w2 w2.drew := (Gq.refl _).drew
  have ov0 : ¬ (9223372036854775807 < 5 + na.size) := by omega
  have ov1 : ¬ (9223372036854775807 < 5 + na.size + 1) := by omega
  have ov2 : ¬ (9223372036854775807 < 5 + na.size + 1 + nb.size) := by omega
  have ov3 : ¬ (9223372036854775807 < 5 + na.size + 1 + nb.size + 1) := by omega
  go_upto_region 4 with (fail)
  go_cut [5] (fun v wx => v = .string (mkB H0) ∧ Hid (Gq w1 wx))
  case first =>
    go_region_held3 (fun W => W.cell? ⟨w.heap.size, 0, none⟩ = some (.int .i64 rt) ∧ W.cell? ⟨w.heap.size, 1, none⟩ = some (.int .i64 tk) ∧ Gq w2 W)
      (first | exact HS4.out _ hBD | exact HS4.out _ hqB | exact HS4.out _ hBR)
      (first | (go_at_call 12; with_reducible refine (HIA.out _ (by first | assumption | (go_split_ands; assumption))).mono ?_; rintro e wB ⟨rfl, hqB⟩) | (go_at_call 12; with_reducible refine (HIB.out _ (by first | assumption | (go_split_ands; assumption))).mono ?_; rintro e wB ⟨rfl, hqB⟩))
    all_goals
      go_wp2_with fail
      go_meet
      case rel => exact ⟨by rw [← HCT.out], HB2.out.trans (by assumption)⟩
  case rest =>
  obtain ⟨rfl, HGC⟩ := hcut
  clear ov0 ov1 ov2 ov3 z1 z2 hBR hBD HS4 HIA HIB HCT
  go_wp2_with fail
  go_loopw [5, 6] (fun sv kv wr => ∃ k : Nat, k ≤ xs.length ∧ kv = .int .i64 (k : Int) ∧ sv = .string (mkB (H0 ++ ((xs.map CliM.x).take k).flatMap cliT)) ∧ Hid (Gq w1 wr)) (fun _ kv _ => xs.length - (intOf kv).toNat)
  case atStart => exact ⟨0, Nat.zero_le _, rfl, by simp, HGC⟩
  case round =>
    clear HGC
    obtain ⟨k, hk, rfl, rfl, HG⟩ := hrel
    obtain ⟨wo, hwo⟩ : ∃ wo, wo = wr := ⟨_, rfl⟩
    subst hwo
    obtain ⟨c0, c1, c2⟩ := HS.out wo HG.out
    by_cases hlt : k < xs.length
    case neg =>
      have hd1 : decide (k < xs.length) = false := by simpa using hlt
      have HE : Hid (H0 ++ ((xs.map CliM.x).take k).flatMap cliT = ediT ex) := by show _ = _; rw [HET.out, List.take_of_length_le (by simp; omega)]
      rw [HE.out]
      have hz := mkB_size (ediT ex)
      obtain ⟨s, hs⟩ : ∃ s, mkB (ediT ex) = s := ⟨_, rfl⟩
      rw [hs] at hz ⊢
      have HSS := Lib.hid hs
      have HZ := Lib.hid hz
      clear hs hz
      by_cases hb : 500000 < s.size
      · have HQ := Lib.hid (txtF_big HF.out (by rw [← HZ.out]; exact hb))
        have hbb : decide (500000 < s.size) = true := by simpa using hb
        go_wp2_with fail
        go_ret2
        exact (HTR.out _ _).2 ⟨by rw [HQ.out]; rfl, HBF.out _ HG.out⟩
      · have HQ := Lib.hid (txtF_ok HF.out (by rw [← HZ.out]; exact hb))
        have hbb : decide (500000 < s.size) = false := by simpa using hb
        go_wp2_with fail
        go_ret2
        exact (HTR.out _ _).2 ⟨by rw [HQ.out]; show _ = Ending.returned (.tuple #[.string (mkB (ediT ex)), .int .i64 0]); rw [HSS.out]; rfl, HBF.out _ HG.out⟩
    have hd1 : decide (k < xs.length) = true := by simpa using hlt
    obtain ⟨b, off, rfl, hb, hc⟩ := cli_at (Gq.rd HG.out HR.out) (by omega)
    obtain ⟨d0, d1, d2, d3, d4, d5, d6⟩ := hc k hlt
    have HCR := Lib.hid (HXC.out k hlt)
    have HSK := Lib.hid (HSN.out k hlt)
    have HER := Lib.hid (HEP.out k hlt)
    have hl0 : (H0 ++ ((xs.map CliM.x).take k).flatMap cliT).length ≤ 1800060 := by rw [List.length_append]; have := HTL.out k; omega
    obtain ⟨T0, hT0⟩ : ∃ T0, T0 = H0 ++ ((xs.map CliM.x).take k).flatMap cliT := ⟨_, rfl⟩
    obtain ⟨TE, hTE⟩ : ∃ TE, TE = H0 ++ ((xs.map CliM.x).take (k + 1)).flatMap cliT := ⟨_, rfl⟩
    have HTE2 := Lib.hid hTE
    have HTT : Hid (TE = T0 ++ cliT xs[k].x) := by show _ = _; rw [hTE, hT0, HSK.out, List.append_assoc]
    rw [← hT0] at hl0
    rw [← hT0]
    obtain ⟨x, hx⟩ : ∃ x, xs[k] = x := ⟨_, rfl⟩
    rw [hx] at d0 d1 d2 d3 d4 d5 d6 HCR HER HTT
    clear hc HSK hT0 hTE hx
    obtain ⟨xm, xc, xf, xt, xa, xl, ⟨xA, xd, xe⟩⟩ := x
    simp only [CliM.x] at d0 d1 d2 d3 d4 d5 d6 HCR HER HTT
    have hxe : xe.length ≤ 50 := HCR.out.e1
    have hxm : xm.size ≤ 40 := isNm_len _ HCR.out.m
    obtain ⟨wA, hwA⟩ : ∃ wA, wA = wo.alloc (.cells #[.string xm, .int .i64 xc, .int .i64 xf, .int .i64 xt, .int .i64 xa, .int .i64 xl, .slice xA xe.length xd] 37) := ⟨_, rfl⟩
    have HGA : Hid (Gq w1 wA) := by rw [hwA]; exact HG.out.alloc _
    have HKA : Hid (Blk wA wo.heap.size 37 [.string xm, .int .i64 xc, .int .i64 xf, .int .i64 xt, .int .i64 xa, .int .i64 xl, .slice xA xe.length xd]) := by rw [hwA]; exact Blk.new wo _ _
    have HWA := Lib.hid hwA
    have HFI : Hid ((inI64 xc ∧ (Lib.itoa xc).length ≤ 21) ∧ (inI64 xf ∧ (Lib.itoa xf).length ≤ 21) ∧ (inI64 xt ∧ (Lib.itoa xt).length ≤ 21) ∧ (inI64 xa ∧ (Lib.itoa xa).length ≤ 21) ∧ (inI64 xl ∧ (Lib.itoa xl).length ≤ 21)) := by
      obtain ⟨⟨q1, q2⟩, ⟨q3, q4⟩, ⟨q5, q6⟩, ⟨q7, q8⟩, ⟨q9, q10⟩, q11⟩ := HCR.out.r
      simp only at q1 q2 q3 q4 q5 q6 q7 q8 q9 q10 q11
      have key : ∀ z : Int, 0 ≤ z → z ≤ 10000000000000 → inI64 z ∧ (Lib.itoa z).length ≤ 21 := fun z h1 h2 => ⟨⟨by omega, by omega⟩, itoa_le z ⟨by omega, by omega⟩⟩
      exact ⟨key _ (by omega) (by omega), key _ (by omega) (by omega), key _ (by omega) (by omega), key _ (by omega) (by omega), key _ (by omega) (by omega)⟩
    have HIG : Hid (∀ z, inI64 z → ∀ W, Gq wA W → Calls Tryz.prog 12 #[.int .i64 z] W fun e W' => e = .returned (.string (mkB (Lib.itoa z))) ∧ Gq wA W') := fun z hz W hW =>
      (itoaM_any z W hz (HPW.out.below (HBF.out W (HGA.out.trans hW)))).mono fun e w' h => ⟨h.1, hW.trans h.2⟩
    have HI1 := Lib.hid (HIG.out xc HFI.out.1.1)
    have HI2 := Lib.hid (HIG.out xf HFI.out.2.1.1)
    have HI3 := Lib.hid (HIG.out xt HFI.out.2.2.1.1)
    have HI4 := Lib.hid (HIG.out xa HFI.out.2.2.2.1.1)
    have HI5 := Lib.hid (HIG.out xl HFI.out.2.2.2.2.1)
    have z1 : (mkB (Lib.itoa xc)).size ≤ 21 := by rw [mkB_size]; exact HFI.out.1.2
    have z2 : (mkB (Lib.itoa xf)).size ≤ 21 := by rw [mkB_size]; exact HFI.out.2.1.2
    have z3 : (mkB (Lib.itoa xt)).size ≤ 21 := by rw [mkB_size]; exact HFI.out.2.2.1.2
    have z4 : (mkB (Lib.itoa xa)).size ≤ 21 := by rw [mkB_size]; exact HFI.out.2.2.2.1.2
    have z5 : (mkB (Lib.itoa xl)).size ≤ 21 := by rw [mkB_size]; exact HFI.out.2.2.2.2.2
    obtain ⟨T1, hT1⟩ : ∃ T1, T1 = T0 ++ ([99, 108, 105, 112, 32] ++ bl xm ++ (fiveN ⟨xm, xc, xf, xt, xa, xl, xe⟩).flatMap numT) := ⟨_, rfl⟩
    have HT1 := Lib.hid hT1
    have HCT : Hid (mkB T0 ++ ((⟨#[99, 108, 105, 112, 32]⟩ : ByteArray) ++ xm ++ ⟨#[32]⟩ ++ mkB (Lib.itoa xc) ++ ⟨#[32]⟩ ++ mkB (Lib.itoa xf) ++ ⟨#[32]⟩ ++ mkB (Lib.itoa xt) ++ ⟨#[32]⟩ ++ mkB (Lib.itoa xa) ++ ⟨#[32]⟩ ++ mkB (Lib.itoa xl)) = mkB T1) := by
      show _ = _
      apply ba_ext
      rw [hT1]
      simp [mkB, bl, fiveN, numT, ByteArray.data_append]
    have hl1 : T1.length ≤ 1800300 := by
      have : (mkB T1).size = T1.length := mkB_size T1
      rw [← this, ← HCT.out]
      have e0 := mkB_size T0
      simp only [ByteArray.size_append]
      show (mkB T0).size + (5 + xm.size + 1 + _ + 1 + _ + 1 + _ + 1 + _ + 1 + _) ≤ _
      omega
    have zs : (mkB T0).size ≤ 1800060 := by rw [mkB_size]; exact hl0
    clear hT1
    generalize mkB (Lib.itoa xc) = n1 at HI1 HCT z1
    generalize mkB (Lib.itoa xf) = n2 at HI2 HCT z2
    generalize mkB (Lib.itoa xt) = n3 at HI3 HCT z3
    generalize mkB (Lib.itoa xa) = n4 at HI4 HCT z4
    generalize mkB (Lib.itoa xl) = n5 at HI5 HCT z5
    obtain ⟨s, hs⟩ : ∃ s, mkB T0 = s := ⟨_, rfl⟩
    rw [hs] at HCT zs ⊢
    clear hs
    have ov0 : ¬ (9223372036854775807 < 5 + xm.size) := by omega
    have ov1 : ¬ (9223372036854775807 < 5 + xm.size + 1) := by omega
    have ov2 : ¬ (9223372036854775807 < 5 + xm.size + 1 + n1.size) := by omega
    have ov3 : ¬ (9223372036854775807 < 5 + xm.size + 1 + n1.size + 1) := by omega
    have ov4 : ¬ (9223372036854775807 < 5 + xm.size + 1 + n1.size + 1 + n2.size) := by omega
    have ov5 : ¬ (9223372036854775807 < 5 + xm.size + 1 + n1.size + 1 + n2.size + 1) := by omega
    have ov6 : ¬ (9223372036854775807 < 5 + xm.size + 1 + n1.size + 1 + n2.size + 1 + n3.size) := by omega
    have ov7 : ¬ (9223372036854775807 < 5 + xm.size + 1 + n1.size + 1 + n2.size + 1 + n3.size + 1) := by omega
    have ov8 : ¬ (9223372036854775807 < 5 + xm.size + 1 + n1.size + 1 + n2.size + 1 + n3.size + 1 + n4.size) := by omega
    have ov9 : ¬ (9223372036854775807 < 5 + xm.size + 1 + n1.size + 1 + n2.size + 1 + n3.size + 1 + n4.size + 1) := by omega
    have ov10 : ¬ (9223372036854775807 < 5 + xm.size + 1 + n1.size + 1 + n2.size + 1 + n3.size + 1 + n4.size + 1 + n5.size) := by omega
    have ov11 : ¬ (9223372036854775807 < s.size + (5 + xm.size + 1 + n1.size + 1 + n2.size + 1 + n3.size + 1 + n4.size + 1 + n5.size)) := by omega
    have HS9 : Hid (∀ W, Gq wA W → W.cell? ⟨wo.heap.size, 0, none⟩ = some (.string xm) ∧ W.cell? ⟨wo.heap.size, 1, none⟩ = some (.int .i64 xc) ∧ W.cell? ⟨wo.heap.size, 2, none⟩ = some (.int .i64 xf) ∧ W.cell? ⟨wo.heap.size, 3, none⟩ = some (.int .i64 xt) ∧ W.cell? ⟨wo.heap.size, 4, none⟩ = some (.int .i64 xa) ∧ W.cell? ⟨wo.heap.size, 5, none⟩ = some (.int .i64 xl) ∧ Gq wA W) := fun W hW => by
      have hk := HKA.out.same (Same.of_below (S := fun _ => True) hW) trivial
      exact ⟨hk.cell 0, hk.cell 1, hk.cell 2, hk.cell 3, hk.cell 4, hk.cell 5, hW⟩
    have hBR : Gq wA wA := Gq.refl _
    have hBD : Gq wA wA.drew := (Gq.refl _).drew
    have j0 : (0 : Int) ≤ (k : Int) := by omega
    have j1 : (k : Int) < (xs.length : Int) := by omega
    clear hwA HFI HIG
    go_upto_region 9 with (fail)
    rw [← HWA.out]
    clear c0 c1 c2 d0 d1 d2 d3 d4 d5 d6
    go_cut [5] (fun v wx => v = .string (mkB T1) ∧ Hid (Gq wA wx))
    case first =>
      go_region_held3 (fun W => W.cell? ⟨wo.heap.size, 0, none⟩ = some (.string xm) ∧ W.cell? ⟨wo.heap.size, 1, none⟩ = some (.int .i64 xc) ∧ W.cell? ⟨wo.heap.size, 2, none⟩ = some (.int .i64 xf) ∧ W.cell? ⟨wo.heap.size, 3, none⟩ = some (.int .i64 xt) ∧ W.cell? ⟨wo.heap.size, 4, none⟩ = some (.int .i64 xa) ∧ W.cell? ⟨wo.heap.size, 5, none⟩ = some (.int .i64 xl) ∧ Gq wA W)
        (first | exact HS9.out _ hBD | exact HS9.out _ hqB | exact HS9.out _ hBR)
        (first | (go_at_call 12; with_reducible refine (HI1.out _ (by first | assumption | (go_split_ands; assumption))).mono ?_; rintro e wB ⟨rfl, hqB⟩) | (go_at_call 12; with_reducible refine (HI2.out _ (by first | assumption | (go_split_ands; assumption))).mono ?_; rintro e wB ⟨rfl, hqB⟩) | (go_at_call 12; with_reducible refine (HI3.out _ (by first | assumption | (go_split_ands; assumption))).mono ?_; rintro e wB ⟨rfl, hqB⟩) | (go_at_call 12; with_reducible refine (HI4.out _ (by first | assumption | (go_split_ands; assumption))).mono ?_; rintro e wB ⟨rfl, hqB⟩) | (go_at_call 12; with_reducible refine (HI5.out _ (by first | assumption | (go_split_ands; assumption))).mono ?_; rintro e wB ⟨rfl, hqB⟩))
      all_goals
        go_wp2_with fail
        go_meet
        case rel => exact ⟨by rw [← HCT.out], by show Gq _ _; assumption⟩
    case rest =>
      obtain ⟨rfl, HGC⟩ := hcut
      have b6 : wc.cell? ⟨wo.heap.size, 6, none⟩ = some (.slice xA xe.length xd) := (HKA.out.same (Same.of_below (S := fun _ => True) HGC.out) trivial).cell 6
      have HGW : Hid (Gq w1 wc) := HGA.out.trans HGC.out
      have HTF : Hid (TE = T1 ++ xe.flatMap pntT ++ [10]) := by
        show _ = _
        rw [HTT.out, cliT_eq, HT1.out]
        simp [bl]
      have HPE : Hid (∀ p ∈ xe, PntR xl p) := HCR.out.p
      have hxl : xl ≤ 100000 := by obtain ⟨_, _, _, ⟨q1, _⟩, ⟨_, q4⟩, _⟩ := HCR.out.r; simp only at q1 q4; omega
      have hl3 : ∀ j, ((xe.take j).flatMap pntT).length ≤ 5500 := fun j => by
        have h1 := take_flat_le pntT 110 xe j (fun p hp => pntT_len (HPE.out p hp) hxl)
        have : xe.length * 110 ≤ 50 * 110 := Nat.mul_le_mul_right _ hxe
        omega
      have HL3 := Lib.hid hl3
      have HBX : Hid (∀ W, Gq wc W → W.cell? ⟨wo.heap.size, 6, none⟩ = some (.slice xA xe.length xd)) := fun W hW => (HKA.out.same (Same.of_below (S := fun _ => True) (HGC.out.trans hW)) trivial).cell 6
      clear hl3 ov0 ov1 ov2 ov3 ov4 ov5 ov6 ov7 ov8 ov9 ov10 ov11 hBR hBD HS9 HI1 HI2 HI3 HI4 HI5 HCT z1 z2 z3 z4 z5 zs
      go_upto_block 2 with (fail)
      clear b6
      go_cut [5] (fun v wx => v = .string (mkB (T1 ++ xe.flatMap pntT)) ∧ Hid (Gq w1 wx))
      case first =>
        go_wp2_with fail
        go_loopw [5, 8] (fun sv jv wr => ∃ j : Nat, j ≤ xe.length ∧ jv = .int .i64 (j : Int) ∧ sv = .string (mkB (T1 ++ (xe.take j).flatMap pntT)) ∧ Hid (Gq wc wr)) (fun _ jv _ => xe.length - (intOf jv).toNat)
        case atStart => exact ⟨0, by omega, rfl, by simp, Gq.refl _⟩
        case round =>
          obtain ⟨j, hj, rfl, rfl, HJ⟩ := hrel
          have g6 := HBX.out wr HJ.out
          by_cases hje : j < xe.length
          case neg =>
            have hd2 : decide (j < xe.length) = false := by simpa using hje
            have HE : Hid (T1 ++ (xe.take j).flatMap pntT = T1 ++ xe.flatMap pntT) := by show _ = _; rw [List.take_of_length_le (by omega)]
            go_wp2_with fail
            go_meet
            case rel => exact ⟨by rw [HE.out], HGW.out.trans HJ.out⟩
          have hd2 : decide (j < xe.length) = true := by simpa using hje
          obtain ⟨bp, op, rfl, hbp, hcp⟩ := pnt_at (Gq.rd (HGW.out.trans HJ.out) HER.out) (by omega)
          obtain ⟨e0, e1, e2⟩ := hcp j hje
          have HPJ := Lib.hid (HPE.out _ (List.getElem_mem hje))
          have HTJ := Lib.hid (flat_take_snoc pntT xe j hje)
          have hlj := HL3.out j
          have hlk : (T1 ++ (xe.take j).flatMap pntT).length ≤ 1806000 := by rw [List.length_append]; omega
          obtain ⟨T3, hT3⟩ : ∃ T3, T3 = T1 ++ (xe.take j).flatMap pntT := ⟨_, rfl⟩
          have HT4 : Hid (T1 ++ (xe.take (j + 1)).flatMap pntT = T3 ++ pntT xe[j]) := by show _ = _; rw [HTJ.out, hT3, List.append_assoc]
          rw [← hT3] at hlk
          rw [← hT3]
          clear hcp HTJ hT3 hlj
          generalize xe[j] = pt at *
          obtain ⟨pa, pn, pd⟩ := pt
          simp only at e0 e1 e2
          obtain ⟨wP, hwP⟩ : ∃ wP, wP = wr.alloc (.cells #[.int .i64 pa, .string pn, .string pd] 41) := ⟨_, rfl⟩
          have HGP : Hid (Gq wc wP) := by rw [hwP]; exact HJ.out.alloc _
          have HKP : Hid (Blk wP wr.heap.size 41 [.int .i64 pa, .string pn, .string pd]) := by rw [hwP]; exact Blk.new wr _ _
          have hpa : inI64 pa := by have := HPJ.out.a; simp only at this; exact ⟨by omega, by omega⟩
          have hpl : (mkB (Lib.itoa pa)).size ≤ 21 := by rw [mkB_size]; exact itoa_le pa hpa
          have hnl : pn.size ≤ 41 := by have h1 := boT_ge pn; have h2 := HPJ.out.n; simp only at h2; omega
          have hdl : pd.size ≤ 40 := by have h1 := HPJ.out.d; simp only at h1; rw [ba_len] at h1; exact h1
          have HIP : Hid (∀ W, Gq wP W → Calls Tryz.prog 12 #[.int .i64 pa] W fun e W' => e = .returned (.string (mkB (Lib.itoa pa))) ∧ Gq wP W') := fun W hW =>
            (itoaM_any pa W hpa (HPW.out.below (HBF.out W (HGW.out.trans (HGP.out.trans hW))))).mono fun e w' h => ⟨h.1, hW.trans h.2⟩
          have HCT : Hid (mkB T3 ++ ((⟨#[32]⟩ : ByteArray) ++ mkB (Lib.itoa pa) ++ ⟨#[58]⟩ ++ pn ++ ⟨#[47]⟩ ++ pd) = mkB (T1 ++ (xe.take (j + 1)).flatMap pntT)) := by
            show _ = _
            apply ba_ext
            rw [HT4.out]
            simp [mkB, pntT, ByteArray.data_append]
          have zs2 : (mkB T3).size ≤ 1806000 := by rw [mkB_size]; exact hlk
          generalize mkB (Lib.itoa pa) = n0 at HIP HCT hpl
          obtain ⟨s2, hs2⟩ : ∃ s2, mkB T3 = s2 := ⟨_, rfl⟩
          rw [hs2] at HCT zs2 ⊢
          clear hs2
          have ov0 : ¬ (9223372036854775807 < 1 + n0.size) := by omega
          have ov1 : ¬ (9223372036854775807 < 1 + n0.size + 1) := by omega
          have ov2 : ¬ (9223372036854775807 < 1 + n0.size + 1 + pn.size) := by omega
          have ov3 : ¬ (9223372036854775807 < 1 + n0.size + 1 + pn.size + 1) := by omega
          have ov4 : ¬ (9223372036854775807 < 1 + n0.size + 1 + pn.size + 1 + pd.size) := by omega
          have ov5 : ¬ (9223372036854775807 < s2.size + (1 + n0.size + 1 + pn.size + 1 + pd.size)) := by omega
          have HS14 : Hid (∀ W, Gq wP W → W.cell? ⟨wr.heap.size, 0, none⟩ = some (.int .i64 pa) ∧ W.cell? ⟨wr.heap.size, 1, none⟩ = some (.string pn) ∧ W.cell? ⟨wr.heap.size, 2, none⟩ = some (.string pd) ∧ Gq wP W) := fun W hW => by
            have hk := HKP.out.same (Same.of_below (S := fun _ => True) hW) trivial
            exact ⟨hk.cell 0, hk.cell 1, hk.cell 2, hW⟩
          have HWP := Lib.hid hwP
          have j2 : (0 : Int) ≤ (j : Int) := by omega
          have j3 : (j : Int) < (xe.length : Int) := by omega
          have hBR : Gq wP wP := Gq.refl _
          have hBD : Gq wP wP.drew := (Gq.refl _).drew
          clear hwP HT4 HPJ hpa hlk hpl
          go_upto_region 14 with (fail)
          rw [← HWP.out]
          clear e0 e1 e2 g6
          go_region_held3 (fun W => W.cell? ⟨wr.heap.size, 0, none⟩ = some (.int .i64 pa) ∧ W.cell? ⟨wr.heap.size, 1, none⟩ = some (.string pn) ∧ W.cell? ⟨wr.heap.size, 2, none⟩ = some (.string pd) ∧ Gq wP W)
            (first | exact HS14.out _ hBD | exact HS14.out _ hqB | exact HS14.out _ hBR)
            (first | (go_at_call 12; with_reducible refine (HIP.out _ (by first | assumption | (go_split_ands; assumption))).mono ?_; rintro e wB ⟨rfl, hqB⟩))
          all_goals
            have HGN : Hid (Gq wP wB) := by show Gq _ _; assumption
            rw [HCT.out]
            go_wp2_with fail
            go_roundw
            case rel => exact ⟨j + 1, by omega, by go_num, rfl, HGP.out.trans HGN.out⟩
            case measure => simp [intOf]; omega
      case rest =>
        obtain ⟨rfl, HGD⟩ := hcut
        have zl : (mkB (T1 ++ xe.flatMap pntT)).size ≤ 1807000 := by
          rw [mkB_size, List.length_append]
          have h1 := HL3.out xe.length
          rw [List.take_length] at h1
          omega
        have HCE : Hid (mkB (T1 ++ xe.flatMap pntT) ++ ⟨#[10]⟩ = mkB (H0 ++ ((xs.map CliM.x).take (k + 1)).flatMap cliT)) := by
          show _ = _
          rw [← HTE2.out, HTF.out, mkB_app _ [10]]; rfl
        obtain ⟨s3, hs3⟩ : ∃ s3, mkB (T1 ++ xe.flatMap pntT) = s3 := ⟨_, rfl⟩
        rw [hs3] at HCE zl ⊢
        have ov0 : ¬ (9223372036854775807 < s3.size + 1) := by omega
        clear hs3
        go_wp2_with fail
        go_roundw
        case rel => exact ⟨k + 1, by omega, by go_num, by rw [← HCE.out], HGD⟩
        case measure => simp [intOf]; omega
end Go.Proofs.YtjcdifchcmldfaaGreatDoor
