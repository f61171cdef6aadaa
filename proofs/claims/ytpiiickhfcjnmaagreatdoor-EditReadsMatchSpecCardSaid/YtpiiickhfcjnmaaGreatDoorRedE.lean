/- The contract of edit.readClip. -/
import Derived.Test.YtpiiickhfcjnmaaGreatDoorRedZ
namespace Go.Proofs.YtpiiickhfcjnmaaGreatDoor
open Go.RowKit Go.Dw

set_option maxRecDepth 100000 in
set_option maxHeartbeats 8000000 in
theorem readClip_any (s : ByteArray) (w : World) (hs : s.size ≤ 1000000) :
    Calls Tryz.prog 26 #[.string s] w (ClipR w (cliW (splitB 32 s.data.toList))) := by
  obtain ⟨ip, hip, hzp0, hzp1, hzp2⟩ := info_parts (show (Tryz.prog.info? 70).map (fun i => (i.zero, i.size, i.bytes)) = some (some (.agg #[.int .i64 0, .string ByteArray.empty, .string ByteArray.empty]), 3, 40) by kernel_rfl)
  have HIP := Lib.hid (And.intro hip (And.intro hzp0 (And.intro hzp1 hzp2)))
  obtain ⟨w0, hw0⟩ : ∃ w0, w0 = w.alloc (.cells #[.string ⟨#[]⟩, .int .i64 0, .int .i64 0, .int .i64 0, .int .i64 0, .int .i64 0, .slice none 0 0] 36) := ⟨_, rfl⟩
  have HB0 : Hid (Below w.heap.size w w0) := by rw [hw0]; exact (Below.refl _ _).alloc (Nat.le_refl _) _
  have HK0 : Hid (Blk w0 w.heap.size 36 [.string ⟨#[]⟩, .int .i64 0, .int .i64 0, .int .i64 0, .int .i64 0, .int .i64 0, .slice none 0 0]) := by rw [hw0]; exact Blk.new w _ _
  have HW0 := Lib.hid hw0
  have HSP := Lib.hid (split_any32 s w0 (by omega))
  have HPL : Hid (∀ p ∈ splitB 32 s.data.toList, p.length ≤ 1000000) := fun p hp => by have := splitMem 32 _ p hp; rw [size_list] at this; omega
  have HLE := splitLe 32 s.data.toList
  rw [size_list] at HLE
  have hne := splitB_ne 32 s.data.toList
  obtain ⟨P, hP⟩ : ∃ P, splitB 32 s.data.toList = P := ⟨_, rfl⟩
  rw [hP] at HSP HPL HLE hne ⊢
  obtain ⟨RF, hRF⟩ : ∃ RF, cliW P = RF := ⟨_, rfl⟩
  have HR1 : Hid ((P.length < 7 ∨ P.getD 0 [] ≠ wClip ∨ rowE (P.getD 1 []) = false) → RF = none) := fun h => by rw [← hRF]; exact cliW_no h
  have HR2 : Hid (numsE ((P.drop 2).take 5) = none → RF = none) := fun h => by rw [← hRF]; exact cliW_num h
  have HR3 : Hid (pntsE (P.drop 7) = none → RF = none) := fun h => by rw [← hRF]; exact cliW_pnt h
  have HR4 : Hid (∀ n0 n1 n2 n3 n4 e, ¬ (P.length < 7 ∨ P.getD 0 [] ≠ wClip ∨ rowE (P.getD 1 []) = false) → numsE ((P.drop 2).take 5) = some [n0, n1, n2, n3, n4] → pntsE (P.drop 7) = some e → RF = some ⟨mkE (P.getD 1 []), n0, n1, n2, n3, n4, e⟩) := fun n0 n1 n2 n3 n4 e h h1 h2 => by rw [← hRF]; exact cliW_yes h h1 h2
  rw [hRF]
  clear hRF hP hw0 hip hzp0 hzp1 hzp2
  go_enter Tryz.func26, Tryz.ntmps26
  go_upto_region 1 with (fail)
  rw [← HW0.out]
  go_wp2_with fail
  refine HSP.out.mono ?_
  rintro e w1 ⟨b, hle, rfl, hr, hb1⟩
  have HB1 := Lib.hid (HB0.out.trans (hb1.mono HB0.out.size))
  have HK1 := Lib.hid (HK0.out.same (Same.of_below (S := fun _ => True) hb1) trivial)
  have HR := Lib.hid hr
  obtain ⟨b', off, hA, hbl, hcs⟩ := hr.at_ (by rw [sc_len]; exact List.length_pos_iff.2 hne)
  obtain ⟨rfl, rfl⟩ : b = b' ∧ off = 0 := by injection hA with hA; injection hA with h1 h2; exact ⟨h1, h2.symm⟩
  have HCS := Lib.hid hcs
  clear hr hb1 HB0 HK0 hA hcs HSP
  obtain ⟨nb, hnb⟩ : ∃ nb, decide (P.length < 7 ∨ P.getD 0 [] ≠ wClip ∨ rowE (P.getD 1 []) = false) = nb := ⟨_, rfl⟩
  have HNB := Lib.hid hnb
  clear hnb
  go_upto_region 2 with (fail)
  go_cut [35] (fun v wx => v = .bool nb ∧ Hid (Below w1.heap.size w1 wx))
  case first =>
    by_cases h7 : P.length < 7
    · have HE : Hid (nb = true) := by show _ = _; rw [← HNB.out]; exact decide_eq_true (.inl h7)
      have hd : decide ((P.length : Int) < 7) = true := by simp; omega
      go_wp2_with fail
      go_meet
      case rel => exact ⟨by rw [HE.out], Below.refl _ _⟩
    have hd : decide ((P.length : Int) < 7) = false := by simp; omega
    obtain ⟨p0, hp0⟩ : ∃ p0, P.getD 0 [] = p0 := ⟨_, rfl⟩
    obtain ⟨p1, hp1⟩ : ∃ p1, P.getD 1 [] = p1 := ⟨_, rfl⟩
    have e0 : P[0]? = some p0 := by rw [← hp0, List.getD_eq_getElem?_getD, List.getElem?_eq_getElem (by omega)]; rfl
    have e1 : P[1]? = some p1 := by rw [← hp1, List.getD_eq_getElem?_getD, List.getElem?_eq_getElem (by omega)]; rfl
    have c0 : w1.cell? ⟨b, 0, none⟩ = some (.string (mkE p0)) := HCS.out 0 _ (by simp only [sc, List.getElem?_map, e0]; rfl)
    have c1 : w1.cell? ⟨b, 1, none⟩ = some (.string (mkE p1)) := HCS.out 1 _ (by simp only [sc, List.getElem?_map, e1]; rfl)
    rw [hp0, hp1] at HNB
    have hz1 : (mkE p1).size ≤ 1000000 := by rw [mkE_size]; exact HPL.out p1 (List.mem_of_getElem? e1)
    have hl0 : (mkE p0).toList = p0 := by rw [ByteArray.toList_eq, mkE_list]
    have hl1 : (mkE p1).toList = p1 := by rw [ByteArray.toList_eq, mkE_list]
    have hdl : (mkE p1).data.toList = p1 := mkE_list p1
    have HP7 : Hid (¬ P.length < 7) := h7
    clear hp0 hp1 e0 e1
    by_cases hc : p0 = wClip
    case neg =>
      have HE : Hid (nb = true) := by show _ = _; rw [← HNB.out]; exact decide_eq_true (.inr (.inl hc))
      have g : ((mkE p0).toList == [99, 108, 105, 112]) = false := by rw [hl0, beq_eq_false_iff_ne]; exact hc
      clear hl0 hl1 hdl
      go_wp2_with fail
      go_meet
      case rel => exact ⟨by rw [HE.out], Below.refl _ _⟩
    have g : ((mkE p0).toList == [99, 108, 105, 112]) = true := by rw [hl0, hc]; rfl
    have HN2 : Hid (nb = !rowE p1) := by
      show _ = _
      rw [← HNB.out]
      have h7 := HP7.out
      cases hv : rowE p1 <;> simp [h7, hc]
    clear hl0 hc
    by_cases hz : 0 < (mkE p1).size
    case neg =>
      obtain ⟨k1, k2⟩ := emp_t hz
      have HE : Hid (nb = true) := by show _ = _; rw [HN2.out]; rw [hl1] at k2; rw [k2]; rfl
      clear k2 hl1 hdl
      go_wp2_with fail
      go_meet
      case rel => exact ⟨by rw [HE.out], Below.refl _ _⟩
    have k1 := emp_f hz
    have HTR : Hid (∀ W : World, Calls Tryz.prog 73 #[.string (mkE p1), .string nameCs] W fun e w' => e = .returned (.string ⟨(Lib.trimS p1 nameCs.data.toList).toArray⟩) ∧ Below W.heap.size W w') := fun W => by
      have := trim_any (mkE p1) W (by omega)
      rw [hdl] at this; exact this
    have HE : Hid (nb = !(Lib.trimS p1 nameCs.data.toList).isEmpty) := by
      show _ = _
      rw [HN2.out, nmTrim]
      unfold rowE
      rw [← hl1, k1]; rfl
    obtain ⟨u, hu⟩ : ∃ u, (⟨(Lib.trimS p1 nameCs.data.toList).toArray⟩ : ByteArray) = u := ⟨_, rfl⟩
    have hul : u.toList = Lib.trimS p1 nameCs.data.toList := by rw [← hu, ByteArray.toList_eq]
    rw [← hul] at HE
    rw [hu] at HTR
    clear hu hul hl1 hdl
    by_cases huz : 0 < u.size
    case neg =>
      obtain ⟨q1, q2⟩ := emp_t huz
      have HE2 : Hid (nb = false) := by show _ = _; rw [HE.out, q1]; rfl
      clear q2
      go_wp2_with fail
      refine (HTR.out w1).mono ?_
      rintro e w2 ⟨rfl, hb2⟩
      have HB2 := Lib.hid hb2
      clear hb2
      go_wp2_with fail
      go_meet
      case rel => exact ⟨by rw [HE2.out], HB2.out⟩
    have q1 := emp_f huz
    have HE2 : Hid (nb = true) := by show _ = _; rw [HE.out, q1]; rfl
    go_wp2_with fail
    refine (HTR.out w1).mono ?_
    rintro e w2 ⟨rfl, hb2⟩
    have HB2 := Lib.hid hb2
    clear hb2
    go_wp2_with fail
    go_meet
    case rel => exact ⟨by rw [HE2.out], HB2.out⟩
  case rest =>
    obtain ⟨rfl, HB2⟩ := hcut
    have HBW := Lib.hid (HB1.out.trans (HB2.out.mono HB1.out.size))
    have HKW := Lib.hid (HK1.out.same (Same.of_below (S := fun _ => True) HB2.out) trivial)
    have HCW : Hid (∀ j u, (sc P)[j]? = some u → wc.cell? ⟨b, j, none⟩ = some u) := fun j u hu => by
      have := HCS.out j u hu
      rw [Nat.zero_add] at this
      rw [HB2.out.cell (by exact hbl)]; exact this
    have hblc : b < wc.heap.size := Nat.lt_of_lt_of_le hbl HB2.out.size
    have hbw : w0.heap.size ≤ b := hle
    clear HCS HB1 HK1 HR HB2 hbl hle
    cases nb with
    | true =>
      have HE : Hid (RF = none) := HR1.out (of_decide_eq_true HNB.out)
      have f0 := HKW.out.frozen 0
      have f1 := HKW.out.frozen 1
      have f2 := HKW.out.frozen 2
      have f3 := HKW.out.frozen 3
      have f4 := HKW.out.frozen 4
      have f5 := HKW.out.frozen 5
      have f6 := HKW.out.frozen 6
      have d0 : wc.cell? ⟨w.heap.size, 0, none⟩ = some _ := HKW.out.cell 0
      have d1 : wc.cell? ⟨w.heap.size, 1, none⟩ = some _ := HKW.out.cell 1
      have d2 : wc.cell? ⟨w.heap.size, 2, none⟩ = some _ := HKW.out.cell 2
      have d3 : wc.cell? ⟨w.heap.size, 3, none⟩ = some _ := HKW.out.cell 3
      have d4 : wc.cell? ⟨w.heap.size, 4, none⟩ = some _ := HKW.out.cell 4
      have d5 : wc.cell? ⟨w.heap.size, 5, none⟩ = some _ := HKW.out.cell 5
      have d6 : wc.cell? ⟨w.heap.size, 6, none⟩ = some _ := HKW.out.cell 6
      go_wp2_with fail
      refine bodyPost_ret (v := .tuple #[clZero, .bool false]) (by simp [results, Tryz.results26, go_sem, clZero, d0, d1, d2, d3, d4, d5, d6]) rfl ?_
      refine clipR_none HE.out ?_ rfl
      refine ((((((HBW.out.setCell ?_ _).setCell ?_ _).setCell ?_ _).setCell ?_ _).setCell ?_ _).setCell ?_ _).setCell ?_ _ <;> exact Nat.le_refl _
    | false =>
      have HC0 : Hid (¬ (P.length < 7 ∨ P.getD 0 [] ≠ wClip ∨ rowE (P.getD 1 []) = false)) := of_decide_eq_false HNB.out
      have h7 : 7 ≤ P.length := by have := HC0.out; omega
      obtain ⟨N5, hN5⟩ : ∃ N5, (P.drop 2).take 5 = N5 := ⟨_, rfl⟩
      have h5 : N5.length = 5 := by rw [← hN5, List.length_take, List.length_drop]; omega
      have HN5 : Hid (∀ p ∈ N5, p.length ≤ 1000000) := fun p hp => HPL.out p (by rw [← hN5] at hp; exact List.mem_of_mem_drop (List.mem_of_mem_take hp))
      have HRD : Hid (Rd wc (some ⟨b, 2, none⟩) (sc N5)) := .inr ⟨b, 2, rfl, hblc, fun j u hu => HCW.out (2 + j) u (by
        rw [← hN5] at hu
        simp only [sc, List.getElem?_map, List.getElem?_take, List.getElem?_drop] at hu ⊢
        split at hu
        · exact hu
        · simp at hu)⟩
      have HNU := Lib.hid (readNumbers_any (some ⟨b, 2, none⟩) (P.length - 2) N5 wc HRD.out (by omega) (fun p hp => by have := HN5.out p hp; omega))
      rw [h5] at HNU
      have hlen : P.length ≤ 1000001 := by omega
      rw [hN5] at HR2 HR4
      go_wp2_with fail
      refine HNU.out.mono ?_
      rintro e w2 hq
      unfold NumsR at hq
      obtain ⟨nr, hnr⟩ : ∃ nr, numsE N5 = nr := ⟨_, rfl⟩
      rw [hnr] at hq
      obtain ⟨hb2, hq⟩ := hq
      have HBX := Lib.hid (HBW.out.trans (hb2.mono HBW.out.size))
      have HKX := Lib.hid (HKW.out.same (Same.of_below (S := fun _ => True) hb2) trivial)
      have HCX : Hid (∀ j u, (sc P)[j]? = some u → w2.cell? ⟨b, j, none⟩ = some u) := fun j u hu => by
        rw [hb2.cell (by exact hblc)]; exact HCW.out j u hu
      have hblx : b < w2.heap.size := Nat.lt_of_lt_of_le hblc hb2.size
      have hwc2 : wc.heap.size ≤ w2.heap.size := hb2.size
      clear hb2 HBW HKW HCW HRD HNU
      cases nr with
      | none =>
        subst hq
        have HE := Lib.hid (HR2.out hnr)
        clear hnr
        have f0 := HKX.out.frozen 0
        have f1 := HKX.out.frozen 1
        have f2 := HKX.out.frozen 2
        have f3 := HKX.out.frozen 3
        have f4 := HKX.out.frozen 4
        have f5 := HKX.out.frozen 5
        have f6 := HKX.out.frozen 6
        have d0 : w2.cell? ⟨w.heap.size, 0, none⟩ = some _ := HKX.out.cell 0
        have d1 : w2.cell? ⟨w.heap.size, 1, none⟩ = some _ := HKX.out.cell 1
        have d2 : w2.cell? ⟨w.heap.size, 2, none⟩ = some _ := HKX.out.cell 2
        have d3 : w2.cell? ⟨w.heap.size, 3, none⟩ = some _ := HKX.out.cell 3
        have d4 : w2.cell? ⟨w.heap.size, 4, none⟩ = some _ := HKX.out.cell 4
        have d5 : w2.cell? ⟨w.heap.size, 5, none⟩ = some _ := HKX.out.cell 5
        have d6 : w2.cell? ⟨w.heap.size, 6, none⟩ = some _ := HKX.out.cell 6
        go_wp2_with fail
        refine bodyPost_ret (v := .tuple #[clZero, .bool false]) (by simp [results, Tryz.results26, go_sem, clZero, d0, d1, d2, d3, d4, d5, d6]) rfl ?_
        refine clipR_none HE.out ?_ rfl
        refine ((((((HBX.out.setCell ?_ _).setCell ?_ _).setCell ?_ _).setCell ?_ _).setCell ?_ _).setCell ?_ _).setCell ?_ _ <;> exact Nat.le_refl _
      | some ns =>
        obtain ⟨A2, c2, rfl, hr2⟩ := hq
        have hnl := nums_len hnr
        rw [h5] at hnl
        obtain ⟨n0, n1, n2, n3, n4, rfl⟩ : ∃ n0 n1 n2 n3 n4, ns = [n0, n1, n2, n3, n4] := by
          match ns, hnl with
          | [a, b, c, d, e], _ => exact ⟨a, b, c, d, e, rfl⟩
        obtain ⟨b2, off2, hA2, hb2l, hb2s, hc2⟩ := hr2.at_ (by rw [nc_length]; simp)
        subst hA2
        have HR5 := Lib.hid (fun e h2 => HR4.out n0 n1 n2 n3 n4 e HC0.out hnr h2)
        clear hnr hnl HR4 HR2 HR1
        obtain ⟨p1, hp1⟩ : ∃ p1, P.getD 1 [] = p1 := ⟨_, rfl⟩
        have e1 : P[1]? = some p1 := by rw [← hp1, List.getD_eq_getElem?_getD, List.getElem?_eq_getElem (by omega)]; rfl
        rw [hp1] at HR5
        have q1 : w2.cell? ⟨b, 1, none⟩ = some (.string (mkE p1)) := HCX.out 1 _ (by simp only [sc, List.getElem?_map, e1]; rfl)
        have r0 : w2.cell? ⟨b2, off2, none⟩ = some (.int .i64 (n0 : Int)) := hc2 0 _ rfl
        have r1 : w2.cell? ⟨b2, off2 + 1, none⟩ = some (.int .i64 (n1 : Int)) := hc2 1 _ rfl
        have r2 : w2.cell? ⟨b2, off2 + 2, none⟩ = some (.int .i64 (n2 : Int)) := hc2 2 _ rfl
        have r3 : w2.cell? ⟨b2, off2 + 3, none⟩ = some (.int .i64 (n3 : Int)) := hc2 3 _ rfl
        have r4 : w2.cell? ⟨b2, off2 + 4, none⟩ = some (.int .i64 (n4 : Int)) := hc2 4 _ rfl
        generalize mkE p1 = nm at *
        clear hp1 e1 hc2 hr2
        simp only [List.length_cons, List.length_nil]
        have hx1 : (1 : Int) < (P.length : Int) := by omega
        go_upto_region 7 with (fail)
        have HS : Hid (∀ W, Gq w2 W → W.cell? ⟨b, 1, none⟩ = some (.string nm) ∧ W.cell? ⟨b2, off2, none⟩ = some (.int .i64 (n0 : Int)) ∧ W.cell? ⟨b2, off2 + 1, none⟩ = some (.int .i64 (n1 : Int)) ∧ W.cell? ⟨b2, off2 + 2, none⟩ = some (.int .i64 (n2 : Int)) ∧ W.cell? ⟨b2, off2 + 3, none⟩ = some (.int .i64 (n3 : Int)) ∧ W.cell? ⟨b2, off2 + 4, none⟩ = some (.int .i64 (n4 : Int)) ∧ Gq w2 W) := fun W hW => by
          rw [Below.cell hW (by exact hblx), Below.cell hW (by exact hb2s), Below.cell hW (by exact hb2s), Below.cell hW (by exact hb2s), Below.cell hW (by exact hb2s), Below.cell hW (by exact hb2s)]
          exact ⟨q1, r0, r1, r2, r3, r4, hW⟩
        have hBD : Gq w2 w2.drew := (Gq.refl _).drew
        have HK8 : Hid (Blk (w2.alloc (.cells #[.string nm, .int .i64 (n0 : Int), .int .i64 (n1 : Int), .int .i64 (n2 : Int), .int .i64 (n3 : Int), .int .i64 (n4 : Int), .slice none 0 0] 36)).drew w2.heap.size 36 [.string nm, .int .i64 (n0 : Int), .int .i64 (n1 : Int), .int .i64 (n2 : Int), .int .i64 (n3 : Int), .int .i64 (n4 : Int), .slice none 0 0]) := Blk.new w2 _ _
        have HG8 : Hid (Gq w2 (w2.alloc (.cells #[.string nm, .int .i64 (n0 : Int), .int .i64 (n1 : Int), .int .i64 (n2 : Int), .int .i64 (n3 : Int), .int .i64 (n4 : Int), .slice none 0 0] 36)).drew) := ((Gq.refl _).alloc _).drew
        go_cut [7] (fun v wx => v = .pointer (some ⟨w2.heap.size, 0, none⟩) ∧ Hid (Gq w2 wx) ∧ Hid (Blk wx w2.heap.size 36 [.string nm, .int .i64 (n0 : Int), .int .i64 (n1 : Int), .int .i64 (n2 : Int), .int .i64 (n3 : Int), .int .i64 (n4 : Int), .slice none 0 0]))
        case first =>
          go_region_held3 (fun W => W.cell? ⟨b, 1, none⟩ = some (.string nm) ∧ W.cell? ⟨b2, off2, none⟩ = some (.int .i64 (n0 : Int)) ∧ W.cell? ⟨b2, off2 + 1, none⟩ = some (.int .i64 (n1 : Int)) ∧ W.cell? ⟨b2, off2 + 2, none⟩ = some (.int .i64 (n2 : Int)) ∧ W.cell? ⟨b2, off2 + 3, none⟩ = some (.int .i64 (n3 : Int)) ∧ W.cell? ⟨b2, off2 + 4, none⟩ = some (.int .i64 (n4 : Int)) ∧ Gq w2 W)
            (first | exact HS.out _ hBD | exact HS.out _ (Gq.alloc hBD _)) (fail)
          all_goals
            go_wp2_with fail
            go_meet
            case rel => exact ⟨rfl, HG8, HK8⟩
        case rest =>
          obtain ⟨rfl, HG, HK⟩ := hcut
          clear HK8 HG8 HS hBD q1 r0 r1 r2 r3 r4
          obtain ⟨Q, hQ⟩ : ∃ Q, P.drop 7 = Q := ⟨_, rfl⟩
          have HQL : Hid (Q.length = P.length - 7) := by show _ = _; rw [← hQ, List.length_drop]
          have HQP : Hid (∀ j : Nat, P[7 + j]? = Q[j]?) := fun j => by rw [← hQ, List.getElem?_drop]
          rw [hQ] at HR5 HR3
          clear hQ
          have HCI : Hid (ClI w2 wc nm n0 n1 n2 n3 n4 none 0 []) := ⟨HK.out, World.ownsRow_nil _ _ _ _, HG.out⟩
          by_cases h77 : P.length = 7
          · have HE : Hid (RF = some ⟨nm, n0, n1, n2, n3, n4, []⟩) := HR5.out [] (by rw [List.eq_nil_of_length_eq_zero (l := Q) (by rw [HQL.out, h77])]; rfl)
            go_wp2_with fail
            go_loopw [68] (fun iv wr => iv = .int .i64 0 ∧ wr = wc) (fun _ _ => 0)
            case atStart => exact ⟨rfl, rfl⟩
            case round =>
              obtain ⟨rfl, rfl⟩ := hrel
              have HBF : Hid (Below w.heap.size w wr) := HBX.out.trans (Below.mono HCI.out.2.2 HBX.out.size)
              have HKF : Hid (Blk wr w.heap.size 36 [.string ⟨#[]⟩, .int .i64 0, .int .i64 0, .int .i64 0, .int .i64 0, .int .i64 0, .slice none 0 0]) := HKX.out.same (Same.of_below (S := fun _ => True) HCI.out.2.2) trivial
              have HKC := Lib.hid HCI.out.1
              have HRS := Lib.hid HCI.out.rds
              have f0 := HKF.out.frozen 0
              have f1 := HKF.out.frozen 1
              have f2 := HKF.out.frozen 2
              have f3 := HKF.out.frozen 3
              have f4 := HKF.out.frozen 4
              have f5 := HKF.out.frozen 5
              have f6 := HKF.out.frozen 6
              have d0 : wr.cell? ⟨w.heap.size, 0, none⟩ = some _ := HKF.out.cell 0
              have d1 : wr.cell? ⟨w.heap.size, 1, none⟩ = some _ := HKF.out.cell 1
              have d2 : wr.cell? ⟨w.heap.size, 2, none⟩ = some _ := HKF.out.cell 2
              have d3 : wr.cell? ⟨w.heap.size, 3, none⟩ = some _ := HKF.out.cell 3
              have d4 : wr.cell? ⟨w.heap.size, 4, none⟩ = some _ := HKF.out.cell 4
              have d5 : wr.cell? ⟨w.heap.size, 5, none⟩ = some _ := HKF.out.cell 5
              have d6 : wr.cell? ⟨w.heap.size, 6, none⟩ = some _ := HKF.out.cell 6
              have g0 : wr.cell? ⟨w2.heap.size, 0, none⟩ = some _ := HKC.out.cell 0
              have g1 : wr.cell? ⟨w2.heap.size, 1, none⟩ = some _ := HKC.out.cell 1
              have g2 : wr.cell? ⟨w2.heap.size, 2, none⟩ = some _ := HKC.out.cell 2
              have g3 : wr.cell? ⟨w2.heap.size, 3, none⟩ = some _ := HKC.out.cell 3
              have g4 : wr.cell? ⟨w2.heap.size, 4, none⟩ = some _ := HKC.out.cell 4
              have g5 : wr.cell? ⟨w2.heap.size, 5, none⟩ = some _ := HKC.out.cell 5
              have g6 : wr.cell? ⟨w2.heap.size, 6, none⟩ = some _ := HKC.out.cell 6
              go_wp2_with fail
              refine bodyPost_ret (v := .tuple #[CliM.v ⟨nm, n0, n1, n2, n3, n4, ⟨none, 0, []⟩⟩, .bool true]) (by simp [results, Tryz.results26, go_sem, CliM.v, Slc.v, d0, d1, d2, d3, d4, d5, d6]) rfl ?_
              refine clipR_some HE.out ?_ ?_ rfl
              · refine ((((((HBF.out.setCell ?_ _).setCell ?_ _).setCell ?_ _).setCell ?_ _).setCell ?_ _).setCell ?_ _).setCell ?_ _ <;> exact Nat.le_refl _
              · refine (RdS.same (S := fun b => w2.heap.size + 1 ≤ b) HRS.out ?_).mono fun b _ h => by have := HBX.out.size; omega
                refine ((((((Same.set _ _ _ ?_).trans (Same.set _ _ _ ?_)).trans (Same.set _ _ _ ?_)).trans (Same.set _ _ _ ?_)).trans (Same.set _ _ _ ?_)).trans (Same.set _ _ _ ?_)).trans (Same.set _ _ _ ?_) <;> exact fun h => by have := HBX.out.size; have h1 : w2.heap.size + 1 ≤ w.heap.size := h; omega
          have hx7 : (7 : Int) ≤ (P.length : Int) := by omega
          have hq7 : 0 < P.length - 7 := by omega
          go_wp2_with fail
          obtain ⟨wo, hwo⟩ : ∃ wo, wo = wc := ⟨_, rfl⟩
          subst hwo
          have HCW2 : Hid (∀ W, Gq w2 W → ∀ j (h : j < Q.length), W.cell? ⟨b, 7 + j, none⟩ = some (.string (mkE Q[j]))) := fun W hW j h => by
            rw [Below.cell hW (by exact hblx)]
            refine HCX.out _ _ ?_
            simp only [sc, List.getElem?_map]
            rw [HQP.out, List.getElem?_eq_getElem h]; rfl
          have HPQ : Hid (∀ j (h : j < Q.length), Q[j].length ≤ 1000000) := fun j h => HPL.out _ (List.mem_of_getElem? (by rw [HQP.out j, List.getElem?_eq_getElem h]))
          go_loopw [68] (fun iv wr => ∃ (k : Nat) (ps : List Pnt) (A5 : Option Addr) (c5 : Nat), k ≤ P.length - 7 ∧ iv = .int .i64 (k : Int) ∧ Hid (pntsE (Q.take k) = some ps) ∧ Hid (ClI w2 wr nm n0 n1 n2 n3 n4 A5 c5 ps)) (fun iv _ => P.length - 7 - (intOf iv).toNat)
          case atStart => exact ⟨0, [], none, 0, Nat.zero_le _, rfl, rfl, HCI⟩
          case round =>
            obtain ⟨k, ps, A5, c5, hk, rfl, HPS, HCR⟩ := hrel
            by_cases hlt : k < P.length - 7
            case neg =>
              have hd : decide (k < P.length - 7) = false := by simpa using hlt
              have HE : Hid (RF = some ⟨nm, n0, n1, n2, n3, n4, ps⟩) := HR5.out ps (by
                have := HPS.out
                rwa [List.take_of_length_le (by have := HQL.out; omega)] at this)
              have HBF : Hid (Below w.heap.size w wr) := HBX.out.trans (Below.mono HCR.out.2.2 HBX.out.size)
              have HKF : Hid (Blk wr w.heap.size 36 [.string ⟨#[]⟩, .int .i64 0, .int .i64 0, .int .i64 0, .int .i64 0, .int .i64 0, .slice none 0 0]) := HKX.out.same (Same.of_below (S := fun _ => True) HCR.out.2.2) trivial
              have HKC := Lib.hid HCR.out.1
              have HRS := Lib.hid HCR.out.rds
              have f0 := HKF.out.frozen 0
              have f1 := HKF.out.frozen 1
              have f2 := HKF.out.frozen 2
              have f3 := HKF.out.frozen 3
              have f4 := HKF.out.frozen 4
              have f5 := HKF.out.frozen 5
              have f6 := HKF.out.frozen 6
              have d0 : wr.cell? ⟨w.heap.size, 0, none⟩ = some _ := HKF.out.cell 0
              have d1 : wr.cell? ⟨w.heap.size, 1, none⟩ = some _ := HKF.out.cell 1
              have d2 : wr.cell? ⟨w.heap.size, 2, none⟩ = some _ := HKF.out.cell 2
              have d3 : wr.cell? ⟨w.heap.size, 3, none⟩ = some _ := HKF.out.cell 3
              have d4 : wr.cell? ⟨w.heap.size, 4, none⟩ = some _ := HKF.out.cell 4
              have d5 : wr.cell? ⟨w.heap.size, 5, none⟩ = some _ := HKF.out.cell 5
              have d6 : wr.cell? ⟨w.heap.size, 6, none⟩ = some _ := HKF.out.cell 6
              have g0 : wr.cell? ⟨w2.heap.size, 0, none⟩ = some _ := HKC.out.cell 0
              have g1 : wr.cell? ⟨w2.heap.size, 1, none⟩ = some _ := HKC.out.cell 1
              have g2 : wr.cell? ⟨w2.heap.size, 2, none⟩ = some _ := HKC.out.cell 2
              have g3 : wr.cell? ⟨w2.heap.size, 3, none⟩ = some _ := HKC.out.cell 3
              have g4 : wr.cell? ⟨w2.heap.size, 4, none⟩ = some _ := HKC.out.cell 4
              have g5 : wr.cell? ⟨w2.heap.size, 5, none⟩ = some _ := HKC.out.cell 5
              have g6 : wr.cell? ⟨w2.heap.size, 6, none⟩ = some _ := HKC.out.cell 6
              go_wp2_with fail
              refine bodyPost_ret (v := .tuple #[CliM.v ⟨nm, n0, n1, n2, n3, n4, ⟨A5, c5, ps⟩⟩, .bool true]) (by simp [results, Tryz.results26, go_sem, CliM.v, Slc.v, d0, d1, d2, d3, d4, d5, d6]) rfl ?_
              refine clipR_some HE.out ?_ ?_ rfl
              · refine ((((((HBF.out.setCell ?_ _).setCell ?_ _).setCell ?_ _).setCell ?_ _).setCell ?_ _).setCell ?_ _).setCell ?_ _ <;> exact Nat.le_refl _
              · refine (RdS.same (S := fun b => w2.heap.size + 1 ≤ b) HRS.out ?_).mono fun b _ h => by have := HBX.out.size; omega
                refine ((((((Same.set _ _ _ ?_).trans (Same.set _ _ _ ?_)).trans (Same.set _ _ _ ?_)).trans (Same.set _ _ _ ?_)).trans (Same.set _ _ _ ?_)).trans (Same.set _ _ _ ?_)).trans (Same.set _ _ _ ?_) <;> exact fun h => by have := HBX.out.size; have h1 : w2.heap.size + 1 ≤ w.heap.size := h; omega
            have hd : decide (k < P.length - 7) = true := by simpa using hlt
            have hkq : k < Q.length := by have := HQL.out; omega
            have c0 := HCW2.out wr HCR.out.2.2 k hkq
            have hqz : (mkE Q[k]).size ≤ 1000000 := by rw [mkE_size]; exact HPQ.out k hkq
            have HRP := Lib.hid (readPoint_any (mkE Q[k]) wr (by omega))
            rw [mkE_list] at HRP
            have HSTOP : Hid (pntE Q[k] = none → RF = none) := fun hx => by
              have e : Q = Q.take k ++ Q[k] :: Q.drop (k + 1) := by rw [← List.drop_eq_getElem_cons hkq, List.take_append_drop]
              have h2 := pnts_stop (Q.drop (k + 1)) hx (Q.take k)
              rw [← e] at h2
              exact HR3.out h2
            have HGO : Hid (∀ p, pntE Q[k] = some p → pntsE (Q.take (k + 1)) = some (ps ++ [p])) := fun p hx => by
              rw [List.take_succ_eq_append_getElem hkq]; exact pnts_snoc hx HPS.out
            have hpl : ps.length ≤ 1000001 := by have := pnts_len HPS.out; rw [List.length_take] at this; omega
            obtain ⟨rp, hrp⟩ : ∃ rp, pntE Q[k] = rp := ⟨_, rfl⟩
            rw [hrp] at HRP HSTOP HGO
            clear hrp
            generalize mkE Q[k] = sq at *
            have hix : (0 : Int) ≤ (k : Int) := by omega
            go_wp2_with fail
            refine HRP.out.mono ?_
            rintro e w3 ⟨rfl, hb3⟩
            have HC3 := Lib.hid (HCR.out.below hb3)
            clear hb3 HCR HRP c0
            cases rp with
            | none =>
              have HE := Lib.hid (HSTOP.out rfl)
              obtain ⟨w4, hw4⟩ : ∃ w4, w4 = w3.alloc (.cells #[.int .i64 0, .string ⟨#[]⟩, .string ⟨#[]⟩] 70) := ⟨_, rfl⟩
              have HG4 : Hid (Gq w2 w4) := by rw [hw4]; exact Gq.alloc HC3.out.2.2 _
              have HBF := Lib.hid (HBX.out.trans (Below.mono HG4.out HBX.out.size))
              have HKF := Lib.hid (HKX.out.same (Same.of_below (S := fun _ => True) HG4.out) trivial)
              have HW4 := Lib.hid hw4
              clear hw4
              unfold ptE
              go_upto_region 12 with (fail)
              rw [← HW4.out]
              have f0 := HKF.out.frozen 0
              have f1 := HKF.out.frozen 1
              have f2 := HKF.out.frozen 2
              have f3 := HKF.out.frozen 3
              have f4 := HKF.out.frozen 4
              have f5 := HKF.out.frozen 5
              have f6 := HKF.out.frozen 6
              have d0 : w4.cell? ⟨w.heap.size, 0, none⟩ = some _ := HKF.out.cell 0
              have d1 : w4.cell? ⟨w.heap.size, 1, none⟩ = some _ := HKF.out.cell 1
              have d2 : w4.cell? ⟨w.heap.size, 2, none⟩ = some _ := HKF.out.cell 2
              have d3 : w4.cell? ⟨w.heap.size, 3, none⟩ = some _ := HKF.out.cell 3
              have d4 : w4.cell? ⟨w.heap.size, 4, none⟩ = some _ := HKF.out.cell 4
              have d5 : w4.cell? ⟨w.heap.size, 5, none⟩ = some _ := HKF.out.cell 5
              have d6 : w4.cell? ⟨w.heap.size, 6, none⟩ = some _ := HKF.out.cell 6
              go_wp2_with fail
              refine bodyPost_ret (v := .tuple #[clZero, .bool false]) (by simp [results, Tryz.results26, go_sem, clZero, d0, d1, d2, d3, d4, d5, d6]) rfl ?_
              refine clipR_none HE.out ?_ rfl
              refine ((((((HBF.out.setCell ?_ _).setCell ?_ _).setCell ?_ _).setCell ?_ _).setCell ?_ _).setCell ?_ _).setCell ?_ _ <;> exact Nat.le_refl _
            | some p =>
              have HE := Lib.hid (HGO.out p rfl)
              obtain ⟨w4, hw4⟩ : ∃ w4, w4 = w3.alloc (.cells #[.int .i64 p.at_, .string p.n, .string p.d] 70) := ⟨_, rfl⟩
              have HC4 : Hid (ClI w2 w4 nm n0 n1 n2 n3 n4 A5 c5 ps) := HC3.out.below (by rw [hw4]; exact (Gq.refl _).alloc _)
              have HKP : Hid (Blk w4 w3.heap.size 70 [.int .i64 p.at_, .string p.n, .string p.d]) := by rw [hw4]; exact Blk.new w3 _ _
              have HW4 := Lib.hid hw4
              clear hw4
              obtain ⟨pa, pn, pd⟩ := p
              unfold ptE
              simp only
              go_upto_region 12 with (fail)
              rw [← HW4.out]
              have k0 : w4.cell? ⟨w3.heap.size, 0, none⟩ = some _ := HKP.out.cell 0
              have k1 : w4.cell? ⟨w3.heap.size, 1, none⟩ = some _ := HKP.out.cell 1
              have k2 : w4.cell? ⟨w3.heap.size, 2, none⟩ = some _ := HKP.out.cell 2
              have s6 : w4.cell? ⟨w2.heap.size, 6, none⟩ = some _ := HC4.out.1.cell 6
              have hs4 := Below.size HC4.out.2.2
              have HOA : Hid ((w4.alloc (.cells #[.int .i64 pa, .string pn, .string pd] 70)).ownsRow (w2.heap.size + 1) 70 3 (.slice A5 ps.length c5) ps.length (ps.flatMap Pnt.cs)) := HC4.out.2.1.alloc _
              have hlt4 := HC4.out.1.lt
              clear HSTOP HGO
              go_wp2_with (at_builtin; refine wpList_append_lies _ rfl _ _ 34 rfl (w2.heap.size + 1) 70 ip _ 3 40 Tryz.underlying34 HIP.out.1 HIP.out.2.1 HIP.out.2.2.1 HIP.out.2.2.2 rfl (by decide) _ _ _ rfl HOA.out ⟨w4.heap.size, 0, none⟩ 1 1 [.int .i64 pa, .string pn, .string pd] (by rfl) (by rfl) (World.news_of_block (cs := #[.int .i64 pa, .string pn, .string pd]) (t := 70) (fr := (0, 0)) (heap_alloc_new w4 _)) (by simp [Value.oneCell']) (by decide) (by unfold maxLen; omega) (by omega) (by simp; omega) (w4.heap.size + 1) (by simp) ?_; intro g2 cap2 w5 hown2 hgrow2 hat2 hlt2; have HSN := Lib.hid (cli_snoc (p := ⟨pa, pn, pd⟩) HC4.out hown2 hgrow2); have z6 : w5.cell? ⟨w2.heap.size, 6, none⟩ = some _ := HSN.out.1.cell 6; have zf6 := HSN.out.1.frozen 6; have HC5 := Lib.hid HSN.out.2; clear hown2 hgrow2 hat2 hlt2 HOA HSN)
              go_roundw
              case rel => exact ⟨k + 1, ps ++ [⟨pa, pn, pd⟩], _, _, by omega, by go_num, HE, HC5⟩
              case measure => simp [intOf]; omega
end Go.Proofs.YtpiiickhfcjnmaaGreatDoor
