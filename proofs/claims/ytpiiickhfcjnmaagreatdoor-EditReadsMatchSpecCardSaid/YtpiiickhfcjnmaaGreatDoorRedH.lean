/- The contract of edit.Read. -/
import Derived.Test.YtpiiickhfcjnmaaGreatDoorRedG
import Derived.Test.YtpiiickhfcjnmaaGreatDoorChkA
namespace Go.Proofs.YtpiiickhfcjnmaaGreatDoor
open Go.RowKit Go.Dw

def tSizeE (v : Value) : Nat := match v with | .string t => t.size | _ => 0
theorem finE_ok {e : Edt} (h : ediF isNm 1000000 e = 0) : finE e = (e, 0, 0) := by unfold finE; rw [if_pos h]
theorem finE_bad {e : Edt} (h : ediF isNm 1000000 e ≠ 0) : finE e = (e0, 0, ediF isNm 1000000 e) := by unfold finE; rw [if_neg h]
set_option maxRecDepth 100000 in
set_option maxHeartbeats 8000000 in
theorem readE_any (s : ByteArray) (w : World) :
    Calls Tryz.prog 9 #[.string s] w (RedR w (readE s.data.toList)) := by
  obtain ⟨ic, hic, hzc0, hzc1, hzc2⟩ := info_parts (show (Tryz.prog.info? 36).map (fun i => (i.zero, i.size, i.bytes)) = some (some (.agg #[.string ByteArray.empty, .int .i64 0, .int .i64 0, .int .i64 0, .int .i64 0, .int .i64 0, .slice none 0 0]), 7, 80) by kernel_rfl)
  have HIC := Lib.hid (And.intro hic (And.intro hzc0 (And.intro hzc1 hzc2)))
  obtain ⟨w0, hw0⟩ : ∃ w0, w0 = w.alloc (.cells #[.int .i64 0, .int .i64 0, .slice none 0 0] 24) := ⟨_, rfl⟩
  have HB0 : Hid (Below w.heap.size w w0) := by rw [hw0]; exact (Below.refl _ _).alloc (Nat.le_refl _) _
  have HK0 : Hid (Blk w0 w.heap.size 24 [.int .i64 0, .int .i64 0, .slice none 0 0]) := by rw [hw0]; exact Blk.new w _ _
  have HW0 := Lib.hid hw0
  clear hw0 hic hzc0 hzc1 hzc2
  obtain ⟨RF, hRF⟩ : ∃ RF, readE s.data.toList = RF := ⟨_, rfl⟩
  by_cases hbig : 500000 < s.size
  · have HE : Hid (RF = (e0, 0, 2)) := by show _ = _; rw [← hRF]; unfold readE; rw [if_pos (by rw [size_list]; exact hbig)]
    have HGR : Hid (Gq w0 w0) := Gq.refl _
    rw [hRF]
    clear hRF
    go_enter Tryz.func9, Tryz.ntmps9
    go_upto_region 1 with (fail)
    rw [← HW0.out]
    have HBF : Hid (Below w.heap.size w w0) := HB0.out.trans (Below.mono HGR.out HB0.out.size)
    have HKF := Lib.hid (HK0.out.same (Same.of_below (S := fun _ => True) HGR.out) trivial)
    have f0 := HKF.out.frozen 0
    have f1 := HKF.out.frozen 1
    have f2 := HKF.out.frozen 2
    have d0 : w0.cell? ⟨w.heap.size, 0, none⟩ = some _ := HKF.out.cell 0
    have d1 : w0.cell? ⟨w.heap.size, 1, none⟩ = some _ := HKF.out.cell 1
    have d2 : w0.cell? ⟨w.heap.size, 2, none⟩ = some _ := HKF.out.cell 2
    go_wp2_with fail
    refine bodyPost_ret (v := .tuple #[.agg #[.int .i64 0, .int .i64 0, .slice none 0 0], .int .i64 0, .int .i64 2]) (by simp [results, Tryz.results9, go_sem, d0, d1, d2]) rfl ?_
    refine redR_bad HE.out ?_ rfl
    refine ((HBF.out.setCell ?_ _).setCell ?_ _).setCell ?_ _ <;> exact Nat.le_refl _
  have HR0 : Hid (RF = rdG (s.size + 1) s.data.toList 1 Go.Proofs.YtpiiickhfcjnmaaGreatDoor.e0) := by show _ = _; rw [← hRF]; unfold readE; rw [if_neg (by rw [size_list]; exact hbig), size_list]
  rw [hRF]
  clear hRF
  obtain ⟨w1, hw1⟩ : ∃ w1, w1 = w0.alloc (.cells #[.int .i64 0, .int .i64 0, .slice none 0 0] 24) := ⟨_, rfl⟩
  have HI1 : Hid (EdI w0 w1 0 0 none 0 []) := by
    rw [hw1]
    exact ⟨Blk.new w0 _ _, World.ownsRow_nil _ _ _ _, (Gq.refl _).alloc _, fun c hc => by cases hc⟩
  have HW1 := Lib.hid hw1
  clear hw1
  go_enter Tryz.func9, Tryz.ntmps9
  go_upto_region 1 with (fail)
  rw [← HW0.out]
  go_upto_region 4 with (fail)
  rw [← HW1.out]
  go_wp2_with fail
  go_loopw [0, 6] (fun tv iv wr => ∃ (t : ByteArray) (i f : Nat) (r tk : Int) (A : Option Addr) (c : Nat) (L : List CliM), tv = .string t ∧ iv = .int .i64 (i : Int) ∧ 1 ≤ i ∧ t.size ≤ s.size ∧ i + t.size ≤ s.size + 1 ∧ L.length + t.size ≤ s.size ∧ t.size < f ∧ Hid (inI64 r ∧ inI64 tk) ∧ Hid (RF = rdG f t.data.toList i ⟨r, tk, L.map CliM.x⟩) ∧ Hid (EdI w0 wr r tk A c L)) (fun tv _ _ => tSizeE tv)
  case atStart => exact ⟨s, 1, s.size + 1, 0, 0, none, 0, [], rfl, rfl, Nat.le_refl _, Nat.le_refl _, by omega, by simp, by omega, ⟨⟨by decide, by decide⟩, ⟨by decide, by decide⟩⟩, HR0, HI1⟩
  case round =>
    obtain ⟨t, i, f, r, tk, A, c, L, rfl, rfl, hi1, hts, hit, hlt, htf, HRT, HG, HI⟩ := hrel
    have hs0 : w.heap.size < w0.heap.size := HK0.out.lt
    by_cases hex : i ≠ 1 ∧ t.size = 0
    · obtain ⟨hx1, hx2⟩ := hex
      obtain ⟨e1, e2⟩ := emp_t (show ¬ 0 < t.size by omega)
      have hix : ((i : Int) == 1) = false := by simp; omega
      have HEND : Hid (RF = finE ⟨r, tk, L.map CliM.x⟩) := by show _ = _; rw [HG.out, rdG_end hx1 (by rw [size_list]; exact hx2)]
      have HOK := Lib.hid (HI.out.ok HRT.out.1 HRT.out.2 (by omega))
      have HCK := Lib.hid (check_any ⟨r, tk, ⟨A, c, L⟩⟩ wr HOK.out)
      obtain ⟨ff, hff⟩ : ∃ ff, ediF isNm 1000000 (EdtM.x ⟨r, tk, ⟨A, c, L⟩⟩) = ff := ⟨_, rfl⟩
      rw [hff] at HCK
      have HFF : Hid (ediF isNm 1000000 ⟨r, tk, L.map CliM.x⟩ = ff) := hff
      clear hff e2
      simp only [EdtM.v, Slc.v] at HCK
      have k0 : wr.cell? ⟨w0.heap.size, 0, none⟩ = some _ := HI.out.1.cell 0
      have k1 : wr.cell? ⟨w0.heap.size, 1, none⟩ = some _ := HI.out.1.cell 1
      have k2 : wr.cell? ⟨w0.heap.size, 2, none⟩ = some _ := HI.out.1.cell 2
      go_wp2_with fail
      refine HCK.out.mono ?_
      rintro e w2 ⟨rfl, hb2⟩
      have HI2 := Lib.hid (HI.out.below hb2)
      have HG2 : Hid (Gq w0 w2) := HI2.out.2.2.1
      have HOK2 := Lib.hid (HOK.out.below hb2)
      clear hb2 k0 k1 k2
      by_cases hz : ff = 0
      · have HE : Hid (RF = (⟨r, tk, L.map CliM.x⟩, 0, 0)) := by show _ = _; rw [HEND.out, finE_ok (by rw [HFF.out]; exact hz)]
        subst hz
        have k0 : w2.cell? ⟨w0.heap.size, 0, none⟩ = some _ := HI2.out.1.cell 0
        have k1 : w2.cell? ⟨w0.heap.size, 1, none⟩ = some _ := HI2.out.1.cell 1
        have k2 : w2.cell? ⟨w0.heap.size, 2, none⟩ = some _ := HI2.out.1.cell 2
        have HBF : Hid (Below w.heap.size w w2) := HB0.out.trans (Below.mono HG2.out HB0.out.size)
        have HKF := Lib.hid (HK0.out.same (Same.of_below (S := fun _ => True) HG2.out) trivial)
        have f0 := HKF.out.frozen 0
        have f1 := HKF.out.frozen 1
        have f2 := HKF.out.frozen 2
        have d0 : w2.cell? ⟨w.heap.size, 0, none⟩ = some _ := HKF.out.cell 0
        have d1 : w2.cell? ⟨w.heap.size, 1, none⟩ = some _ := HKF.out.cell 1
        have d2 : w2.cell? ⟨w.heap.size, 2, none⟩ = some _ := HKF.out.cell 2
        go_wp2_with fail
        refine bodyPost_ret (v := .tuple #[EdtM.v ⟨r, tk, ⟨A, c, L⟩⟩, .int .i64 0, .int .i64 0]) (by simp [results, Tryz.results9, go_sem, EdtM.v, Slc.v, d0, d1, d2]) rfl ?_
        have HOK3 : EdtOk (((w2.setCell ⟨w.heap.size, 0, none⟩ (.int .i64 r)).setCell ⟨w.heap.size, 1, none⟩ (.int .i64 tk)).setCell ⟨w.heap.size, 2, none⟩ (.slice A L.length c)) ⟨r, tk, ⟨A, c, L⟩⟩ := by
          have hsm : Same (fun b => w0.heap.size ≤ b) w2 (((w2.setCell ⟨w.heap.size, 0, none⟩ (.int .i64 r)).setCell ⟨w.heap.size, 1, none⟩ (.int .i64 tk)).setCell ⟨w.heap.size, 2, none⟩ (.slice A L.length c)) := by
            refine ((Same.set _ _ _ ?_).trans (Same.set _ _ _ ?_)).trans (Same.set _ _ _ ?_) <;> exact fun hh => by have h1 : w0.heap.size ≤ w.heap.size := hh; omega
          refine ⟨HOK2.out.rate, HOK2.out.tracks, HOK2.out.cl, ?_, fun x hx => ?_⟩
          · have hq : RdS (fun b => w0.heap.size ≤ b) w2 A (L.flatMap CliM.cs) := by
              rcases HI2.out.2.1.2 with ⟨h0, h1⟩ | ⟨g, cap, cur, hv, hb, hg, _⟩
              · exact .inl (List.eq_nil_of_length_eq_zero (by rw [HI2.out.2.1.1, h1]))
              · injection hv with hv1 hv2 hv3
                subst hv1
                refine .inr ⟨g, 0, rfl, by omega, (Array.getElem?_eq_some_iff.1 hg).1, fun j u hu => ?_⟩
                have := HI2.out.2.1.cells (g := g) rfl j u hu
                have hadd : (⟨g, 0, none⟩ : Addr).add j = ⟨g, 0 + j, none⟩ := by unfold Addr.add; split <;> simp_all
                rw [← hadd]; exact this
            exact (hq.same hsm).rd
          · have h1 := HOK2.out.co x hx
            obtain ⟨h2, _⟩ := HI2.out.2.2.2 x hx
            exact ⟨h1.m, h1.ch, h1.fr, h1.tr, h1.at_, h1.ln, h1.el, ((h2.mono (S' := fun b => w0.heap.size ≤ b) (fun b _ hh => by omega)).same hsm).rd, h1.eo⟩
        refine redR_ok ⟨r, tk, ⟨A, c, L⟩⟩ HE.out ?_ HOK3 rfl
        refine ((HBF.out.setCell ?_ _).setCell ?_ _).setCell ?_ _ <;> exact Nat.le_refl _
      · have HE : Hid (RF = (Go.Proofs.YtpiiickhfcjnmaaGreatDoor.e0, 0, ff)) := by show _ = _; rw [HEND.out, finE_bad (by rw [HFF.out]; exact hz), HFF.out]
        have hzb : (ff != 0) = true := by simpa using hz
        clear hz
        have HBF : Hid (Below w.heap.size w w2) := HB0.out.trans (Below.mono HG2.out HB0.out.size)
        have HKF := Lib.hid (HK0.out.same (Same.of_below (S := fun _ => True) HG2.out) trivial)
        have f0 := HKF.out.frozen 0
        have f1 := HKF.out.frozen 1
        have f2 := HKF.out.frozen 2
        have d0 : w2.cell? ⟨w.heap.size, 0, none⟩ = some _ := HKF.out.cell 0
        have d1 : w2.cell? ⟨w.heap.size, 1, none⟩ = some _ := HKF.out.cell 1
        have d2 : w2.cell? ⟨w.heap.size, 2, none⟩ = some _ := HKF.out.cell 2
        go_wp2_with fail
        refine bodyPost_ret (v := .tuple #[.agg #[.int .i64 0, .int .i64 0, .slice none 0 0], .int .i64 0, .int .i64 ff]) (by simp [results, Tryz.results9, go_sem, d0, d1, d2]) rfl ?_
        refine redR_bad HE.out ?_ rfl
        refine ((HBF.out.setCell ?_ _).setCell ?_ _).setCell ?_ _ <;> exact Nat.le_refl _
    have hin : i = 1 ∨ t.data.toList.length ≠ 0 := by rw [size_list]; omega
    obtain ⟨hq1, hq2, hq3⟩ := rdG_cut (f := f) (i := i) (t := t.data.toList) (e := ⟨r, tk, L.map CliM.x⟩) (by rw [size_list]; exact htf) hin
    rw [← HG.out] at hq1 hq2
    have HQ1 := Lib.hid hq1
    have HQ2 := Lib.hid hq2
    have HQ3 : Hid (∀ e', (cutE 10 t.data.toList).2.2 = true → stepE i (cutE 10 t.data.toList).1 ⟨r, tk, L.map CliM.x⟩ = some e' → RF = rdG (f - 1) (cutE 10 t.data.toList).2.1 (i + 1) e' ∧ (cutE 10 t.data.toList).2.1.length < t.size) := fun e' h1 h2 => by
      have := hq3 e' h1 h2
      rw [← HG.out, size_list] at this
      exact this
    have HCT : Hid (∀ W, Calls Tryz.prog 23 #[.string t, .string ⟨#[10]⟩] W fun e w' => e = .returned (cutW 10 t) ∧ ∃ n, w' = W.drewN n) := fun W => by
      rw [← cut10W]; exact str_Cut10 t W (by omega)
    unfold cutW at HCT
    have hle := cutE_le 10 t.data.toList
    rw [size_list] at hle
    clear hq1 hq2 hq3
    obtain ⟨ln, hln⟩ : ∃ x, (cutE 10 t.data.toList).1 = x := ⟨_, rfl⟩
    obtain ⟨rs, hrs⟩ : ∃ x, (cutE 10 t.data.toList).2.1 = x := ⟨_, rfl⟩
    obtain ⟨ok, hok⟩ : ∃ x, (cutE 10 t.data.toList).2.2 = x := ⟨_, rfl⟩
    rw [hln, hrs, hok] at HCT HQ3
    rw [hln] at HQ2
    rw [hok] at HQ1
    rw [hln, hrs] at hle
    clear hln hrs hok
    have hlz : (mkE ln).size ≤ 500000 := by rw [mkE_size]; omega
    by_cases hi : i = 1
    · subst hi
      have HZ : Hid (splitB 32 (mkE ln).data.toList = splitB 32 ln) := by show _ = _; rw [mkE_list]
      obtain ⟨P, hP⟩ : ∃ P, splitB 32 ln = P := ⟨_, rfl⟩
      have HHN : Hid (hdW P = none → RF = (Go.Proofs.YtpiiickhfcjnmaaGreatDoor.e0, 1, 10)) := fun h => HQ2.out (by unfold stepE; rw [if_pos rfl, hP, h]; rfl)
      have HHY : Hid (∀ a b, ok = true → hdW P = some (a, b) → RF = rdG (f - 1) rs 2 ⟨(a : Int), (b : Int), L.map CliM.x⟩ ∧ rs.length < t.size) := fun a b h1 h2 => HQ3.out _ h1 (by unfold stepE; rw [if_pos rfl, hP, h2]; rfl)
      have HHO : Hid (ok = false → RF = (Go.Proofs.YtpiiickhfcjnmaaGreatDoor.e0, 1, 10)) := HQ1.out
      have hne := splitB_ne 32 ln
      have hlen := splitLe 32 ln
      have HPM : Hid (∀ p ∈ splitB 32 ln, p.length ≤ ln.length) := fun p hp => splitMem 32 ln p hp
      rw [hP] at hne hlen HPM
      have HSP : Hid (∀ W, Calls Tryz.prog 24 #[.string (mkE ln), .string ⟨#[32]⟩] W (SResC W P)) := fun W => by
        have := split_any32 (mkE ln) W (by omega)
        rw [HZ.out, hP] at this
        exact this
      clear hP HQ1 HQ2 HQ3 HZ hin
      have hln2 : ln.length ≤ 500000 := by omega
      go_wp2_with fail
      refine (HCT.out _).mono ?_
      rintro e w2 ⟨rfl, n2, hw2⟩
      have HI2 : Hid (EdI w0 w2 r tk A c L) := HI.out.below (by rw [hw2]; exact below_drewN (Below.refl _ _) n2)
      clear hw2
      go_wp2_with fail
      refine (HSP.out w2).mono ?_
      rintro e w3 ⟨b, hle3, rfl, hr3, hb3⟩
      have HI3 := Lib.hid (HI2.out.below hb3)
      obtain ⟨b', off, hA3, hbl, hcs⟩ := hr3.at_ (by rw [sc_len]; exact List.length_pos_iff.2 hne)
      obtain ⟨rfl, rfl⟩ : b = b' ∧ off = 0 := by injection hA3 with hA3; injection hA3 with h1 h2; exact ⟨h1, h2.symm⟩
      have HCS : Hid (∀ W, Gq w3 W → ∀ (j : Nat) u, (sc P)[j]? = some u → W.cell? ⟨b, j, none⟩ = some u) := fun W hW j u hu => by
        rw [Below.cell hW (by exact hbl)]
        have := hcs j u hu
        rw [Nat.zero_add] at this
        exact this
      clear hb3 hr3 hA3 hcs HSP HCT hle3
      have hp0 : 0 < P.length := List.length_pos_iff.2 hne
      obtain ⟨p0, hp0e⟩ : ∃ p0, P.getD 0 [] = p0 := ⟨_, rfl⟩
      have HP0 : Hid (P.getD 0 [] = p0) := hp0e
      have HC0 : Hid (∀ W, Gq w3 W → W.cell? ⟨b, 0, none⟩ = some (.string (mkE p0))) := fun W hW => HCS.out W hW 0 _ (by
        have e0 : P[0]? = some p0 := by rw [← hp0e, List.getD_eq_getElem?_getD, List.getElem?_eq_getElem (by omega)]; rfl
        simp only [sc, List.getElem?_map, e0]; rfl)
      clear hp0e
      have hx0 : (0 : Int) < (P.length : Int) := by omega
      have hx1 : (1 : Int) ≤ (P.length : Int) := by omega
      by_cases hP1 : P.length = 1
      · have HE1 : Hid (RF = (Go.Proofs.YtpiiickhfcjnmaaGreatDoor.e0, 1, 10)) := HHN.out (hdW_no (.inr (.inr (by omega))))
        go_wp2_with fail
        refine (readNumbers_any _ _ [] w3 (.inl rfl) (by simp) (by simp)).mono ?_
        rintro e w4 hq
        obtain ⟨hb4, A4, c4, rfl, _⟩ := hq
        have HG4 : Hid (Gq w0 w4) := HI3.out.2.2.1.trans hb4
        have c0 := HC0.out w4 hb4
        clear hb4
        simp only [List.length_nil]
        cases ok with
        | false =>
          have HBF : Hid (Below w.heap.size w w4) := HB0.out.trans (Below.mono HG4.out HB0.out.size)
          have HKF := Lib.hid (HK0.out.same (Same.of_below (S := fun _ => True) HG4.out) trivial)
          have f0 := HKF.out.frozen 0
          have f1 := HKF.out.frozen 1
          have f2 := HKF.out.frozen 2
          have d0 : w4.cell? ⟨w.heap.size, 0, none⟩ = some _ := HKF.out.cell 0
          have d1 : w4.cell? ⟨w.heap.size, 1, none⟩ = some _ := HKF.out.cell 1
          have d2 : w4.cell? ⟨w.heap.size, 2, none⟩ = some _ := HKF.out.cell 2
          go_wp2_with fail
          refine bodyPost_ret (v := .tuple #[.agg #[.int .i64 0, .int .i64 0, .slice none 0 0], .int .i64 1, .int .i64 10]) (by simp [results, Tryz.results9, go_sem, d0, d1, d2]) rfl ?_
          refine redR_bad HE1.out ?_ rfl
          refine ((HBF.out.setCell ?_ _).setCell ?_ _).setCell ?_ _ <;> exact Nat.le_refl _
        | true =>
          by_cases hc : p0 = wEdit
          case neg =>
            have g : ((mkE p0).toList == [101, 100, 105, 116]) = false := by rw [ByteArray.toList_eq, mkE_list, beq_eq_false_iff_ne]; exact hc
            clear hc
            have HBF : Hid (Below w.heap.size w w4) := HB0.out.trans (Below.mono HG4.out HB0.out.size)
            have HKF := Lib.hid (HK0.out.same (Same.of_below (S := fun _ => True) HG4.out) trivial)
            have f0 := HKF.out.frozen 0
            have f1 := HKF.out.frozen 1
            have f2 := HKF.out.frozen 2
            have d0 : w4.cell? ⟨w.heap.size, 0, none⟩ = some _ := HKF.out.cell 0
            have d1 : w4.cell? ⟨w.heap.size, 1, none⟩ = some _ := HKF.out.cell 1
            have d2 : w4.cell? ⟨w.heap.size, 2, none⟩ = some _ := HKF.out.cell 2
            go_wp2_with fail
            refine bodyPost_ret (v := .tuple #[.agg #[.int .i64 0, .int .i64 0, .slice none 0 0], .int .i64 1, .int .i64 10]) (by simp [results, Tryz.results9, go_sem, d0, d1, d2]) rfl ?_
            refine redR_bad HE1.out ?_ rfl
            refine ((HBF.out.setCell ?_ _).setCell ?_ _).setCell ?_ _ <;> exact Nat.le_refl _
          have g : ((mkE p0).toList == [101, 100, 105, 116]) = true := by rw [ByteArray.toList_eq, mkE_list, hc]; rfl
          have HCC : Hid (p0 = wEdit) := hc
          clear hc
          have HBF : Hid (Below w.heap.size w w4) := HB0.out.trans (Below.mono HG4.out HB0.out.size)
          have HKF := Lib.hid (HK0.out.same (Same.of_below (S := fun _ => True) HG4.out) trivial)
          have f0 := HKF.out.frozen 0
          have f1 := HKF.out.frozen 1
          have f2 := HKF.out.frozen 2
          have d0 : w4.cell? ⟨w.heap.size, 0, none⟩ = some _ := HKF.out.cell 0
          have d1 : w4.cell? ⟨w.heap.size, 1, none⟩ = some _ := HKF.out.cell 1
          have d2 : w4.cell? ⟨w.heap.size, 2, none⟩ = some _ := HKF.out.cell 2
          go_wp2_with fail
          refine bodyPost_ret (v := .tuple #[.agg #[.int .i64 0, .int .i64 0, .slice none 0 0], .int .i64 1, .int .i64 10]) (by simp [results, Tryz.results9, go_sem, d0, d1, d2]) rfl ?_
          refine redR_bad HE1.out ?_ rfl
          refine ((HBF.out.setCell ?_ _).setCell ?_ _).setCell ?_ _ <;> exact Nat.le_refl _
      have hq1 : ¬ P.length = 1 := hP1
      obtain ⟨N1, hN1⟩ : ∃ N1, P.drop 1 = N1 := ⟨_, rfl⟩
      have h1l : N1.length = P.length - 1 := by rw [← hN1, List.length_drop]
      have HRD : Hid (Rd w3 (some ⟨b, 1, none⟩) (sc N1)) := .inr ⟨b, 1, rfl, hbl, fun j u hu => HCS.out w3 (Gq.refl _) (1 + j) u (by
        rw [← hN1] at hu
        simp only [sc, List.getElem?_map, List.getElem?_drop] at hu ⊢
        exact hu)⟩
      have HNU := Lib.hid (readNumbers_any (some ⟨b, 1, none⟩) (P.length - 1) N1 w3 HRD.out (by omega) (fun p hp => by
        have := HPM.out p (by rw [← hN1] at hp; exact List.mem_of_mem_drop hp)
        omega))
      rw [h1l] at HNU
      have HHN2 : Hid (numsE N1 = none → RF = (Go.Proofs.YtpiiickhfcjnmaaGreatDoor.e0, 1, 10)) := fun h => HHN.out (hdW_no (.inr (.inl (by rw [hN1]; exact h))))
      have HHY2 : Hid (∀ a b, ok = true → P.getD 0 [] = wEdit → P.length = 3 → numsE N1 = some [a, b] → RF = rdG (f - 1) rs 2 ⟨(a : Int), (b : Int), L.map CliM.x⟩ ∧ rs.length < t.size) := fun a b h1 h2 h3 h4 => HHY.out a b h1 (hdW_yes h2 h3 (by rw [hN1]; exact h4))
      have H1L : Hid (N1.length = P.length - 1) := h1l
      clear hN1 h1l HRD
      go_wp2_with fail
      refine HNU.out.mono ?_
      rintro e w4 hq
      unfold NumsR at hq
      obtain ⟨nr, hnr⟩ : ∃ nr, numsE N1 = nr := ⟨_, rfl⟩
      rw [hnr] at hq
      obtain ⟨hb4, hq⟩ := hq
      have HI4 := Lib.hid (HI3.out.below hb4)
      have HG4 : Hid (Gq w0 w4) := HI4.out.2.2.1
      have c0 := HC0.out w4 hb4
      clear hb4 HNU
      cases nr with
      | none =>
        subst hq
        have HE1 := Lib.hid (HHN2.out hnr)
        clear hnr
        cases ok with
        | false =>
          have HBF : Hid (Below w.heap.size w w4) := HB0.out.trans (Below.mono HG4.out HB0.out.size)
          have HKF := Lib.hid (HK0.out.same (Same.of_below (S := fun _ => True) HG4.out) trivial)
          have f0 := HKF.out.frozen 0
          have f1 := HKF.out.frozen 1
          have f2 := HKF.out.frozen 2
          have d0 : w4.cell? ⟨w.heap.size, 0, none⟩ = some _ := HKF.out.cell 0
          have d1 : w4.cell? ⟨w.heap.size, 1, none⟩ = some _ := HKF.out.cell 1
          have d2 : w4.cell? ⟨w.heap.size, 2, none⟩ = some _ := HKF.out.cell 2
          go_wp2_with fail
          refine bodyPost_ret (v := .tuple #[.agg #[.int .i64 0, .int .i64 0, .slice none 0 0], .int .i64 1, .int .i64 10]) (by simp [results, Tryz.results9, go_sem, d0, d1, d2]) rfl ?_
          refine redR_bad HE1.out ?_ rfl
          refine ((HBF.out.setCell ?_ _).setCell ?_ _).setCell ?_ _ <;> exact Nat.le_refl _
        | true =>
          by_cases hc : p0 = wEdit
          case neg =>
            have g : ((mkE p0).toList == [101, 100, 105, 116]) = false := by rw [ByteArray.toList_eq, mkE_list, beq_eq_false_iff_ne]; exact hc
            clear hc
            have HBF : Hid (Below w.heap.size w w4) := HB0.out.trans (Below.mono HG4.out HB0.out.size)
            have HKF := Lib.hid (HK0.out.same (Same.of_below (S := fun _ => True) HG4.out) trivial)
            have f0 := HKF.out.frozen 0
            have f1 := HKF.out.frozen 1
            have f2 := HKF.out.frozen 2
            have d0 : w4.cell? ⟨w.heap.size, 0, none⟩ = some _ := HKF.out.cell 0
            have d1 : w4.cell? ⟨w.heap.size, 1, none⟩ = some _ := HKF.out.cell 1
            have d2 : w4.cell? ⟨w.heap.size, 2, none⟩ = some _ := HKF.out.cell 2
            go_wp2_with fail
            refine bodyPost_ret (v := .tuple #[.agg #[.int .i64 0, .int .i64 0, .slice none 0 0], .int .i64 1, .int .i64 10]) (by simp [results, Tryz.results9, go_sem, d0, d1, d2]) rfl ?_
            refine redR_bad HE1.out ?_ rfl
            refine ((HBF.out.setCell ?_ _).setCell ?_ _).setCell ?_ _ <;> exact Nat.le_refl _
          have g : ((mkE p0).toList == [101, 100, 105, 116]) = true := by rw [ByteArray.toList_eq, mkE_list, hc]; rfl
          have HCC : Hid (p0 = wEdit) := hc
          clear hc
          have HBF : Hid (Below w.heap.size w w4) := HB0.out.trans (Below.mono HG4.out HB0.out.size)
          have HKF := Lib.hid (HK0.out.same (Same.of_below (S := fun _ => True) HG4.out) trivial)
          have f0 := HKF.out.frozen 0
          have f1 := HKF.out.frozen 1
          have f2 := HKF.out.frozen 2
          have d0 : w4.cell? ⟨w.heap.size, 0, none⟩ = some _ := HKF.out.cell 0
          have d1 : w4.cell? ⟨w.heap.size, 1, none⟩ = some _ := HKF.out.cell 1
          have d2 : w4.cell? ⟨w.heap.size, 2, none⟩ = some _ := HKF.out.cell 2
          go_wp2_with fail
          refine bodyPost_ret (v := .tuple #[.agg #[.int .i64 0, .int .i64 0, .slice none 0 0], .int .i64 1, .int .i64 10]) (by simp [results, Tryz.results9, go_sem, d0, d1, d2]) rfl ?_
          refine redR_bad HE1.out ?_ rfl
          refine ((HBF.out.setCell ?_ _).setCell ?_ _).setCell ?_ _ <;> exact Nat.le_refl _
      | some ns =>
        obtain ⟨A4, c4, rfl, hr4⟩ := hq
        have hns5 : ns.length = P.length - 1 := by rw [nums_len hnr, H1L.out]
        have HNS5 : Hid (ns.length = P.length - 1) := hns5
        clear hns5
        cases ok with
        | false =>
          have HE1 := Lib.hid (HHO.out rfl)
          have HBF : Hid (Below w.heap.size w w4) := HB0.out.trans (Below.mono HG4.out HB0.out.size)
          have HKF := Lib.hid (HK0.out.same (Same.of_below (S := fun _ => True) HG4.out) trivial)
          have f0 := HKF.out.frozen 0
          have f1 := HKF.out.frozen 1
          have f2 := HKF.out.frozen 2
          have d0 : w4.cell? ⟨w.heap.size, 0, none⟩ = some _ := HKF.out.cell 0
          have d1 : w4.cell? ⟨w.heap.size, 1, none⟩ = some _ := HKF.out.cell 1
          have d2 : w4.cell? ⟨w.heap.size, 2, none⟩ = some _ := HKF.out.cell 2
          go_wp2_with fail
          refine bodyPost_ret (v := .tuple #[.agg #[.int .i64 0, .int .i64 0, .slice none 0 0], .int .i64 1, .int .i64 10]) (by simp [results, Tryz.results9, go_sem, d0, d1, d2]) rfl ?_
          refine redR_bad HE1.out ?_ rfl
          refine ((HBF.out.setCell ?_ _).setCell ?_ _).setCell ?_ _ <;> exact Nat.le_refl _
        | true =>
          by_cases hc : p0 = wEdit
          case neg =>
            have HE1 : Hid (RF = (Go.Proofs.YtpiiickhfcjnmaaGreatDoor.e0, 1, 10)) := HHN.out (hdW_no (.inl (by rw [HP0.out]; exact hc)))
            have g : ((mkE p0).toList == [101, 100, 105, 116]) = false := by rw [ByteArray.toList_eq, mkE_list, beq_eq_false_iff_ne]; exact hc
            clear hc
            have HBF : Hid (Below w.heap.size w w4) := HB0.out.trans (Below.mono HG4.out HB0.out.size)
            have HKF := Lib.hid (HK0.out.same (Same.of_below (S := fun _ => True) HG4.out) trivial)
            have f0 := HKF.out.frozen 0
            have f1 := HKF.out.frozen 1
            have f2 := HKF.out.frozen 2
            have d0 : w4.cell? ⟨w.heap.size, 0, none⟩ = some _ := HKF.out.cell 0
            have d1 : w4.cell? ⟨w.heap.size, 1, none⟩ = some _ := HKF.out.cell 1
            have d2 : w4.cell? ⟨w.heap.size, 2, none⟩ = some _ := HKF.out.cell 2
            go_wp2_with fail
            refine bodyPost_ret (v := .tuple #[.agg #[.int .i64 0, .int .i64 0, .slice none 0 0], .int .i64 1, .int .i64 10]) (by simp [results, Tryz.results9, go_sem, d0, d1, d2]) rfl ?_
            refine redR_bad HE1.out ?_ rfl
            refine ((HBF.out.setCell ?_ _).setCell ?_ _).setCell ?_ _ <;> exact Nat.le_refl _
          have g : ((mkE p0).toList == [101, 100, 105, 116]) = true := by rw [ByteArray.toList_eq, mkE_list, hc]; rfl
          have HCC : Hid (p0 = wEdit) := hc
          clear hc
          by_cases h2 : ns.length = 2
          case neg =>
            have HE1 : Hid (RF = (Go.Proofs.YtpiiickhfcjnmaaGreatDoor.e0, 1, 10)) := HHN.out (hdW_no (.inr (.inr (by rw [HNS5.out] at h2; omega))))
            have hd2 : ((ns.length : Int) == 2) = false := by simp; omega
            have HBF : Hid (Below w.heap.size w w4) := HB0.out.trans (Below.mono HG4.out HB0.out.size)
            have HKF := Lib.hid (HK0.out.same (Same.of_below (S := fun _ => True) HG4.out) trivial)
            have f0 := HKF.out.frozen 0
            have f1 := HKF.out.frozen 1
            have f2 := HKF.out.frozen 2
            have d0 : w4.cell? ⟨w.heap.size, 0, none⟩ = some _ := HKF.out.cell 0
            have d1 : w4.cell? ⟨w.heap.size, 1, none⟩ = some _ := HKF.out.cell 1
            have d2 : w4.cell? ⟨w.heap.size, 2, none⟩ = some _ := HKF.out.cell 2
            go_wp2_with fail
            refine bodyPost_ret (v := .tuple #[.agg #[.int .i64 0, .int .i64 0, .slice none 0 0], .int .i64 1, .int .i64 10]) (by simp [results, Tryz.results9, go_sem, d0, d1, d2]) rfl ?_
            refine redR_bad HE1.out ?_ rfl
            refine ((HBF.out.setCell ?_ _).setCell ?_ _).setCell ?_ _ <;> exact Nat.le_refl _
          obtain ⟨a, b9, rfl⟩ : ∃ a b9, ns = [a, b9] := by
            match ns, h2 with
            | [a, b9], _ => exact ⟨a, b9, rfl⟩
          obtain ⟨HE2, hrl⟩ := HHY2.out a b9 rfl (by rw [HP0.out, HCC.out]) (by have := HNS5.out; simp at this; omega) hnr
          have HE3 : Hid (RF = rdG (f - 1) rs 2 ⟨(a : Int), (b9 : Int), L.map CliM.x⟩) := HE2
          have HNN : Hid (inI64 (a : Int) ∧ inI64 (b9 : Int)) := by
            have := (nums_back hnr).2
            have h1 := this a (by simp)
            have h2 := this b9 (by simp)
            exact ⟨by unfold inI64; omega, by unfold inI64; omega⟩
          obtain ⟨b5, off5, hA5, hb5l, hb5s, hc5⟩ := hr4.at_ (by rw [nc_length]; simp)
          subst hA5
          have q0 : w4.cell? ⟨b5, off5, none⟩ = some (.int .i64 (a : Int)) := hc5 0 _ rfl
          have q1 : w4.cell? ⟨b5, off5 + 1, none⟩ = some (.int .i64 (b9 : Int)) := hc5 1 _ rfl
          have k0 : w4.cell? ⟨w0.heap.size, 0, none⟩ = some _ := HI4.out.1.cell 0
          have k1 : w4.cell? ⟨w0.heap.size, 1, none⟩ = some _ := HI4.out.1.cell 1
          have z0 := HI4.out.1.frozen 0
          have z1 := HI4.out.1.frozen 1
          clear hnr hr4 hc5 HE2
          have hbe5 : b5 ≠ w0.heap.size := by have := Below.size HI3.out.2.2.1; have := HI3.out.1.lt; omega
          go_wp2_with fail
          go_region
          all_goals
            have HI5 : Hid (EdI w0 ((w4.setCell ⟨w0.heap.size, 0, none⟩ (.int .i64 (a : Int))).setCell ⟨w0.heap.size, 1, none⟩ (.int .i64 (b9 : Int))).drew (a : Int) (b9 : Int) A c L) := (HI4.out.hdr).below (Gq.refl _).drew
            have HGN : Hid (RF = rdG (f - 1) (mkE rs).data.toList 2 ⟨(a : Int), (b9 : Int), L.map CliM.x⟩) := by show _ = _; rw [mkE_list]; exact HE3.out
            have hrz : (mkE rs).size = rs.length := mkE_size rs
            generalize ((w4.setCell ⟨w0.heap.size, 0, none⟩ (.int .i64 (a : Int))).setCell ⟨w0.heap.size, 1, none⟩ (.int .i64 (b9 : Int))).drew = w5 at *
            clear q0 q1 k0 k1 z0 z1
            go_wp2_with fail
            go_roundw
            case rel => exact ⟨mkE rs, 2, f - 1, (a : Int), (b9 : Int), A, c, L, rfl, rfl, by omega, by omega, by omega, by omega, by omega, HNN, HGN, HI5⟩
            case measure => simp [tSizeE]; omega
    · have hix : ((i : Int) == 1) = false := by simp; omega
      have hbt : 0 < t.size := by omega
      have e1 := emp_f hbt
      clear hin
      have HZ : Hid (splitB 32 (mkE ln).data.toList = splitB 32 ln) := by show _ = _; rw [mkE_list]
      have hni : i ≠ 1 := hi
      have HCN : Hid (cliW (splitB 32 ln) = none → RF = (Go.Proofs.YtpiiickhfcjnmaaGreatDoor.e0, i, 10)) := fun h => HQ2.out (by unfold stepE; rw [if_neg hni, h]; rfl)
      have HCY : Hid (∀ c, ok = true → cliW (splitB 32 ln) = some c → RF = rdG (f - 1) rs (i + 1) ⟨r, tk, L.map CliM.x ++ [c]⟩ ∧ rs.length < t.size) := fun c h1 h2 => HQ3.out _ h1 (by unfold stepE; rw [if_neg hni, h2]; rfl)
      have HHO : Hid (ok = false → RF = (Go.Proofs.YtpiiickhfcjnmaaGreatDoor.e0, i, 10)) := HQ1.out
      have HNI : Hid (∀ (c : Cli) (A : Option Addr) (d : Nat), cliW (splitB 32 ln) = some c → ClNc ⟨c.m, c.ch, c.fr, c.tr, c.at_, c.ln, ⟨A, d, c.e⟩⟩) := fun c A d h => cliW_nice h (by omega)
      clear HQ1 HQ2 HQ3
      go_wp2_with fail
      refine (HCT.out _).mono ?_
      rintro e w2 ⟨rfl, n2, hw2⟩
      have HI2 : Hid (EdI w0 w2 r tk A c L) := HI.out.below (by rw [hw2]; exact below_drewN (Below.refl _ _) n2)
      have HRC := Lib.hid (readClip_any (mkE ln) w2 (by omega))
      rw [HZ.out] at HRC
      clear hw2 HCT HZ
      go_wp2_with fail
      refine HRC.out.mono ?_
      rintro e w3 hq
      unfold ClipR at hq
      obtain ⟨cr, hcr⟩ : ∃ cr, cliW (splitB 32 ln) = cr := ⟨_, rfl⟩
      rw [hcr] at hq HCN HCY HNI
      clear hcr
      obtain ⟨hb3, hq⟩ := hq
      have hown2 : ∀ b, (Value.slice A L.length c).ownBlock = some b → w0.heap.size + 1 ≤ b ∧ b < w2.heap.size := HI2.out.2.1.lt
      have HI3 := Lib.hid (HI2.out.below hb3)
      have hs2 := Below.size HI2.out.2.2.1
      have hs2' := HI2.out.1.lt
      obtain ⟨x, fl, rfl, HX, HNX, HFN, HFY⟩ : ∃ (x : CliM) (fl : Bool), e = .returned (.tuple #[x.v, .bool fl]) ∧ Hid (RdS (fun b => w0.heap.size + 1 ≤ b ∧ (Value.slice A L.length c).ownBlock ≠ some b) w3 x.e.a (x.e.xs.flatMap Pnt.cs)) ∧ Hid (ClNc x) ∧ Hid (fl = false → RF = (Go.Proofs.YtpiiickhfcjnmaaGreatDoor.e0, i, 10)) ∧ Hid (fl = true → ok = true → RF = rdG (f - 1) rs (i + 1) ⟨r, tk, (L ++ [x]).map CliM.x⟩ ∧ rs.length < t.size) := by
        cases cr with
        | none =>
          refine ⟨⟨⟨#[]⟩, 0, 0, 0, 0, 0, ⟨none, 0, []⟩⟩, false, hq, .inl rfl, ?_, fun _ => HCN.out rfl, fun h => by cases h⟩
          exact ⟨by decide, ⟨by decide, by decide⟩, ⟨by decide, by decide⟩, ⟨by decide, by decide⟩, ⟨by decide, by decide⟩, ⟨by decide, by decide⟩, by simp, fun p hp => by simp at hp⟩
        | some cc =>
          obtain ⟨A7, d7, he, hr7⟩ := hq
          refine ⟨⟨cc.m, cc.ch, cc.fr, cc.tr, cc.at_, cc.ln, ⟨A7, d7, cc.e⟩⟩, true, he, ?_, HNI.out cc A7 d7 rfl, (fun h => by cases h), fun _ h => ?_⟩
          · refine hr7.mono fun b _ hb => ⟨by omega, fun e => ?_⟩
            have := (hown2 b e).2
            omega
          · have := HCY.out cc h rfl
            rw [List.map_append]
            exact this
      clear hq hb3 hown2 HCN HCY HNI HRC HI2
      obtain ⟨xm, xc, xf, xt, xa, xl, ⟨xA, xd, xe⟩⟩ := x
      simp only [CliM.v, Slc.v]
      obtain ⟨w4, hw4⟩ : ∃ w4, w4 = w3.alloc (.cells #[.string xm, .int .i64 xc, .int .i64 xf, .int .i64 xt, .int .i64 xa, .int .i64 xl, .slice xA xe.length xd] 36) := ⟨_, rfl⟩
      have HI4 : Hid (EdI w0 w4 r tk A c L) := HI3.out.below (by rw [hw4]; exact (Gq.refl _).alloc _)
      have HX4 : Hid (RdS (fun b => w0.heap.size + 1 ≤ b ∧ (Value.slice A L.length c).ownBlock ≠ some b) w4 xA (xe.flatMap Pnt.cs)) := HX.out.same (Same.of_below (by rw [hw4]; exact (Below.refl _ _).alloc (Nat.le_refl _) _))
      have HKC : Hid (Blk w4 w3.heap.size 36 [.string xm, .int .i64 xc, .int .i64 xf, .int .i64 xt, .int .i64 xa, .int .i64 xl, .slice xA xe.length xd]) := by rw [hw4]; exact Blk.new w3 _ _
      have HW4 := Lib.hid hw4
      clear hw4 HX HI3
      go_upto_region 15 with (fail)
      rw [← HW4.out]
      obtain ⟨nb, hnb⟩ : ∃ nb, (ok && fl) = nb := ⟨_, rfl⟩
      have HNB := Lib.hid hnb
      clear hnb
      go_cut [9] (fun v wx => v = .bool nb ∧ wx = w4)
      case first =>
        cases ok with
        | false =>
          have HE : Hid (nb = false) := by show _ = _; rw [← HNB.out]; rfl
          go_wp2_with fail
          go_meet
          case rel => exact ⟨by rw [HE.out], rfl⟩
        | true =>
          have HE : Hid (nb = fl) := by show _ = _; rw [← HNB.out]; rfl
          go_wp2_with fail
          go_meet
          case rel => exact ⟨by rw [HE.out], rfl⟩
      case rest =>
        obtain ⟨rfl, rfl⟩ := hcut
        have k0 : wc.cell? ⟨w3.heap.size, 0, none⟩ = some _ := HKC.out.cell 0
        have k1 : wc.cell? ⟨w3.heap.size, 1, none⟩ = some _ := HKC.out.cell 1
        have k2 : wc.cell? ⟨w3.heap.size, 2, none⟩ = some _ := HKC.out.cell 2
        have k3 : wc.cell? ⟨w3.heap.size, 3, none⟩ = some _ := HKC.out.cell 3
        have k4 : wc.cell? ⟨w3.heap.size, 4, none⟩ = some _ := HKC.out.cell 4
        have k5 : wc.cell? ⟨w3.heap.size, 5, none⟩ = some _ := HKC.out.cell 5
        have k6 : wc.cell? ⟨w3.heap.size, 6, none⟩ = some _ := HKC.out.cell 6
        have s2 : wc.cell? ⟨w0.heap.size, 2, none⟩ = some _ := HI4.out.1.cell 2
        have hs4 := Below.size HI4.out.2.2.1
        have hlt4 := HI4.out.1.lt
        have HOA : Hid ((wc.alloc (.cells #[.string xm, .int .i64 xc, .int .i64 xf, .int .i64 xt, .int .i64 xa, .int .i64 xl, .slice xA xe.length xd] 36)).ownsRow (w0.heap.size + 1) 36 7 (.slice A L.length c) L.length (L.flatMap CliM.cs)) := HI4.out.2.1.alloc _
        go_upto_region 17 with (at_builtin; refine wpList_append_lies _ rfl _ _ 22 rfl (w0.heap.size + 1) 36 ic _ 7 80 Tryz.underlying22 HIC.out.1 HIC.out.2.1 HIC.out.2.2.1 HIC.out.2.2.2 rfl (by decide) _ _ _ rfl HOA.out ⟨wc.heap.size, 0, none⟩ 1 1 [.string xm, .int .i64 xc, .int .i64 xf, .int .i64 xt, .int .i64 xa, .int .i64 xl, .slice xA xe.length xd] (by rfl) (by rfl) (World.news_of_block (cs := #[.string xm, .int .i64 xc, .int .i64 xf, .int .i64 xt, .int .i64 xa, .int .i64 xl, .slice xA xe.length xd]) (t := 36) (fr := (0, 0)) (heap_alloc_new wc _)) (by simp [Value.oneCell']) (by decide) (by unfold maxLen; omega) (by omega) (by simp; omega) (wc.heap.size + 1) (by simp) ?_; intro g2 cap2 w5 hown2 hgrow2 hat2 hlt2; have HSN := Lib.hid (edi_snoc (x := ⟨xm, xc, xf, xt, xa, xl, ⟨xA, xd, xe⟩⟩) HI4.out HX4.out HNX.out hown2 hgrow2 hat2); have z2 : w5.cell? ⟨w0.heap.size, 2, none⟩ = some _ := HSN.out.1.cell 2; have zf2 := HSN.out.1.frozen 2; have HI5 := Lib.hid HSN.out.2; clear hown2 hgrow2 hat2 hlt2 HOA HSN)
        have hxl : L.length + 1 = (L ++ [(⟨xm, xc, xf, xt, xa, xl, ⟨xA, xd, xe⟩⟩ : CliM)]).length := by simp
        generalize L ++ [(⟨xm, xc, xf, xt, xa, xl, ⟨xA, xd, xe⟩⟩ : CliM)] = L2 at *
        generalize w5.setCell ⟨w0.heap.size, 2, none⟩ (.slice (some ⟨g2, 0, none⟩) (L.length + 1) cap2) = w6 at *
        have HG6 : Hid (Gq w0 w6) := HI5.out.2.2.1
        clear z2 zf2 k0 k1 k2 k3 k4 k5 k6 s2
        cases nb with
        | false =>
          have HE1 : Hid (RF = (Go.Proofs.YtpiiickhfcjnmaaGreatDoor.e0, i, 10)) := by
            cases ok with
            | false => exact HHO.out rfl
            | true => exact HFN.out (by have := HNB.out; simpa using this)
          have HBF : Hid (Below w.heap.size w w6) := HB0.out.trans (Below.mono HG6.out HB0.out.size)
          have HKF := Lib.hid (HK0.out.same (Same.of_below (S := fun _ => True) HG6.out) trivial)
          have f0 := HKF.out.frozen 0
          have f1 := HKF.out.frozen 1
          have f2 := HKF.out.frozen 2
          have d0 : w6.cell? ⟨w.heap.size, 0, none⟩ = some _ := HKF.out.cell 0
          have d1 : w6.cell? ⟨w.heap.size, 1, none⟩ = some _ := HKF.out.cell 1
          have d2 : w6.cell? ⟨w.heap.size, 2, none⟩ = some _ := HKF.out.cell 2
          go_wp2_with fail
          refine bodyPost_ret (v := .tuple #[.agg #[.int .i64 0, .int .i64 0, .slice none 0 0], .int .i64 (i : Int), .int .i64 10]) (by simp [results, Tryz.results9, go_sem, d0, d1, d2]) rfl ?_
          refine redR_bad HE1.out ?_ rfl
          refine ((HBF.out.setCell ?_ _).setCell ?_ _).setCell ?_ _ <;> exact Nat.le_refl _
        | true =>
          have hok2 : ok = true ∧ fl = true := by have := HNB.out; simpa using this
          obtain ⟨HE2, hrl⟩ := HFY.out hok2.2 hok2.1
          have HGN : Hid (RF = rdG (f - 1) (mkE rs).data.toList (i + 1) ⟨r, tk, L2.map CliM.x⟩) := by show _ = _; rw [mkE_list]; exact HE2
          have hrz : (mkE rs).size = rs.length := mkE_size rs
          clear hok2 HE2
          go_wp2_with fail
          go_roundw
          case rel => exact ⟨mkE rs, i + 1, f - 1, r, tk, some ⟨g2, 0, none⟩, cap2, L2, rfl, by go_num, by omega, by omega, by omega, by omega, by omega, HRT, HGN, HI5⟩
          case measure => simp [tSizeE]; omega
end Go.Proofs.YtpiiickhfcjnmaaGreatDoor
