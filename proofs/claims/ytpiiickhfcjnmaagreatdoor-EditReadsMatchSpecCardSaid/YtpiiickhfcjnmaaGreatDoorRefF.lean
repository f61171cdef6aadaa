/- The contract of deadwaxref3.Read. -/
import Derived.Test.YtpiiickhfcjnmaaGreatDoorRefE
import Derived.Test.YtpiiickhfcjnmaaGreatDoorRedH
import Derived.Test.YtpiiickhfcjnmaaGreatDoorChkR
namespace Go.Proofs.YtpiiickhfcjnmaaGreatDoor
open Go.RowKit Go.Dw

theorem hdW_in {w : List (List UInt8)} {p : Nat × Nat} (h : hdW w = some p) : inI64 (p.1 : Int) ∧ inI64 (p.2 : Int) := by
  unfold hdW at h
  split at h
  · cases h
  · cases hn : numsE (w.drop 1) with
    | none => rw [hn] at h; cases h
    | some ns =>
      rw [hn] at h
      injection h with h
      subst h
      have hn2 := (nums_back hn).2
      have hg : ∀ k, inI64 ((ns.getD k 0 : Nat) : Int) := fun k => by
        rw [List.getD_eq_getElem?_getD]
        cases hk : ns[k]? with
        | none => simp [inI64]
        | some v =>
          have := hn2 v (List.mem_of_getElem? hk)
          simp only [Option.getD_some, inI64]
          omega
      exact ⟨hg 0, hg 1⟩
set_option maxRecDepth 100000 in
set_option maxHeartbeats 8000000 in
theorem readR3_any (s : ByteArray) (w : World) (hp : HasPow w) :
    Calls Tryz.prog 12 #[.string s] w (RedR w (readE s.data.toList)) := by
  have HPW := Lib.hid hp
  clear hp
  obtain ⟨w0, hw0⟩ : ∃ w0, w0 = w.alloc (.cells #[.int .i64 0, .int .i64 0, .slice none 0 0] 24) := ⟨_, rfl⟩
  have HB0 : Hid (Below w.heap.size w w0) := by rw [hw0]; exact (Below.refl _ _).alloc (Nat.le_refl _) _
  have HK0 : Hid (Blk w0 w.heap.size 24 [.int .i64 0, .int .i64 0, .slice none 0 0]) := by rw [hw0]; exact Blk.new w _ _
  have HW0 := Lib.hid hw0
  clear hw0
  have HGR : Hid (Gq w0 w0) := Gq.refl _
  obtain ⟨RF, hRF⟩ : ∃ RF, readE s.data.toList = RF := ⟨_, rfl⟩
  by_cases hbig : 500000 < s.size
  · have HE : Hid (RF = (e0, 0, 2)) := by show _ = _; rw [← hRF]; unfold readE; rw [if_pos (by rw [size_list]; exact hbig)]
    rw [hRF]
    clear hRF
    go_enter Tryz.func12, Tryz.ntmps12
    go_upto_region 1 with (fail)
    rw [← HW0.out]
    have HBF : Hid (Below w.heap.size w w0) := HB0.out.trans (Below.mono HGR.out HB0.out.size)
    have HKF := Lib.hid (HK0.out.same (Same.of_below (S := fun _ => True) HGR.out) trivial)
    have f0 := HKF.out.frozen 0
    have f1 := HKF.out.frozen 1
    have f2 := HKF.out.frozen 2
    have d0 : w0.cell? ⟨w.heap.size, 0, none⟩ = some _ := HKF.out.cell 0
    have d1 : w0.cell? ⟨w.heap.size, 1, none⟩ = some _ := HKF.out.cell 1
    have d2 : w0.cell? ⟨w.heap.size, 2, none⟩ = some _ := HKF.out.cell 2
    go_wp2_with fail
    refine bodyPost_ret (v := .tuple #[.agg #[.int .i64 0, .int .i64 0, .slice none 0 0], .int .i64 0, .int .i64 2]) (by simp [results, Tryz.results12, go_sem, d0, d1, d2]) rfl ?_
    refine redR_bad HE.out ?_ rfl
    refine ((HBF.out.setCell ?_ _).setCell ?_ _).setCell ?_ _ <;> exact Nat.le_refl _
  have HR0 : Hid (RF = rdG (s.size + 1) s.data.toList 1 Go.Proofs.YtpiiickhfcjnmaaGreatDoor.e0) := by show _ = _; rw [← hRF]; unfold readE; rw [if_neg (by rw [size_list]; exact hbig), size_list]
  rw [hRF]
  clear hRF
  by_cases hs0 : 0 < s.size
  case neg =>
    obtain ⟨e1, e2⟩ := emp_t hs0
    have e3 : (s.toList == []) = true := by rw [e2]; rfl
    have HE : Hid (RF = (Go.Proofs.YtpiiickhfcjnmaaGreatDoor.e0, 1, 10)) := by
      show _ = _
      rw [HR0.out, rdG_no (by rw [size_list]; omega) (.inl rfl) (by rw [← ByteArray.toList_eq, e2]; rfl)]
    clear e2
    go_enter Tryz.func12, Tryz.ntmps12
    go_upto_region 1 with (fail)
    rw [← HW0.out]
    have HBF : Hid (Below w.heap.size w w0) := HB0.out.trans (Below.mono HGR.out HB0.out.size)
    have HKF := Lib.hid (HK0.out.same (Same.of_below (S := fun _ => True) HGR.out) trivial)
    have f0 := HKF.out.frozen 0
    have f1 := HKF.out.frozen 1
    have f2 := HKF.out.frozen 2
    have d0 : w0.cell? ⟨w.heap.size, 0, none⟩ = some _ := HKF.out.cell 0
    have d1 : w0.cell? ⟨w.heap.size, 1, none⟩ = some _ := HKF.out.cell 1
    have d2 : w0.cell? ⟨w.heap.size, 2, none⟩ = some _ := HKF.out.cell 2
    go_wp2_with fail
    refine bodyPost_ret (v := .tuple #[.agg #[.int .i64 0, .int .i64 0, .slice none 0 0], .int .i64 1, .int .i64 10]) (by simp [results, Tryz.results12, go_sem, d0, d1, d2]) rfl ?_
    refine redR_bad HE.out ?_ rfl
    refine ((HBF.out.setCell ?_ _).setCell ?_ _).setCell ?_ _ <;> exact Nat.le_refl _
  have es1 := emp_f hs0
  have es2 : (s.toList == []) = false := by rw [beq_eq_false_iff_ne]; intro hh; rw [hh] at es1; cases es1
  obtain ⟨w1, hw1⟩ : ∃ w1, w1 = w0.alloc (.cells #[.int .i64 0, .int .i64 0, .slice none 0 0] 24) := ⟨_, rfl⟩
  have HI1 : Hid (EdI w0 w1 0 0 none 0 []) := by
    rw [hw1]
    exact ⟨Blk.new w0 _ _, World.ownsRow_nil _ _ _ _, (Gq.refl _).alloc _, fun c hc => by cases hc⟩
  have HW1 := Lib.hid hw1
  clear hw1
  go_enter Tryz.func12, Tryz.ntmps12
  go_upto_region 1 with (fail)
  rw [← HW0.out]
  go_upto_region 6 with (fail)
  rw [← HW1.out]
  go_wp2_with fail
  go_loopw [0, 6] (fun tv iv wr => ∃ (t : ByteArray) (i f : Nat) (r tk : Int) (A : Option Addr) (c : Nat) (L : List CliM), tv = .string t ∧ iv = .int .i64 (i : Int) ∧ (i = 0 → 0 < t.size) ∧ t.size ≤ s.size ∧ i + t.size ≤ s.size + 1 ∧ L.length + t.size ≤ s.size ∧ t.size < f ∧ Hid (inI64 r ∧ inI64 tk) ∧ Hid (RF = rdG f t.data.toList (i + 1) ⟨r, tk, L.map CliM.x⟩) ∧ Hid (EdI w0 wr r tk A c L)) (fun tv _ _ => tSizeE tv)
  case atStart => exact ⟨s, 0, s.size + 1, 0, 0, none, 0, [], rfl, rfl, fun _ => hs0, Nat.le_refl _, by omega, by simp, by omega, ⟨⟨by decide, by decide⟩, ⟨by decide, by decide⟩⟩, HR0, HI1⟩
  case round =>
    clear es1 es2
    obtain ⟨t, i, f, r, tk, A, c, L, rfl, rfl, hi0, hts, hit, hlt, htf, HRT, HG, HI⟩ := hrel
    have hs0 : w.heap.size < w0.heap.size := HK0.out.lt
    by_cases hex : t.size = 0
    · obtain ⟨e1, e2⟩ := emp_t (show ¬ 0 < t.size by omega)
      have hx1 : i ≠ 0 := fun h => by have := hi0 h; omega
      have HEND : Hid (RF = finE ⟨r, tk, L.map CliM.x⟩) := by show _ = _; rw [HG.out, rdG_end (by omega) (by rw [size_list]; exact hex)]
      have HOK := Lib.hid (HI.out.ok HRT.out.1 HRT.out.2 (by omega))
      have HCK := Lib.hid (checkR_any ⟨r, tk, ⟨A, c, L⟩⟩ wr HOK.out (HPW.out.below (HB0.out.trans (Below.mono HI.out.2.2.1 HB0.out.size))))
      obtain ⟨ff, hff⟩ : ∃ ff, ediF isNm 1000000 (EdtM.x ⟨r, tk, ⟨A, c, L⟩⟩) = ff := ⟨_, rfl⟩
      rw [hff] at HCK
      have HFF : Hid (ediF isNm 1000000 ⟨r, tk, L.map CliM.x⟩ = ff) := hff
      clear hff e2
      simp only [EdtM.v, Slc.v] at HCK
      have k0 : wr.cell? ⟨w0.heap.size, 0, none⟩ = some _ := HI.out.1.cell 0
      have k1 : wr.cell? ⟨w0.heap.size, 1, none⟩ = some _ := HI.out.1.cell 1
      have k2 : wr.cell? ⟨w0.heap.size, 2, none⟩ = some _ := HI.out.1.cell 2
      go_wp2_with fail
      refine HCK.out.mono ?_
      rintro e w2 ⟨rfl, hb2⟩
      have HI2 := Lib.hid (HI.out.below hb2)
      have HG2 : Hid (Gq w0 w2) := HI2.out.2.2.1
      have HOK2 := Lib.hid (HOK.out.below hb2)
      clear hb2 k0 k1 k2
      by_cases hz : ff = 0
      · have HE : Hid (RF = (⟨r, tk, L.map CliM.x⟩, 0, 0)) := by show _ = _; rw [HEND.out, finE_ok (by rw [HFF.out]; exact hz)]
        subst hz
        have k0 : w2.cell? ⟨w0.heap.size, 0, none⟩ = some _ := HI2.out.1.cell 0
        have k1 : w2.cell? ⟨w0.heap.size, 1, none⟩ = some _ := HI2.out.1.cell 1
        have k2 : w2.cell? ⟨w0.heap.size, 2, none⟩ = some _ := HI2.out.1.cell 2
        have HBF : Hid (Below w.heap.size w w2) := HB0.out.trans (Below.mono HG2.out HB0.out.size)
        have HKF := Lib.hid (HK0.out.same (Same.of_below (S := fun _ => True) HG2.out) trivial)
        have f0 := HKF.out.frozen 0
        have f1 := HKF.out.frozen 1
        have f2 := HKF.out.frozen 2
        have d0 : w2.cell? ⟨w.heap.size, 0, none⟩ = some _ := HKF.out.cell 0
        have d1 : w2.cell? ⟨w.heap.size, 1, none⟩ = some _ := HKF.out.cell 1
        have d2 : w2.cell? ⟨w.heap.size, 2, none⟩ = some _ := HKF.out.cell 2
        go_wp2_with fail
        refine bodyPost_ret (v := .tuple #[EdtM.v ⟨r, tk, ⟨A, c, L⟩⟩, .int .i64 0, .int .i64 0]) (by simp [results, Tryz.results12, go_sem, EdtM.v, Slc.v, d0, d1, d2]) rfl ?_
        have HOK3 : EdtOk (((w2.setCell ⟨w.heap.size, 0, none⟩ (.int .i64 r)).setCell ⟨w.heap.size, 1, none⟩ (.int .i64 tk)).setCell ⟨w.heap.size, 2, none⟩ (.slice A L.length c)) ⟨r, tk, ⟨A, c, L⟩⟩ := by
          have hsm : Same (fun b => w0.heap.size ≤ b) w2 (((w2.setCell ⟨w.heap.size, 0, none⟩ (.int .i64 r)).setCell ⟨w.heap.size, 1, none⟩ (.int .i64 tk)).setCell ⟨w.heap.size, 2, none⟩ (.slice A L.length c)) := by
            refine ((Same.set _ _ _ ?_).trans (Same.set _ _ _ ?_)).trans (Same.set _ _ _ ?_) <;> exact fun hh => by have h1 : w0.heap.size ≤ w.heap.size := hh; omega
          refine ⟨HOK2.out.rate, HOK2.out.tracks, HOK2.out.cl, ?_, fun x hx => ?_⟩
          · have hq : RdS (fun b => w0.heap.size ≤ b) w2 A (L.flatMap CliM.cs) := by
              rcases HI2.out.2.1.2 with ⟨h0, h1⟩ | ⟨g, cap, cur, hv, hb, hg, _⟩
              · exact .inl (List.eq_nil_of_length_eq_zero (by rw [HI2.out.2.1.1, h1]))
              · injection hv with hv1 hv2 hv3
                subst hv1
                refine .inr ⟨g, 0, rfl, by omega, (Array.getElem?_eq_some_iff.1 hg).1, fun j u hu => ?_⟩
                have := HI2.out.2.1.cells (g := g) rfl j u hu
                have hadd : (⟨g, 0, none⟩ : Addr).add j = ⟨g, 0 + j, none⟩ := by unfold Addr.add; split <;> simp_all
                rw [← hadd]; exact this
            exact (hq.same hsm).rd
          · have h1 := HOK2.out.co x hx
            obtain ⟨h2, _⟩ := HI2.out.2.2.2 x hx
            exact ⟨h1.m, h1.ch, h1.fr, h1.tr, h1.at_, h1.ln, h1.el, ((h2.mono (S' := fun b => w0.heap.size ≤ b) (fun b _ hh => by omega)).same hsm).rd, h1.eo⟩
        refine redR_ok ⟨r, tk, ⟨A, c, L⟩⟩ HE.out ?_ HOK3 rfl
        refine ((HBF.out.setCell ?_ _).setCell ?_ _).setCell ?_ _ <;> exact Nat.le_refl _
      · have HE : Hid (RF = (Go.Proofs.YtpiiickhfcjnmaaGreatDoor.e0, 0, ff)) := by show _ = _; rw [HEND.out, finE_bad (by rw [HFF.out]; exact hz), HFF.out]
        have hzb : (ff != 0) = true := by simpa using hz
        clear hz
        have HBF : Hid (Below w.heap.size w w2) := HB0.out.trans (Below.mono HG2.out HB0.out.size)
        have HKF := Lib.hid (HK0.out.same (Same.of_below (S := fun _ => True) HG2.out) trivial)
        have f0 := HKF.out.frozen 0
        have f1 := HKF.out.frozen 1
        have f2 := HKF.out.frozen 2
        have d0 : w2.cell? ⟨w.heap.size, 0, none⟩ = some _ := HKF.out.cell 0
        have d1 : w2.cell? ⟨w.heap.size, 1, none⟩ = some _ := HKF.out.cell 1
        have d2 : w2.cell? ⟨w.heap.size, 2, none⟩ = some _ := HKF.out.cell 2
        go_wp2_with fail
        refine bodyPost_ret (v := .tuple #[.agg #[.int .i64 0, .int .i64 0, .slice none 0 0], .int .i64 0, .int .i64 ff]) (by simp [results, Tryz.results12, go_sem, d0, d1, d2]) rfl ?_
        refine redR_bad HE.out ?_ rfl
        refine ((HBF.out.setCell ?_ _).setCell ?_ _).setCell ?_ _ <;> exact Nat.le_refl _
    have hbt : 0 < t.size := by omega
    have e1 := emp_f hbt
    have hin : i + 1 = 1 ∨ t.data.toList.length ≠ 0 := by rw [size_list]; omega
    obtain ⟨hq1, hq2, hq3⟩ := rdG_cut (f := f) (i := i + 1) (t := t.data.toList) (e := ⟨r, tk, L.map CliM.x⟩) (by rw [size_list]; exact htf) hin
    rw [← HG.out] at hq1 hq2
    have HQ1 := Lib.hid hq1
    have HQ2 := Lib.hid hq2
    have HQ3 : Hid (∀ e', (cutE 10 t.data.toList).2.2 = true → stepE (i + 1) (cutE 10 t.data.toList).1 ⟨r, tk, L.map CliM.x⟩ = some e' → RF = rdG (f - 1) (cutE 10 t.data.toList).2.1 (i + 1 + 1) e' ∧ (cutE 10 t.data.toList).2.1.length < t.size) := fun e' h1 h2 => by
      have := hq3 e' h1 h2
      rw [← HG.out, size_list] at this
      exact this
    have HCT : Hid (∀ W, Calls Tryz.prog 23 #[.string t, .string ⟨#[10]⟩] W fun e w' => e = .returned (cutW 10 t) ∧ ∃ n, w' = W.drewN n) := fun W => by
      rw [← cut10W]; exact str_Cut10 t W (by omega)
    unfold cutW at HCT
    have hle := cutE_le 10 t.data.toList
    rw [size_list] at hle
    clear hq1 hq2 hq3 hin
    obtain ⟨ln, hln⟩ : ∃ x, (cutE 10 t.data.toList).1 = x := ⟨_, rfl⟩
    obtain ⟨rs, hrs⟩ : ∃ x, (cutE 10 t.data.toList).2.1 = x := ⟨_, rfl⟩
    obtain ⟨ok, hok⟩ : ∃ x, (cutE 10 t.data.toList).2.2 = x := ⟨_, rfl⟩
    rw [hln, hrs, hok] at HCT HQ3
    rw [hln] at HQ2
    rw [hok] at HQ1
    rw [hln, hrs] at hle
    clear hln hrs hok
    have hlz : (mkE ln).size ≤ 500000 := by rw [mkE_size]; omega
    have HZ : Hid (splitB 32 (mkE ln).data.toList = splitB 32 ln) := by show _ = _; rw [mkE_list]
    have hne := splitB_ne 32 ln
    have hlen := splitLe 32 ln
    have HPM : Hid (∀ p ∈ splitB 32 ln, p.length ≤ 1000000) := fun p hp => by have := splitMem 32 ln p hp; omega
    have HNI : Hid (∀ (q : Cli) (A : Option Addr) (d : Nat), cliW (splitB 32 ln) = some q → ClNc ⟨q.m, q.ch, q.fr, q.tr, q.at_, q.ln, ⟨A, d, q.e⟩⟩) := fun q A d h => cliW_nice h (by omega)
    have HSTE : Hid (stepE (i + 1) ln ⟨r, tk, L.map CliM.x⟩ = if i = 0 then (hdW (splitB 32 ln)).map (fun p => ⟨(p.1 : Int), (p.2 : Int), L.map CliM.x⟩) else (cliW (splitB 32 ln)).map (fun c => ⟨r, tk, L.map CliM.x ++ [c]⟩)) := by
      show _ = _
      unfold stepE
      by_cases h : i = 0
      · rw [if_pos (by omega), if_pos h]
      · rw [if_neg (by omega), if_neg h]
    rw [HSTE.out] at HQ2
    simp only [HSTE.out] at HQ3
    have HSP : Hid (∀ W, Calls Tryz.prog 24 #[.string (mkE ln), .string ⟨#[32]⟩] W (SResC W (splitB 32 ln))) := fun W => by
      have := split_any32 (mkE ln) W (by omega)
      rw [HZ.out] at this
      exact this
    obtain ⟨P, hP⟩ : ∃ P, splitB 32 ln = P := ⟨_, rfl⟩
    rw [hP] at hne hlen HPM HNI HQ2 HSP
    simp only [hP] at HQ3
    clear hP HZ HSTE
    have hwi : IntKind.i64.wrap ((i : Int) + 1) = (i : Int) + 1 := IntWalk.i64_in _ (by omega)
    go_wp2_with fail
    refine (HCT.out _).mono ?_
    rintro e w2 ⟨rfl, n2, hw2⟩
    have HI2 : Hid (EdI w0 w2 r tk A c L) := HI.out.below (by rw [hw2]; exact below_drewN (Below.refl _ _) n2)
    clear hw2
    go_wp2_with fail
    refine (HSP.out w2).mono ?_
    rintro e w3 ⟨b, hle3, rfl, hr3, hb3⟩
    have HI3 := Lib.hid (HI2.out.below hb3)
    have HG3 : Hid (Gq w0 w3) := HI3.out.2.2.1
    obtain ⟨b', off, hA3, hbl, hcs⟩ := hr3.at_ (by rw [sc_len]; exact List.length_pos_iff.2 hne)
    obtain ⟨rfl, rfl⟩ : b = b' ∧ off = 0 := by injection hA3 with hA3; injection hA3 with h1 h2; exact ⟨h1, h2.symm⟩
    have HCS : Hid (∀ (j : Nat) u, (sc P)[j]? = some u → w3.cell? ⟨b, j, none⟩ = some u) := fun j u hu => by
      have := hcs j u hu
      rw [Nat.zero_add] at this
      exact this
    clear hb3 hr3 hA3 hcs HSP HCT hle3 HI2
    cases ok with
    | false =>
      have HE1 : Hid (RF = (Go.Proofs.YtpiiickhfcjnmaaGreatDoor.e0, i + 1, 10)) := HQ1.out rfl
      have HBF : Hid (Below w.heap.size w w3) := HB0.out.trans (Below.mono HG3.out HB0.out.size)
      have HKF := Lib.hid (HK0.out.same (Same.of_below (S := fun _ => True) HG3.out) trivial)
      have f0 := HKF.out.frozen 0
      have f1 := HKF.out.frozen 1
      have f2 := HKF.out.frozen 2
      have d0 : w3.cell? ⟨w.heap.size, 0, none⟩ = some _ := HKF.out.cell 0
      have d1 : w3.cell? ⟨w.heap.size, 1, none⟩ = some _ := HKF.out.cell 1
      have d2 : w3.cell? ⟨w.heap.size, 2, none⟩ = some _ := HKF.out.cell 2
      go_wp2_with fail
      refine bodyPost_ret (v := .tuple #[.agg #[.int .i64 0, .int .i64 0, .slice none 0 0], .int .i64 ((i : Int) + 1), .int .i64 10]) (by simp [results, Tryz.results12, go_sem, d0, d1, d2]) rfl ?_
      refine redR_bad HE1.out ?_ (by simp)
      refine ((HBF.out.setCell ?_ _).setCell ?_ _).setCell ?_ _ <;> exact Nat.le_refl _
    | true =>
      by_cases h0 : i = 0
      · subst h0
        have HL1 := Lib.hid (line1_any P b w0 w3 r tk A c L HCS.out hbl HI3.out hne (by omega) HPM.out)
        go_wp2_with fail
        refine HL1.out.mono ?_
        rintro e w4 hq
        unfold Line1 at hq
        obtain ⟨hw, hhw⟩ : ∃ hw, hdW P = hw := ⟨_, rfl⟩
        rw [hhw] at hq
        simp only [hhw] at HQ2 HQ3
        cases hw with
        | none =>
          obtain ⟨rfl, hg4⟩ := hq
          have HG4 : Hid (Gq w0 w4) := hg4
          have HE1 : Hid (RF = (Go.Proofs.YtpiiickhfcjnmaaGreatDoor.e0, 1, 10)) := HQ2.out rfl
          have HBF : Hid (Below w.heap.size w w4) := HB0.out.trans (Below.mono HG4.out HB0.out.size)
          have HKF := Lib.hid (HK0.out.same (Same.of_below (S := fun _ => True) HG4.out) trivial)
          have f0 := HKF.out.frozen 0
          have f1 := HKF.out.frozen 1
          have f2 := HKF.out.frozen 2
          have d0 : w4.cell? ⟨w.heap.size, 0, none⟩ = some _ := HKF.out.cell 0
          have d1 : w4.cell? ⟨w.heap.size, 1, none⟩ = some _ := HKF.out.cell 1
          have d2 : w4.cell? ⟨w.heap.size, 2, none⟩ = some _ := HKF.out.cell 2
          go_wp2_with fail
          refine bodyPost_ret (v := .tuple #[.agg #[.int .i64 0, .int .i64 0, .slice none 0 0], .int .i64 1, .int .i64 10]) (by simp [results, Tryz.results12, go_sem, d0, d1, d2]) rfl ?_
          refine redR_bad HE1.out ?_ rfl
          refine ((HBF.out.setCell ?_ _).setCell ?_ _).setCell ?_ _ <;> exact Nat.le_refl _
        | some p =>
          obtain ⟨rfl, hi4⟩ := hq
          have HI4 : Hid (EdI w0 w4 (p.1 : Int) (p.2 : Int) A c L) := hi4
          obtain ⟨hh1, hh2⟩ := HQ3.out _ trivial rfl
          have HNN : Hid (inI64 (p.1 : Int) ∧ inI64 (p.2 : Int)) := hdW_in hhw
          have HGN : Hid (RF = rdG (f - 1) (mkE rs).data.toList (1 + 1) ⟨(p.1 : Int), (p.2 : Int), L.map CliM.x⟩) := by show _ = _; rw [mkE_list]; exact hh1
          have hrz : (mkE rs).size = rs.length := mkE_size rs
          clear hh1 hi4 hhw
          go_wp2_with fail
          go_roundw
          case rel => exact ⟨mkE rs, 1, f - 1, (p.1 : Int), (p.2 : Int), A, c, L, rfl, rfl, fun h => by omega, by omega, by omega, by omega, by omega, HNN, HGN, HI4⟩
          case measure => simp [tSizeE]; omega
      · have hix : (((i : Int) + 1) == 1) = false := by simp; omega
        have hix2 : ¬ i = 0 := h0
        simp only [if_neg h0] at HQ2 HQ3
        have HL2 := Lib.hid (line2_any P b w0 w3 r tk A c L HCS.out hbl HI3.out hne (by omega) HPM.out HNI.out (by omega))
        clear h0
        go_wp2_with fail
        refine HL2.out.mono ?_
        rintro e w4 hq
        unfold Line2 at hq
        obtain ⟨cw, hcw⟩ : ∃ cw, cliW P = cw := ⟨_, rfl⟩
        rw [hcw] at hq
        simp only [hcw] at HQ2 HQ3
        cases cw with
        | none =>
          obtain ⟨rfl, hg4⟩ := hq
          have HG4 : Hid (Gq w0 w4) := hg4
          have HE1 : Hid (RF = (Go.Proofs.YtpiiickhfcjnmaaGreatDoor.e0, i + 1, 10)) := HQ2.out rfl
          have HBF : Hid (Below w.heap.size w w4) := HB0.out.trans (Below.mono HG4.out HB0.out.size)
          have HKF := Lib.hid (HK0.out.same (Same.of_below (S := fun _ => True) HG4.out) trivial)
          have f0 := HKF.out.frozen 0
          have f1 := HKF.out.frozen 1
          have f2 := HKF.out.frozen 2
          have d0 : w4.cell? ⟨w.heap.size, 0, none⟩ = some _ := HKF.out.cell 0
          have d1 : w4.cell? ⟨w.heap.size, 1, none⟩ = some _ := HKF.out.cell 1
          have d2 : w4.cell? ⟨w.heap.size, 2, none⟩ = some _ := HKF.out.cell 2
          go_wp2_with fail
          refine bodyPost_ret (v := .tuple #[.agg #[.int .i64 0, .int .i64 0, .slice none 0 0], .int .i64 ((i : Int) + 1), .int .i64 10]) (by simp [results, Tryz.results12, go_sem, d0, d1, d2]) rfl ?_
          refine redR_bad HE1.out ?_ (by simp)
          refine ((HBF.out.setCell ?_ _).setCell ?_ _).setCell ?_ _ <;> exact Nat.le_refl _
        | some p =>
          obtain ⟨rfl, A4, c4, x, hx4, hi4⟩ := hq
          have HI4 : Hid (EdI w0 w4 r tk A4 c4 (L ++ [x])) := hi4
          obtain ⟨hh1, hh2⟩ := HQ3.out _ trivial rfl
          have HGN : Hid (RF = rdG (f - 1) (mkE rs).data.toList (i + 1 + 1) ⟨r, tk, (L ++ [x]).map CliM.x⟩) := by
            show _ = _
            rw [mkE_list, List.map_append]
            simp only [List.map_cons, List.map_nil, hx4]
            exact hh1
          have hrz : (mkE rs).size = rs.length := mkE_size rs
          have hll : (L ++ [x]).length = L.length + 1 := by simp
          clear hh1 hi4 hcw hx4
          generalize L ++ [x] = L2 at *
          go_wp2_with fail
          go_roundw
          case rel => exact ⟨mkE rs, i + 1, f - 1, r, tk, A4, c4, L2, rfl, by go_num, fun h => by omega, by omega, by omega, by omega, by omega, HRT, HGN, HI4⟩
          case measure => simp [tSizeE]; omega
end Go.Proofs.YtpiiickhfcjnmaaGreatDoor
