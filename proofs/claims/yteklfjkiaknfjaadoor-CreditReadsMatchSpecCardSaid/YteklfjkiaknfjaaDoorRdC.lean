/- The contract of the reference's Read. -/
import Derived.Test.YteklfjkiaknfjaaDoorRdB
import Derived.Test.YteklfjkiaknfjaaDoorCrR
namespace Go.Proofs.YteklfjkiaknfjaaDoor
open Go.RowKit Go.Dw

set_option maxRecDepth 100000 in
set_option maxHeartbeats 4000000 in
theorem readR_any (s : ByteArray) (w : World) (hm : HasMax w) :
    Calls Tryd.prog 5 #[.string s] w (ReadPost w (readF s.data.toList)) := by
  by_cases hbig : 300000 < s.size
  · have HR : Hid (readF s.data.toList = ([], 0, 2)) := by show _ = _; unfold readF; rw [if_pos (by rw [size_list]; exact hbig)]
    go_enter Tryd.func5, Tryd.ntmps5
    go_wp2_with fail
    go_ret3
    exact readPost_nil HR.out (Below.refl _ _) rfl
  have HMX := Lib.hid hm
  have HR0 : Hid (readF s.data.toList = readG s.size s.data.toList 1 []) := by show _ = _; unfold readF; rw [if_neg (by rw [size_list]; exact hbig), size_list]
  obtain ⟨RF, hRF⟩ : ∃ RF, readF s.data.toList = RF := ⟨_, rfl⟩
  rw [hRF] at HR0 ⊢
  obtain ⟨i0, hi0, hz0, hz1, hz2⟩ := info_parts info_cr
  have HII := Lib.hid (And.intro hi0 (And.intro hz0 (And.intro hz1 hz2)))
  clear hRF hm hi0 hz0 hz1 hz2
  go_enter Tryd.func5, Tryd.ntmps5
  go_wp2_with fail
  go_loopw [0, 5, 6] (fun tv ov iv wr => ∃ (t : ByteArray) (f i : Nat) (L : List Crd), tv = .string t ∧ iv = .int .i64 (i : Int) ∧ t.size ≤ f ∧ t.size ≤ s.size ∧ i + t.size ≤ s.size + 1 ∧ L.length + t.size ≤ s.size ∧ Hid (RF = readG f t.data.toList i (L.map Crd.x)) ∧ Hid (wr.ownsRow w.heap.size 33 5 ov L.length (L.flatMap Crd.cs)) ∧ Hid (CrsO wr ov.ownBlock L) ∧ Hid (Below w.heap.size w wr)) (fun tv _ _ _ => tSize tv)
  case atStart => exact ⟨s, s.size, 1, [], rfl, rfl, Nat.le_refl _, Nat.le_refl _, by omega, by simp, HR0, World.ownsRow_nil _ _ _ _, CrsO.nil _ _, Below.refl _ _⟩
  case round =>
    obtain ⟨t, f, i, L, rfl, rfl, htf, hts, hit, hlt, HG, HO, HCO, HB⟩ := hrel
    obtain ⟨A, cp, rfl⟩ := slice_of_own HO.out
    by_cases h0 : 0 < t.size
    case neg =>
      obtain ⟨e1, e2⟩ := emp_t h0
      have HC : Hid (Crs wr ⟨A, cp, L⟩) := crs_own HCO.out HO.out (by omega)
      have HCH := Lib.hid (creditsR_any ⟨A, cp, L⟩ wr HC.out (HMX.out.below HB.out))
      have HGE : Hid (RF = finR (L.map Crd.x)) := by show _ = _; rw [HG.out, readG_end (by rw [← ByteArray.toList_eq, e2]; rfl)]
      have hl3 : L.length ≤ 300000 := by omega
      clear e2
      obtain ⟨ff, hff⟩ : ∃ ff, crsF (L.map Crd.x) = ff := ⟨_, rfl⟩
      simp only [hff, Slc.v] at HCH
      have HFF := Lib.hid hff
      clear hff
      go_wp2_with fail
      refine HCH.out.mono ?_
      rintro e w1 ⟨rfl, hb1⟩
      have HC1 := Lib.hid (HC.out.below hb1)
      have HB1 := Lib.hid (HB.out.trans (hb1.mono HB.out.size))
      clear hb1
      by_cases hz : ff = 0
      · subst hz
        go_wp2_with fail
        go_ret3
        refine ⟨HB1.out, A, cp, L, ?_, ?_, hl3, HC1.out⟩
        · rw [HGE.out, finR_ok HFF.out]; rfl
        · rw [HGE.out, finR_ok HFF.out]
      · have hzb : (ff != 0) = true := by simpa using hz
        have HZ : Hid (ff ≠ 0) := hz
        clear hz
        go_wp2_with fail
        go_ret3
        exact readPost_nil (i := 0) (f := ff) (by rw [HGE.out, finR_bad (by rw [HFF.out]; exact HZ.out), HFF.out]) HB1.out rfl
    have e1 := emp_f h0
    have htl : t.data.toList.length ≠ 0 := by rw [size_list]; omega
    have HTL := Lib.hid htl
    clear htl
    have HCT := Lib.hid (str_Cut10 t wr (by omega))
    by_cases hc0 : t.data.toList.count 10 = 0
    · have HE : Hid (RF = ([], i, 10)) := by show _ = _; rw [HG.out, readG_nocut HTL.out (by rw [size_list]; exact htf) hc0]
      rw [cut_no hc0] at HCT
      clear hc0
      go_wp2_with fail
      refine HCT.out.mono ?_
      rintro e w1 ⟨rfl, n1, hw1⟩
      have HB1 : Hid (Below w.heap.size w w1) := by rw [hw1]; exact below_drewN HB.out n1
      have HSP := Lib.hid (split_any124 t w1 (by omega))
      clear hw1
      generalize splitB 124 t.data.toList = P at *
      go_wp2_with fail
      refine HSP.out.mono ?_
      rintro e w2 ⟨b2, c2, hle2, rfl, hr2, hb2⟩
      have HB2 := Lib.hid (HB1.out.trans (hb2.mono HB1.out.size))
      clear hr2 hb2 hle2
      by_cases h5 : P.length = 5
      · have hdz : ((P.length : Int) != 5) = false := by simp; omega
        clear h5
        go_wp2_with fail
        go_ret3
        exact readPost_nil HE.out HB2.out rfl
      · have hdz : ((P.length : Int) != 5) = true := by simp; omega
        clear h5
        go_wp2_with fail
        go_ret3
        exact readPost_nil HE.out HB2.out rfl
    obtain ⟨m, hm1, hm2, hm3, hm4, hm5⟩ := cut_some hc0
    rw [hm3] at HCT
    have HBADL : Hid (lineF (t.extract 0 m).data.toList = none → RF = ([], i, 10)) := fun h => by
      rw [HG.out, readG_bad HTL.out (by rw [size_list]; exact htf) (by rw [hm1, ← hm4]; exact h)]
    have HGO : Hid (∀ c, lineF (t.extract 0 m).data.toList = some c → RF = readG (f - 1) (t.extract (m + 1) t.size).data.toList (i + 1) (L.map Crd.x ++ [c])) := fun c h => by
      rw [HG.out, readG_go HTL.out (by rw [size_list]; exact htf) hc0 (by rw [hm1, ← hm4]; exact h), hm1, ← hm5]
    have hz1 : (t.extract 0 m).size = m := by rw [← size_list, hm4, List.length_take, size_list]; omega
    have hz2 : (t.extract (m + 1) t.size).size = t.size - (m + 1) := by rw [← size_list, hm5, List.length_drop, size_list]
    clear hm1 hm3 hm4 hm5 hc0
    generalize t.extract 0 m = ln at *
    generalize t.extract (m + 1) t.size = rs at *
    go_wp2_with fail
    refine HCT.out.mono ?_
    rintro e w1 ⟨rfl, n1, hw1⟩
    have HB1 : Hid (Below w.heap.size w w1) := by rw [hw1]; exact below_drewN HB.out n1
    have HO1 : Hid (w1.ownsRow w.heap.size 33 5 (.slice A L.length cp) L.length (L.flatMap Crd.cs)) := by rw [hw1]; exact own_drewN HO.out n1
    have HCO1 : Hid (CrsO w1 (Value.slice A L.length cp).ownBlock L) := HCO.out.below (by rw [hw1]; exact below_drewN (Below.refl _ _) n1)
    have HSP := Lib.hid (split_any124 ln w1 (by omega))
    have HLI := Lib.hid (fun (c : Crp) h => line_nice (l := ln.data.toList) (c := c) h (by rw [size_list]; omega))
    have HPL : Hid (∀ k, ((splitB 124 ln.data.toList).getD k []).length ≤ ln.size) := fun k => by have := piece_le (z := 124) (l := ln.data.toList) k; rw [size_list] at this; exact this
    have HL1 := Lib.hid (fun h => lineF_len (l := ln.data.toList) h)
    have HL2 := Lib.hid (fun h hn => lineF_num (l := ln.data.toList) h hn)
    have HL3 := Lib.hid (fun (n : Nat) h hn => lineF_ok (l := ln.data.toList) (n := n) h hn)
    clear hw1
    obtain ⟨lf, hlf⟩ : ∃ lf, lineF ln.data.toList = lf := ⟨_, rfl⟩
    rw [hlf] at HBADL HGO HLI HL1 HL2
    simp only [hlf] at HL3
    clear hlf
    generalize splitB 124 ln.data.toList = P at *
    go_wp2_with fail
    refine HSP.out.mono ?_
    rintro e w2 ⟨b2, c2, hle2, rfl, hr2, hb2⟩
    have HB2 := Lib.hid (HB1.out.trans (hb2.mono HB1.out.size))
    have HO2 := Lib.hid (own_belowL HO1.out hb2)
    have HCO2 := Lib.hid (HCO1.out.below hb2)
    have HR2 := Lib.hid hr2
    clear hr2 hb2 HO1 HCO1 HB1
    by_cases h5 : P.length = 5
    case neg =>
      have hdz : ((P.length : Int) != 5) = true := by simp; omega
      have HE := Lib.hid (HBADL.out (HL1.out h5))
      clear h5
      go_wp2_with fail
      go_ret3
      exact readPost_nil HE.out HB2.out rfl
    have hdz : ((P.length : Int) != 5) = false := by simp; omega
    obtain ⟨p0, p1, p2, p3, p4, rfl⟩ : ∃ p0 p1 p2 p3 p4, P = [p0, p1, p2, p3, p4] := by
      match P, h5 with
      | [a, b, c, d, e], _ => exact ⟨a, b, c, d, e, rfl⟩
    obtain ⟨b', off, hA, hbl, hcs⟩ := HR2.out.at_ (by rw [sc_len]; simp)
    obtain ⟨rfl, rfl⟩ : b2 = b' ∧ off = 0 := by injection hA with hA; injection hA with h1 h2; exact ⟨h1, h2.symm⟩
    have c0 : w2.cell? ⟨b2, 0, none⟩ = some (.string (mkB p0)) := hcs 0 _ rfl
    have c1 : w2.cell? ⟨b2, 1, none⟩ = some (.string (mkB p1)) := hcs 1 _ rfl
    have d2 : w2.cell? ⟨b2, 2, none⟩ = some (.string (mkB p2)) := hcs 2 _ rfl
    have c3 : w2.cell? ⟨b2, 3, none⟩ = some (.string (mkB p3)) := hcs 3 _ rfl
    have c4 : w2.cell? ⟨b2, 4, none⟩ = some (.string (mkB p4)) := hcs 4 _ rfl
    have z4 : (mkB p4).size ≤ 1000000 := by rw [mkB_size]; have := HPL.out 4; simp at this; omega
    have z3 : (mkB p3).size ≤ 1000000 := by rw [mkB_size]; have := HPL.out 3; simp at this; omega
    have e4 : (mkB p4).data.toList = p4 := by simp [mkB]
    have e3 : (mkB p3).data.toList = p3 := by simp [mkB]
    replace HL2 := Lib.hid (fun hn => HL2.out rfl hn)
    replace HL3 := Lib.hid (fun n hn => HL3.out n rfl hn)
    simp only [List.getD_cons_zero, List.getD_cons_succ] at HL2 HL3
    rw [← e4] at HL2 HL3
    rw [← e3] at HL3
    have HE3 : Hid (insL (mkB p3).data.toList = if (mkB p3).data.toList = [] then [] else (splitB 44 (mkB p3).data.toList).map mkB) := rfl
    have HSP3 := Lib.hid (fun (W : World) => split_any44 (mkB p3) W (by omega))
    clear hcs hA h5 HL1 HPL e3 e4 HR2 HSP HCT
    simp only [List.length_cons, List.length_nil] at hdz ⊢
    generalize mkB p0 = t0 at *
    generalize mkB p1 = t1 at *
    generalize mkB p2 = t2 at *
    generalize mkB p3 = t3 at *
    generalize mkB p4 = t4 at *
    have HNR := Lib.hid (numR_any t4 w2 (by omega))
    obtain ⟨nf, hnf⟩ : ∃ nf, numF t4.data.toList = nf := ⟨_, rfl⟩
    rw [hnf] at HNR HL2
    simp only [hnf] at HL3
    have HNL : Hid (∀ n, nf = some n → n < 1000000) := fun n h => numF_lt (hnf.trans h)
    clear hnf
    cases nf with
    | none =>
      have HE := Lib.hid (HBADL.out (HL2.out (by first | rfl | trivial)))
      go_wp2_with fail
      refine HNR.out.mono ?_
      rintro e w3 ⟨rfl, rfl⟩
      unfold nVal
      simp only [Option.getD_none, Option.isSome_none]
      go_wp2_with fail
      go_ret3
      exact readPost_nil HE.out HB2.out rfl
    | some n =>
      have hn6 := HNL.out n rfl
      have HLN := Lib.hid (HL3.out n rfl)
      have HNI := Lib.hid (fun (sl : Slc ByteArray) hs => HLI.out _ HLN.out sl hs)
      have HGE := Lib.hid (HGO.out _ HLN.out)
      clear HL2 HL3 HLN HBADL HLI HGO HNL
      go_wp2_with fail
      refine HNR.out.mono ?_
      rintro e w3 ⟨rfl, rfl⟩
      unfold nVal
      simp only [Option.getD_some, Option.isSome_some]
      go_upto_region 14 with (fail)
      have HS8 : Hid (∀ W, Gq w2 W → W.cell? ⟨b2, 0, none⟩ = some (.string t0) ∧ W.cell? ⟨b2, 1, none⟩ = some (.string t1) ∧ W.cell? ⟨b2, 2, none⟩ = some (.string t2) ∧ Gq w2 W) := fun W hW => by
        rw [Below.cell hW (by exact hbl), Below.cell hW (by exact hbl), Below.cell hW (by exact hbl)]
        exact ⟨c0, c1, d2, hW⟩
      have hBD : Gq w2 w2.drew := (Gq.refl _).drew
      obtain ⟨w4, hw4⟩ : ∃ w4, w4 = (w2.alloc (.cells #[.string t0, .string t2, .string t1, .slice none 0 0, .int .i64 (n : Int)] 33)).drew := ⟨_, rfl⟩
      have HK4 : Hid (Blk w4 w2.heap.size 33 [.string t0, .string t2, .string t1, .slice none 0 0, .int .i64 (n : Int)]) := by rw [hw4]; exact Blk.new w2 _ _
      have HG4 : Hid (Gq w2 w4) := by rw [hw4]; exact ((Gq.refl _).alloc _).drew
      have d3 : w4.cell? ⟨b2, 3, none⟩ = some (.string t3) := by rw [Below.cell HG4.out (by exact hbl)]; exact c3
      have HB4 := Lib.hid (HB2.out.trans (HG4.out.mono HB2.out.size))
      have HO4 := Lib.hid (own_belowL HO2.out HG4.out)
      have HCO4 := Lib.hid (HCO2.out.below HG4.out)
      have HO2L : Hid (∀ b, (Value.slice A L.length cp).ownBlock = some b → b < w2.heap.size) := fun b hb => (HO2.out.lt b hb).2
      have HW4 := Lib.hid hw4
      clear hw4
      go_region_held3 (fun W => W.cell? ⟨b2, 0, none⟩ = some (.string t0) ∧ W.cell? ⟨b2, 1, none⟩ = some (.string t1) ∧ W.cell? ⟨b2, 2, none⟩ = some (.string t2) ∧ Gq w2 W)
          (first | exact HS8.out _ hBD | exact HS8.out _ (Gq.alloc hBD _)) (fail)
      all_goals
        rw [← HW4.out]
        clear HS8 hBD c0 c1 d2 c3 c4
        by_cases h3 : 0 < t3.size
        case neg =>
          obtain ⟨e1, e2⟩ := emp_t h3
          have HI : Hid (insL t3.data.toList = []) := by show _ = _; rw [HE3.out, ← ByteArray.toList_eq, e2]; rfl
          clear e2 HE3 HSP3
          obtain ⟨nc, hnc⟩ : ∃ nc : Crd, nc = ⟨t0, t2, t1, (⟨none, 0, []⟩ : Slc ByteArray), (n : Int)⟩ := ⟨_, rfl⟩
          have hX : (L ++ [nc]).map Crd.x = L.map Crd.x ++ [⟨t0, t2, t1, insL t3.data.toList, (n : Int)⟩] := by
            rw [List.map_append, hnc]; simp only [List.map_cons, List.map_nil, Crd.x]; rw [HI.out]
          rw [← hX] at HGE
          have HNC : Hid (CrNice nc) := by rw [hnc]; exact HNI.out (⟨none, 0, []⟩ : Slc ByteArray) HI.out.symm
          have HCS : Hid (nc.cs = [.string t0, .string t2, .string t1, (⟨none, 0, []⟩ : Slc ByteArray).v, .int .i64 (n : Int)]) := by rw [hnc]; rfl
          have HCN : Hid (CrsO w4 (Value.slice A L.length cp).ownBlock (L ++ [nc])) := by
            refine CrsO.snoc HCO4.out ?_ HNC.out
            rw [hnc]
            exact .inl rfl
          clear hnc hX HNC HNI
          have d0 : w4.cell? ⟨w2.heap.size, 0, none⟩ = some _ := HK4.out.cell 0
          have d1 : w4.cell? ⟨w2.heap.size, 1, none⟩ = some _ := HK4.out.cell 1
          have d2 : w4.cell? ⟨w2.heap.size, 2, none⟩ = some _ := HK4.out.cell 2
          have d3 : w4.cell? ⟨w2.heap.size, 3, none⟩ = some _ := HK4.out.cell 3
          have d4 : w4.cell? ⟨w2.heap.size, 4, none⟩ = some _ := HK4.out.cell 4
          obtain ⟨sv, hsv⟩ : ∃ sv : Value, (⟨none, 0, []⟩ : Slc ByteArray).v = sv := ⟨_, rfl⟩
          have HONE : Hid (∀ u ∈ [Value.string t0, .string t2, .string t1, sv, .int .i64 (n : Int)], u.oneCell' = true) := by
            intro u hu
            simp only [List.mem_cons, List.not_mem_nil, or_false] at hu
            rcases hu with rfl | rfl | rfl | rfl | rfl <;> first | rfl | (rw [← hsv]; rfl)
          simp only [Slc.v, List.length_nil] at hsv
          rw [hsv] at d3
          simp only [Slc.v, List.length_nil] at HCS
          rw [hsv] at HCS
          clear hsv
          have HOA : Hid ((w4.alloc (.cells #[.string t0, .string t2, .string t1, sv, .int .i64 (n : Int)] 33)).ownsRow w.heap.size 33 5 (.slice A L.length cp) L.length (L.flatMap Crd.cs)) := HO4.out.alloc _
          have HCA : Hid (CrsO (w4.alloc (.cells #[.string t0, .string t2, .string t1, sv, .int .i64 (n : Int)] 33)) (Value.slice A L.length cp).ownBlock (L ++ [nc])) := HCN.out.below ((Below.refl _ _).alloc (Nat.le_refl _) _)
          go_wp2_with (at_builtin; refine wpList_append_lies _ rfl _ _ 22 rfl w.heap.size 33 i0 _ 5 80 Tryd.underlying22 HII.out.1 HII.out.2.1 HII.out.2.2.1 HII.out.2.2.2 rfl (by decide) _ _ _ rfl HOA.out ⟨w4.heap.size, 0, none⟩ 1 1 [.string t0, .string t2, .string t1, sv, .int .i64 (n : Int)] (by rfl) (by rfl) (World.news_of_block (cs := #[.string t0, .string t2, .string t1, sv, .int .i64 (n : Int)]) (t := 33) (fr := (0, 0)) (heap_alloc_new w4 _)) (HONE.out) (by decide) (by unfold maxLen; omega) (by omega) (by have := HB4.out.size; simp; omega) (w4.heap.size + 1) (by simp) ?_; intro g2 cap2 w7 hown2 hgrow2 hat2 hlt2)
          have HO7 : Hid (w7.ownsRow w.heap.size 33 5 (.slice (some ⟨g2, 0, none⟩) (L.length + 1) cap2) (L ++ [nc]).length ((L ++ [nc]).flatMap Crd.cs)) := by
            show World.ownsRow _ _ _ _ _ _ _
            rw [List.length_append, flat_snoc, HCS.out]
            exact hown2
          have HCO7 : Hid (CrsO w7 (some g2) (L ++ [nc])) := CrsO.app HCA.out hgrow2 (by rw [show (w4.alloc (.cells #[.string t0, .string t2, .string t1, sv, .int .i64 (n : Int)] 33)).heap.size = w4.heap.size + 1 by simp]; exact hat2)
          have HB7 : Hid (Below w.heap.size w w7) := (HB4.out.alloc HB4.out.size _).grown hgrow2 (by have := HB4.out.size; simp; omega) (fun k hk => (HO4.out.lt k hk).1)
          have hl7 : (L ++ [nc]).length + rs.size ≤ s.size := by rw [List.length_append, hz2]; simp; omega
          generalize L ++ [nc] = L2 at *
          clear hown2 hgrow2 hat2 hlt2 HOA HCA d0 d1 d2 d3 d4
          go_wp2_with fail
          go_roundw
          case rel => exact ⟨rs, f - 1, i + 1, L2, rfl, by go_num, by omega, by omega, by omega, hl7, HGE, HO7, HCO7, HB7⟩
          case measure => simp [tSize]; omega
        have e1 := emp_f h3
        have HI : Hid (insL t3.data.toList = (splitB 44 t3.data.toList).map mkB) := by
          show _ = _
          rw [HE3.out, if_neg]
          intro hh; rw [← ByteArray.toList_eq] at hh; rw [hh] at e1; cases e1
        have HSC := Lib.hid (HSP3.out w4)
        go_wp2_with fail
        refine HSC.out.mono ?_
        rintro e w5 ⟨b5, cap5, hle5, rfl, hr5, hb5⟩
        have hk4 := HK4.out.lt
        have HB5 := Lib.hid (HB4.out.trans (hb5.mono HB4.out.size))
        have HG5 : Hid (Gq w2 w5) := Below.trans HG4.out (hb5.mono (Below.size HG4.out))
        have HK5 : Hid (Blk w5 w2.heap.size 33 [.string t0, .string t2, .string t1, .slice none 0 0, .int .i64 (n : Int)]) := HK4.out.same (Same.of_below (S := fun _ => True) hb5) trivial
        have HR5 : Hid (RdS (fun b => w2.heap.size ≠ b ∧ (Value.slice A L.length cp).ownBlock ≠ some b) w5 (some ⟨b5, 0, none⟩) (sc (splitB 44 t3.data.toList))) := by
          rcases hr5 with h | ⟨b', off', h1, h2, h3⟩
          · exact .inl h
          · refine .inr ⟨b', off', h1, ?_, h2, h3⟩
            injection h1 with h1
            injection h1 with h1
            subst h1
            refine ⟨by omega, fun hh => ?_⟩
            have := HO2L.out _ hh
            omega
        clear hr5 hb5 HK4 HB4 HO4 HCO4
        have hszw2 := HB2.out.size
        have g3 := HK5.out.frozen 3
        have d3 : w5.cell? ⟨w2.heap.size, 3, none⟩ = some _ := HK5.out.cell 3
        obtain ⟨w6, hw6⟩ : ∃ w6, w6 = w5.setCell ⟨w2.heap.size, 3, none⟩ (.slice (some ⟨b5, 0, none⟩) (splitB 44 t3.data.toList).length cap5) := ⟨_, rfl⟩
        have hs6 : Same (fun b => w2.heap.size ≠ b) w5 w6 := by rw [hw6]; exact Same.set _ _ _ (by simp)
        have HB6 : Hid (Below w.heap.size w w6) := by rw [hw6]; exact HB5.out.setCell (p := ⟨w2.heap.size, 3, none⟩) (by exact hszw2) _
        have HK6 : Hid (Blk w6 w2.heap.size 33 [.string t0, .string t2, .string t1, .slice (some ⟨b5, 0, none⟩) (splitB 44 t3.data.toList).length cap5, .int .i64 (n : Int)]) := by rw [hw6]; exact HK5.out.set_ 3 _
        have HG6 : Hid (Gq w2 w6) := by rw [hw6]; exact Below.setCell HG5.out (p := ⟨w2.heap.size, 3, none⟩) (Nat.le_refl _) _
        have HO6 := Lib.hid (own_belowL HO2.out HG6.out)
        have HCO6 := Lib.hid (HCO2.out.below HG6.out)
        have HR6 : Hid (RdS (fun b => (Value.slice A L.length cp).ownBlock ≠ some b) w6 (some ⟨b5, 0, none⟩) (sc (splitB 44 t3.data.toList))) :=
          (HR5.out.same (hs6.mono fun b _ h => h.1)).mono fun b _ h => h.2
        have HW6 := Lib.hid hw6
        clear hw6 hs6
        go_upto_region 17 with (fail)
        rw [← HW6.out]
        have HL5 : Hid ((splitB 44 t3.data.toList).length = ((splitB 44 t3.data.toList).map mkB).length) := by show _ = _; simp
        have HR7 : Hid (sc (splitB 44 t3.data.toList) = sb ((splitB 44 t3.data.toList).map mkB)) := by show _ = _; rw [sb_mk]; rfl
        rw [HL5.out] at HK6
        rw [HR7.out] at HR6
        clear d3 g3
        generalize (splitB 44 t3.data.toList).map mkB = In at *
        obtain ⟨nc, hnc⟩ : ∃ nc : Crd, nc = ⟨t0, t2, t1, (⟨some ⟨b5, 0, none⟩, cap5, In⟩ : Slc ByteArray), (n : Int)⟩ := ⟨_, rfl⟩
        have hX : (L ++ [nc]).map Crd.x = L.map Crd.x ++ [⟨t0, t2, t1, insL t3.data.toList, (n : Int)⟩] := by
          rw [List.map_append, hnc]; simp only [List.map_cons, List.map_nil, Crd.x]; rw [HI.out]
        rw [← hX] at HGE
        have HNC : Hid (CrNice nc) := by rw [hnc]; exact HNI.out (⟨some ⟨b5, 0, none⟩, cap5, In⟩ : Slc ByteArray) HI.out.symm
        have HCS : Hid (nc.cs = [.string t0, .string t2, .string t1, (⟨some ⟨b5, 0, none⟩, cap5, In⟩ : Slc ByteArray).v, .int .i64 (n : Int)]) := by rw [hnc]; rfl
        have HCN : Hid (CrsO w6 (Value.slice A L.length cp).ownBlock (L ++ [nc])) := by
          refine CrsO.snoc HCO6.out ?_ HNC.out
          rw [hnc]
          exact HR6.out
        clear hnc hX HNC HNI
        have d0 : w6.cell? ⟨w2.heap.size, 0, none⟩ = some _ := HK6.out.cell 0
        have d1 : w6.cell? ⟨w2.heap.size, 1, none⟩ = some _ := HK6.out.cell 1
        have d2 : w6.cell? ⟨w2.heap.size, 2, none⟩ = some _ := HK6.out.cell 2
        have d3 : w6.cell? ⟨w2.heap.size, 3, none⟩ = some _ := HK6.out.cell 3
        have d4 : w6.cell? ⟨w2.heap.size, 4, none⟩ = some _ := HK6.out.cell 4
        obtain ⟨sv, hsv⟩ : ∃ sv : Value, (⟨some ⟨b5, 0, none⟩, cap5, In⟩ : Slc ByteArray).v = sv := ⟨_, rfl⟩
        have HONE : Hid (∀ u ∈ [Value.string t0, .string t2, .string t1, sv, .int .i64 (n : Int)], u.oneCell' = true) := by
          intro u hu
          simp only [List.mem_cons, List.not_mem_nil, or_false] at hu
          rcases hu with rfl | rfl | rfl | rfl | rfl <;> first | rfl | (rw [← hsv]; rfl)
        simp only [Slc.v] at hsv
        rw [hsv] at d3
        simp only [Slc.v] at HCS
        rw [hsv] at HCS
        clear hsv
        have HOA : Hid ((w6.alloc (.cells #[.string t0, .string t2, .string t1, sv, .int .i64 (n : Int)] 33)).ownsRow w.heap.size 33 5 (.slice A L.length cp) L.length (L.flatMap Crd.cs)) := HO6.out.alloc _
        have HCA : Hid (CrsO (w6.alloc (.cells #[.string t0, .string t2, .string t1, sv, .int .i64 (n : Int)] 33)) (Value.slice A L.length cp).ownBlock (L ++ [nc])) := HCN.out.below ((Below.refl _ _).alloc (Nat.le_refl _) _)
        go_wp2_with (at_builtin; refine wpList_append_lies _ rfl _ _ 22 rfl w.heap.size 33 i0 _ 5 80 Tryd.underlying22 HII.out.1 HII.out.2.1 HII.out.2.2.1 HII.out.2.2.2 rfl (by decide) _ _ _ rfl HOA.out ⟨w6.heap.size, 0, none⟩ 1 1 [.string t0, .string t2, .string t1, sv, .int .i64 (n : Int)] (by rfl) (by rfl) (World.news_of_block (cs := #[.string t0, .string t2, .string t1, sv, .int .i64 (n : Int)]) (t := 33) (fr := (0, 0)) (heap_alloc_new w6 _)) (HONE.out) (by decide) (by unfold maxLen; omega) (by omega) (by have := HB6.out.size; simp; omega) (w6.heap.size + 1) (by simp) ?_; intro g2 cap2 w7 hown2 hgrow2 hat2 hlt2)
        have HO7 : Hid (w7.ownsRow w.heap.size 33 5 (.slice (some ⟨g2, 0, none⟩) (L.length + 1) cap2) (L ++ [nc]).length ((L ++ [nc]).flatMap Crd.cs)) := by
          show World.ownsRow _ _ _ _ _ _ _
          rw [List.length_append, flat_snoc, HCS.out]
          exact hown2
        have HCO7 : Hid (CrsO w7 (some g2) (L ++ [nc])) := CrsO.app HCA.out hgrow2 (by rw [show (w6.alloc (.cells #[.string t0, .string t2, .string t1, sv, .int .i64 (n : Int)] 33)).heap.size = w6.heap.size + 1 by simp]; exact hat2)
        have HB7 : Hid (Below w.heap.size w w7) := (HB6.out.alloc HB6.out.size _).grown hgrow2 (by have := HB6.out.size; simp; omega) (fun k hk => (HO6.out.lt k hk).1)
        have hl7 : (L ++ [nc]).length + rs.size ≤ s.size := by rw [List.length_append, hz2]; simp; omega
        generalize L ++ [nc] = L2 at *
        clear hown2 hgrow2 hat2 hlt2 HOA HCA d0 d1 d2 d3 d4
        go_wp2_with fail
        go_roundw
        case rel => exact ⟨rs, f - 1, i + 1, L2, rfl, by go_num, by omega, by omega, by omega, hl7, HGE, HO7, HCO7, HB7⟩
        case measure => simp [tSize]; omega
end Go.Proofs.YteklfjkiaknfjaaDoor
