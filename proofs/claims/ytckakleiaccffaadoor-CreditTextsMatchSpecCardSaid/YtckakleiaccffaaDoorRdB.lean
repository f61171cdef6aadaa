/- The contract of credit.Read. -/
import Derived.Test.YtckakleiaccffaaDoorRdA
import Derived.Test.YtckakleiaccffaaDoorCrC
import Derived.Test.YtckakleiaccffaaDoorSep10
namespace Go.Proofs.YtckakleiaccffaaDoor
open Go.RowKit Go.Dw

/-- what Read says -/
def ReadPost (w : World) (r : List Crp × Nat × Int) (e : Ending) (w' : World) : Prop :=
  Below w.heap.size w w' ∧ ∃ A c, ∃ L : List Crd, e = .returned (.tuple #[.slice A L.length c, .int .i64 (r.2.1 : Int), .int .i64 r.2.2]) ∧ L.map Crd.x = r.1 ∧ L.length ≤ 300000 ∧ Crs w' ⟨A, c, L⟩
theorem readPost_nil {w w' : World} {i : Nat} {f : Int} {e : Ending} {r : List Crp × Nat × Int} (hr : r = ([], i, f)) (hb : Below w.heap.size w w') (he : e = .returned (.tuple #[.slice none 0 0, .int .i64 (i : Int), .int .i64 f])) : ReadPost w r e w' := by
  subst hr
  exact ⟨hb, none, 0, [], he, rfl, by simp, by simp, .inl rfl, by simp⟩
theorem info_cr : (Tryd.prog.info? 38).map (fun i => (i.zero, i.size, i.bytes)) = some (some (.agg #[.string ByteArray.empty, .string ByteArray.empty, .string ByteArray.empty, .slice none 0 0, .int .i64 0]), 5, 80) := by kernel_rfl
theorem cut_some {t : ByteArray} (h : t.data.toList.count 10 ≠ 0) : ∃ m, cutN t.data.toList = m ∧ m < t.size ∧ cutV10 t = .tuple #[.string (t.extract 0 m), .string (t.extract (m + 1) t.size), .bool true] ∧ (t.extract 0 m).data.toList = t.data.toList.take m ∧ (t.extract (m + 1) t.size).data.toList = t.data.toList.drop (m + 1) := by
  obtain ⟨m, h1, h2⟩ := cut_at (z := 10) (t := t.data.toList) (by omega)
  have hm : cutN t.data.toList = m := by unfold cutN; rw [h1]; rfl
  refine ⟨m, hm, by rw [size_list] at h2; exact h2, ?_, ?_, ext_end t (m + 1)⟩
  · unfold cutV10; rw [if_neg h, h1]; rfl
  · rw [← ByteArray.toList_eq, ext_list, List.drop_zero]
theorem cut_no {t : ByteArray} (h : t.data.toList.count 10 = 0) : cutV10 t = .tuple #[.string t, .string ⟨#[]⟩, .bool false] := by unfold cutV10; rw [if_pos h]
def tSize (v : Value) : Nat := match v with | .string t => t.size | _ => 0
theorem finR_ok {out : List Crp} (h : crsF out = 0) : finR out = (out, 0, 0) := by unfold finR; rw [if_pos h]
theorem finR_bad {out : List Crp} (h : crsF out ≠ 0) : finR out = ([], 0, crsF out) := by unfold finR; rw [if_neg h]

set_option maxRecDepth 100000 in
set_option maxHeartbeats 4000000 in
theorem read_any (s : ByteArray) (w : World) (hm : HasMax w) :
    Calls Tryd.prog 7 #[.string s] w (ReadPost w (readF s.data.toList)) := by
  by_cases hbig : 300000 < s.size
  · have HR : Hid (readF s.data.toList = ([], 0, 2)) := by show _ = _; unfold readF; rw [if_pos (by rw [size_list]; exact hbig)]
    go_enter Tryd.func7, Tryd.ntmps7
    go_wp2_with fail
    go_ret3
    exact readPost_nil HR.out (Below.refl _ _) rfl
  have HMX := Lib.hid hm
  have HR0 : Hid (readF s.data.toList = readG s.size s.data.toList 1 []) := by show _ = _; unfold readF; rw [if_neg (by rw [size_list]; exact hbig), size_list]
  obtain ⟨RF, hRF⟩ : ∃ RF, readF s.data.toList = RF := ⟨_, rfl⟩
  rw [hRF] at HR0 ⊢
  obtain ⟨i0, hi0, hz0, hz1, hz2⟩ := info_parts info_cr
  have HII := Lib.hid (And.intro hi0 (And.intro hz0 (And.intro hz1 hz2)))
  clear hRF hm hi0 hz0 hz1 hz2
  go_enter Tryd.func7, Tryd.ntmps7
  go_wp2_with fail
  go_loopw [0, 5, 6] (fun tv ov iv wr => ∃ (t : ByteArray) (f i : Nat) (L : List Crd), tv = .string t ∧ iv = .int .i64 (i : Int) ∧ t.size ≤ f ∧ t.size ≤ s.size ∧ i + t.size ≤ s.size + 1 ∧ L.length + t.size ≤ s.size ∧ Hid (RF = readG f t.data.toList i (L.map Crd.x)) ∧ Hid (wr.ownsRow w.heap.size 38 5 ov L.length (L.flatMap Crd.cs)) ∧ Hid (CrsO wr ov.ownBlock L) ∧ Hid (Below w.heap.size w wr)) (fun tv _ _ _ => tSize tv)
  case atStart => exact ⟨s, s.size, 1, [], rfl, rfl, Nat.le_refl _, Nat.le_refl _, by omega, by simp, HR0, World.ownsRow_nil _ _ _ _, CrsO.nil _ _, Below.refl _ _⟩
  case round =>
    obtain ⟨t, f, i, L, rfl, rfl, htf, hts, hit, hlt, HG, HO, HCO, HB⟩ := hrel
    obtain ⟨A, cp, rfl⟩ := slice_of_own HO.out
    by_cases h0 : 0 < t.size
    case neg =>
      obtain ⟨e1, e2⟩ := emp_t h0
      have HC : Hid (Crs wr ⟨A, cp, L⟩) := crs_own HCO.out HO.out (by omega)
      have HCH := Lib.hid (credits_any ⟨A, cp, L⟩ wr HC.out (HMX.out.below HB.out))
      have HGE : Hid (RF = finR (L.map Crd.x)) := by show _ = _; rw [HG.out, readG_end (by rw [← ByteArray.toList_eq, e2]; rfl)]
      have hl3 : L.length ≤ 300000 := by omega
      clear e2
      obtain ⟨ff, hff⟩ : ∃ ff, crsF (L.map Crd.x) = ff := ⟨_, rfl⟩
      simp only [hff, Slc.v] at HCH
      have HFF := Lib.hid hff
      clear hff
      go_wp2_with fail
      refine HCH.out.mono ?_
      rintro e w1 ⟨rfl, hb1⟩
      have HC1 := Lib.hid (HC.out.below hb1)
      have HB1 := Lib.hid (HB.out.trans (hb1.mono HB.out.size))
      clear hb1
      by_cases hz : ff = 0
      · subst hz
        go_wp2_with fail
        go_ret3
        refine ⟨HB1.out, A, cp, L, ?_, ?_, hl3, HC1.out⟩
        · rw [HGE.out, finR_ok HFF.out]; rfl
        · rw [HGE.out, finR_ok HFF.out]
      · have hzb : (ff != 0) = true := by simpa using hz
        have HZ : Hid (ff ≠ 0) := hz
        clear hz
        go_wp2_with fail
        go_ret3
        exact readPost_nil (i := 0) (f := ff) (by rw [HGE.out, finR_bad (by rw [HFF.out]; exact HZ.out), HFF.out]) HB1.out rfl
    have e1 := emp_f h0
    have htl : t.data.toList.length ≠ 0 := by rw [size_list]; omega
    have HTL := Lib.hid htl
    clear htl
    have HCT := Lib.hid (str_Cut10 t wr (by omega))
    by_cases hc0 : t.data.toList.count 10 = 0
    · have HE : Hid (RF = ([], i, 10)) := by show _ = _; rw [HG.out, readG_nocut HTL.out (by rw [size_list]; exact htf) hc0]
      rw [cut_no hc0] at HCT
      clear hc0
      go_wp2_with fail
      refine HCT.out.mono ?_
      rintro e w1 ⟨rfl, n1, hw1⟩
      have HB1 : Hid (Below w.heap.size w w1) := by rw [hw1]; exact below_drewN HB.out n1
      have HLN := Lib.hid (line_any t w1 (by omega))
      clear hw1
      obtain ⟨lf, hlf⟩ : ∃ lf, lineF t.data.toList = lf := ⟨_, rfl⟩
      go_wp2_with fail
      refine HLN.out.mono ?_
      rintro e w2 hlp
      unfold LinePost at hlp
      rw [hlf] at hlp
      clear hlf
      cases lf with
      | none =>
        obtain ⟨hb2, rfl⟩ := hlp
        have HB2 := Lib.hid (HB1.out.trans (hb2.mono HB1.out.size))
        clear hb2
        unfold crZero
        go_wp2_with fail
        go_ret3
        exact readPost_nil HE.out (HB2.out.alloc HB2.out.size _) rfl
      | some c =>
        obtain ⟨hb2, sl, hsl, rfl, hrs⟩ := hlp
        have HB2 := Lib.hid (HB1.out.trans (hb2.mono HB1.out.size))
        clear hb2 hsl hrs
        simp only [Crd.cs, Slc.v]
        go_wp2_with fail
        go_ret3
        exact readPost_nil HE.out (HB2.out.alloc HB2.out.size _) rfl
    obtain ⟨m, hm1, hm2, hm3, hm4, hm5⟩ := cut_some hc0
    rw [hm3] at HCT
    have HBADL : Hid (lineF (t.extract 0 m).data.toList = none → RF = ([], i, 10)) := fun h => by
      rw [HG.out, readG_bad HTL.out (by rw [size_list]; exact htf) (by rw [hm1, ← hm4]; exact h)]
    have HGO : Hid (∀ c, lineF (t.extract 0 m).data.toList = some c → RF = readG (f - 1) (t.extract (m + 1) t.size).data.toList (i + 1) (L.map Crd.x ++ [c])) := fun c h => by
      rw [HG.out, readG_go HTL.out (by rw [size_list]; exact htf) hc0 (by rw [hm1, ← hm4]; exact h), hm1, ← hm5]
    have hz1 : (t.extract 0 m).size = m := by rw [← size_list, hm4, List.length_take, size_list]; omega
    have hz2 : (t.extract (m + 1) t.size).size = t.size - (m + 1) := by rw [← size_list, hm5, List.length_drop, size_list]
    clear hm1 hm3 hm4 hm5 hc0
    generalize t.extract 0 m = ln at *
    generalize t.extract (m + 1) t.size = rs at *
    go_wp2_with fail
    refine HCT.out.mono ?_
    rintro e w1 ⟨rfl, n1, hw1⟩
    have HB1 : Hid (Below w.heap.size w w1) := by rw [hw1]; exact below_drewN HB.out n1
    have HO1 : Hid (w1.ownsRow w.heap.size 38 5 (.slice A L.length cp) L.length (L.flatMap Crd.cs)) := by rw [hw1]; exact own_drewN HO.out n1
    have HCO1 : Hid (CrsO w1 (Value.slice A L.length cp).ownBlock L) := HCO.out.below (by rw [hw1]; exact below_drewN (Below.refl _ _) n1)
    have HLN := Lib.hid (line_any ln w1 (by omega))
    have HLI := Lib.hid (fun (c : Crp) h => line_nice (l := ln.data.toList) (c := c) h (by rw [size_list]; omega))
    clear hw1
    obtain ⟨lf, hlf⟩ : ∃ lf, lineF ln.data.toList = lf := ⟨_, rfl⟩
    rw [hlf] at HBADL HGO HLI
    go_wp2_with fail
    refine HLN.out.mono ?_
    rintro e w2 hlp
    unfold LinePost at hlp
    rw [hlf] at hlp
    clear hlf
    cases lf with
    | none =>
      obtain ⟨hb2, rfl⟩ := hlp
      have HB2 := Lib.hid (HB1.out.trans (hb2.mono HB1.out.size))
      clear hb2
      unfold crZero
      go_wp2_with fail
      go_ret3
      exact readPost_nil (HBADL.out (by first | rfl | trivial)) (HB2.out.alloc HB2.out.size _) rfl
    | some c =>
      obtain ⟨hb2, sl, hsl, rfl, hrs⟩ := hlp
      have HB2 := Lib.hid (HB1.out.trans (hb2.mono HB1.out.size))
      have HNI := Lib.hid (HLI.out c rfl sl hsl)
      have HGE := Lib.hid (HGO.out c rfl)
      have hX : (L ++ [(⟨c.r, c.p, c.n, sl, c.m⟩ : Crd)]).map Crd.x = L.map Crd.x ++ [c] := by
        rw [List.map_append]; simp only [List.map_cons, List.map_nil, Crd.x, hsl]
      rw [← hX] at HGE
      obtain ⟨nc, hnc⟩ : ∃ nc : Crd, nc = ⟨c.r, c.p, c.n, sl, c.m⟩ := ⟨_, rfl⟩
      rw [← hnc] at HNI HGE
      have HO2 := Lib.hid (own_belowL HO1.out hb2)
      have HCO2 : Hid (CrsO w2 (Value.slice A L.length cp).ownBlock (L ++ [nc])) := by
        refine CrsO.snoc (HCO1.out.below hb2) ?_ HNI.out
        rw [hnc]
        refine hrs.mono fun b hb hb2 hh => ?_
        have := (HO1.out.lt b hh).2
        omega
      have hcs : nc.cs = [.string c.r, .string c.p, .string c.n, .slice sl.a sl.xs.length sl.c, .int .i64 c.m] := by rw [hnc]; rfl
      have HCS := Lib.hid hcs
      clear hb2 hsl hrs hnc hX hcs HBADL HGO HLI HLN HCT HO1 HCO1 HB1
      simp only [Crd.cs, Slc.v]
      generalize c.r = x1 at *
      generalize c.p = x2 at *
      generalize c.n = x3 at *
      generalize c.m = x5 at *
      obtain ⟨w3, hw3⟩ : ∃ w3, w3 = w2.alloc (.cells #[.string x1, .string x2, .string x3, .slice sl.a sl.xs.length sl.c, .int .i64 x5] 38) := ⟨_, rfl⟩
      have HB3 : Hid (Below w.heap.size w w3) := by rw [hw3]; exact HB2.out.alloc HB2.out.size _
      have HO3 : Hid (w3.ownsRow w.heap.size 38 5 (.slice A L.length cp) L.length (L.flatMap Crd.cs)) := by rw [hw3]; exact HO2.out.alloc _
      have HCO3 : Hid (CrsO w3 (Value.slice A L.length cp).ownBlock (L ++ [nc])) := HCO2.out.below (by rw [hw3]; exact (Below.refl _ _).alloc (Nat.le_refl _) _)
      have HK3 : Hid (Blk w3 w2.heap.size 38 [.string x1, .string x2, .string x3, .slice sl.a sl.xs.length sl.c, .int .i64 x5]) := by rw [hw3]; exact Blk.new w2 _ _
      have d0 : w3.cell? ⟨w2.heap.size, 0, none⟩ = some _ := HK3.out.cell 0
      have d1 : w3.cell? ⟨w2.heap.size, 1, none⟩ = some _ := HK3.out.cell 1
      have d2 : w3.cell? ⟨w2.heap.size, 2, none⟩ = some _ := HK3.out.cell 2
      have d3 : w3.cell? ⟨w2.heap.size, 3, none⟩ = some _ := HK3.out.cell 3
      have d4 : w3.cell? ⟨w2.heap.size, 4, none⟩ = some _ := HK3.out.cell 4
      have HW3 := Lib.hid hw3
      clear hw3 HO2 HCO2
      have HO4 : Hid ((w3.alloc (.cells #[.string x1, .string x2, .string x3, .slice sl.a sl.xs.length sl.c, .int .i64 x5] 38)).ownsRow w.heap.size 38 5 (.slice A L.length cp) L.length (L.flatMap Crd.cs)) := HO3.out.alloc _
      have HCO4 : Hid (CrsO (w3.alloc (.cells #[.string x1, .string x2, .string x3, .slice sl.a sl.xs.length sl.c, .int .i64 x5] 38)) (Value.slice A L.length cp).ownBlock (L ++ [nc])) := HCO3.out.below ((Below.refl _ _).alloc (Nat.le_refl _) _)
      go_upto_region 11 with (fail)
      rw [← HW3.out]
      go_wp2_with (at_builtin; refine wpList_append_lies _ rfl _ _ 22 rfl w.heap.size 38 i0 _ 5 80 Tryd.underlying22 HII.out.1 HII.out.2.1 HII.out.2.2.1 HII.out.2.2.2 rfl (by decide) _ _ _ rfl HO4.out ⟨w3.heap.size, 0, none⟩ 1 1 [.string x1, .string x2, .string x3, .slice sl.a sl.xs.length sl.c, .int .i64 x5] (by rfl) (by rfl) (World.news_of_block (cs := #[.string x1, .string x2, .string x3, .slice sl.a sl.xs.length sl.c, .int .i64 x5]) (t := 38) (fr := (0, 0)) (heap_alloc_new w3 _)) (by simp [Value.oneCell']) (by decide) (by unfold maxLen; omega) (by omega) (by have := HB3.out.size; simp; omega) (w3.heap.size + 1) (by simp) ?_; intro g2 cap2 w5 hown2 hgrow2 hat2 hlt2)
      have HO5 : Hid (w5.ownsRow w.heap.size 38 5 (.slice (some ⟨g2, 0, none⟩) (L.length + 1) cap2) (L ++ [nc]).length ((L ++ [nc]).flatMap Crd.cs)) := by
        show World.ownsRow _ _ _ _ _ _ _
        rw [List.length_append, flat_snoc, HCS.out]
        exact hown2
      have HCO5 : Hid (CrsO w5 (some g2) (L ++ [nc])) := CrsO.app HCO4.out hgrow2 (by rw [show (w3.alloc (.cells #[.string x1, .string x2, .string x3, .slice sl.a sl.xs.length sl.c, .int .i64 x5] 38)).heap.size = w3.heap.size + 1 by simp]; exact hat2)
      have HB5 : Hid (Below w.heap.size w w5) := (HB3.out.alloc HB3.out.size _).grown hgrow2 (by have := HB3.out.size; simp; omega) (fun k hk => (HO3.out.lt k hk).1)
      have hl5 : (L ++ [nc]).length + rs.size ≤ s.size := by rw [List.length_append, hz2]; simp; omega
      generalize L ++ [nc] = L2 at *
      clear hown2 hgrow2 hat2 hlt2 HO4 HCO4 HO3 HCO3 HK3 d0 d1 d2 d3 d4
      go_wp2_with fail
      go_roundw
      case rel => exact ⟨rs, f - 1, i + 1, L2, rfl, by go_num, by omega, by omega, by omega, hl5, HGE, HO5, HCO5, HB5⟩
      case measure => simp [tSize]; omega
end Go.Proofs.YtckakleiaccffaaDoor
