/- The contract of the reference's Text. -/
import Derived.Test.YtckakleiaccffaaDoorTxA
import Derived.Test.YtckakleiaccffaaDoorCrR
namespace Go.Proofs.YtckakleiaccffaaDoor
open Go.RowKit Go.Dw

set_option maxRecDepth 100000 in
set_option maxHeartbeats 4000000 in
theorem textR_any (x : Slc Crd) (w : World) (h : Crs w x) (hc : ∀ c ∈ x.xs, c.s.xs.length ≤ c.s.c) (hm : HasMax w) (hp : HasPow w) :
    Calls Tryd.prog 5 #[x.v] w fun e w' => e = .returned (.tuple #[.string (mkB (textF (x.xs.map Crd.x)).1), .int .i64 (textF (x.xs.map Crd.x)).2]) ∧ Below w.heap.size w w' := by
  have HC := Lib.hid (creditsR_any x w h hm)
  have HX := Lib.hid h
  have HCP := Lib.hid hc
  have HPW := Lib.hid hp
  obtain ⟨cf, hcf⟩ : ∃ cf, crsF (x.xs.map Crd.x) = cf := ⟨_, rfl⟩
  rw [hcf] at HC
  obtain ⟨A, c, L⟩ := x
  simp only [Slc.v] at *
  clear h hm hc hp
  by_cases hz : cf = 0
  case neg =>
    have HT : Hid (textF (L.map Crd.x) = ([], cf)) := by show _ = _; unfold textF; rw [hcf, if_pos hz]
    have hzb : (cf != 0) = true := by simpa using hz
    clear hz hcf
    go_enter Tryd.func5, Tryd.ntmps5
    go_wp2_with fail
    refine HC.out.mono ?_
    rintro e w1 ⟨rfl, hb1⟩
    have HB1 := Lib.hid hb1
    clear hb1
    go_wp2_with fail
    go_ret2
    exact ⟨by rw [HT.out]; rfl, HB1.out⟩
  subst hz
  obtain ⟨hn, hr⟩ := crs_right hcf
  rw [List.length_map] at hn
  have HT : Hid (textF (L.map Crd.x) = (textT (L.map Crd.x), 0)) := by show _ = _; unfold textF; rw [hcf, if_neg (by simp)]
  have HRT := Lib.hid hr
  have HLEN := Lib.hid (fun k => text_len ((L.map Crd.x).take k) (fun c hc => hr c (List.mem_of_mem_take hc)))
  clear hcf hr
  go_enter Tryd.func5, Tryd.ntmps5
  go_wp2_with fail
  refine HC.out.mono ?_
  rintro e w1 ⟨rfl, hb1⟩
  have HB1 := Lib.hid hb1
  clear hb1
  go_wp2_with fail
  go_loopw [5, 15] (fun sv kv wr => ∃ k : Nat, k ≤ L.length ∧ kv = .int .i64 (k : Int) ∧ sv = .string (mkB (textT ((L.map Crd.x).take k))) ∧ Hid (Below w.heap.size w wr)) (fun _ kv _ => L.length - (intOf kv).toNat)
  case atStart => exact ⟨0, Nat.zero_le _, rfl, rfl, HB1⟩
  case round =>
    obtain ⟨k, hk, rfl, rfl, HB⟩ := hrel
    by_cases hlt : k < L.length
    case neg =>
      have hd1 : decide (k < L.length) = false := by simpa using hlt
      have HE : Hid ((L.map Crd.x).take k = L.map Crd.x) := by show _ = _; rw [List.take_of_length_le (by simp; omega)]
      go_wp2_with fail
      go_ret2
      exact ⟨by rw [HT.out, HE.out]; rfl, HB.out⟩
    have hd1 : decide (k < L.length) = true := by simpa using hlt
    obtain ⟨b, off, hA, hb, hcs⟩ := HX.out.at_ (by show 0 < L.length; omega)
    obtain rfl : A = some ⟨b, off, none⟩ := hA
    obtain ⟨d0, d1, d2, d3, d4⟩ := hcs k hlt
    have hbw : b < w.heap.size := hb
    rw [← HB.out.cell (p := ⟨b, off + k * 5, none⟩) (by exact hbw)] at d0
    rw [← HB.out.cell (p := ⟨b, off + k * 5 + 1, none⟩) (by exact hbw)] at d1
    rw [← HB.out.cell (p := ⟨b, off + k * 5 + 2, none⟩) (by exact hbw)] at d2
    rw [← HB.out.cell (p := ⟨b, off + k * 5 + 3, none⟩) (by exact hbw)] at d3
    rw [← HB.out.cell (p := ⟨b, off + k * 5 + 4, none⟩) (by exact hbw)] at d4
    obtain ⟨_, _, _, o4, o5, o6, o7⟩ := HX.out.2.2 L[k] (List.getElem_mem hlt)
    have hcap := HCP.out L[k] (List.getElem_mem hlt)
    have hrt := HRT.out L[k].x (List.mem_map_of_mem (List.getElem_mem hlt))
    have HRD := Lib.hid (o5.below HB.out)
    have HSN : Hid (textT ((L.map Crd.x).take (k + 1)) = textT ((L.map Crd.x).take k) ++ lineT L[k].x) := by show _ = _; rw [take_snocC hlt, textT_snoc]
    have hln := HLEN.out k
    have hkl : ((L.map Crd.x).take k).length ≤ 1000 := by rw [List.length_take]; omega
    have hln2 : (textT ((L.map Crd.x).take k)).length ≤ 4106000 := by omega
    clear hcs o5 hln hkl
    generalize L[k] = cc at *
    generalize textT ((L.map Crd.x).take k) = T0 at *
    obtain ⟨T1, hT1⟩ : ∃ T1, textT ((L.map Crd.x).take (k + 1)) = T1 := ⟨_, rfl⟩
    rw [hT1] at HSN
    have HT1 := Lib.hid hT1
    clear hT1
    obtain ⟨r, p, nm, ⟨sa, sc, sl⟩, m⟩ := cc
    simp only [Crd.x] at d0 d1 d2 d3 d4 o4 o6 o7 hcap hrt HRD HSN
    have hil := ins_len hrt
    have hbl := body_len hrt
    have h20 := hrt.l1
    have HBD : Hid (bodyT ⟨r, p, nm, sl, m⟩ = Lib.join ([r, nm, p, mkB (Lib.join (sl.map bl) [44]), mkB (Lib.itoa m)].map bl) [124]) := by
      show _ = _
      simp only [List.map_cons, List.map_nil, bl_mk]; rfl
    have HLN : Hid (lineT ⟨r, p, nm, sl, m⟩ = bodyT ⟨r, p, nm, sl, m⟩ ++ [10]) := rfl
    simp only at hil h20
    generalize bodyT ⟨r, p, nm, sl, m⟩ = bd at *
    generalize lineT ⟨r, p, nm, sl, m⟩ = ln at *
    obtain ⟨wA, hwA⟩ : ∃ wA, wA = wr.alloc (.cells #[.string r, .string p, .string nm, .slice sa sl.length sc, .int .i64 m] 38) := ⟨_, rfl⟩
    have HKA : Hid (Blk wA wr.heap.size 38 [.string r, .string p, .string nm, .slice sa sl.length sc, .int .i64 m]) := by rw [hwA]; exact Blk.new wr _ _
    have HBA : Hid (Below w.heap.size w wA) := by rw [hwA]; exact HB.out.alloc HB.out.size _
    have HPA : Hid (Below wr.heap.size wr wA) := by rw [hwA]; exact (Below.refl _ _).alloc (Nat.le_refl _) _
    have HJ1 : Hid (∀ W, Gq wA W → Calls Tryd.prog 11 #[.slice sa sl.length sc, .string ⟨#[44]⟩] W fun e w' => e = .returned (.string (mkB (Lib.join (sl.map bl) [44]))) ∧ Gq wA w') := fun W hW =>
      (join_any sa sc sl ⟨#[44]⟩ W ((HRD.out.below HPA.out).below hW) hcap (by omega) (by show (Lib.join (sl.map bl) [44]).length ≤ _; omega)).mono fun e w' h => ⟨h.1, Below.trans hW (h.2.mono (Below.size hW))⟩
    have HIT : Hid (∀ W, Gq wA W → Calls Tryd.prog 12 #[.int .i64 m] W fun e w' => e = .returned (.string (mkB (Lib.itoa m))) ∧ Gq wA w') := fun W hW =>
      (itoa_any m W o7 ((HPW.out.below HBA.out).below hW)).mono fun e w' h => ⟨h.1, Below.trans hW (h.2.mono (Below.size hW))⟩
    generalize mkB (Lib.join (sl.map bl) [44]) = jn at *
    generalize mkB (Lib.itoa m) = num at *
    have HJ2 : Hid (∀ W W', Gq wA W → W' = W.alloc (.cells #[.string r, .string nm, .string p, .string jn, .string num] 9) → Calls Tryd.prog 11 #[.slice (some ⟨W.heap.size, 0, none⟩) 5 5, .string ⟨#[124]⟩] W' fun e w' => e = .returned (.string (mkB bd)) ∧ Gq wA w') := fun W W' hW hW' => by
      subst hW'
      have h1 := join_any (some ⟨W.heap.size, 0, none⟩) 5 [r, nm, p, jn, num] ⟨#[124]⟩ _ (five_cells (W := W) (t := 9)) (by simp) (by simp) (by show (Lib.join ([r, nm, p, jn, num].map bl) [124]).length ≤ _; rw [← HBD.out]; omega)
      have e1 : Lib.join ([r, nm, p, jn, num].map bl) (bl ⟨#[124]⟩) = bd := HBD.out.symm
      rw [e1] at h1
      exact h1.mono fun e w' h => ⟨h.1, Below.trans (Gq.alloc hW _) (h.2.mono (Below.size (Gq.alloc hW _)))⟩
    have e1 : mkB T0 ++ (mkB bd ++ ⟨#[10]⟩) = mkB T1 := by rw [HSN.out, HLN.out, mkB_app, mkB_app]; rfl
    have HE1 := Lib.hid e1
    clear e1
    have z1 : ¬ (9223372036854775807 < (mkB bd).size + 1) := by rw [mkB_size]; omega
    have z2 : ¬ (9223372036854775807 < (mkB T0).size + ((mkB bd).size + 1)) := by rw [mkB_size, mkB_size]; omega
    have HS : Hid (∀ W, Gq wA W → W.cell? ⟨wr.heap.size, 0, none⟩ = some (.string r) ∧ W.cell? ⟨wr.heap.size, 1, none⟩ = some (.string p) ∧ W.cell? ⟨wr.heap.size, 2, none⟩ = some (.string nm) ∧ W.cell? ⟨wr.heap.size, 3, none⟩ = some (.slice sa sl.length sc) ∧ W.cell? ⟨wr.heap.size, 4, none⟩ = some (.int .i64 m)) := fun W hW => by
      have hk := HKA.out.same (Same.of_below (S := fun _ => True) hW) trivial
      exact ⟨hk.cell 0, hk.cell 1, hk.cell 2, hk.cell 3, hk.cell 4⟩
    have hBR : Gq wA wA := Gq.refl _
    have hBD : Gq wA wA.drew := (Gq.refl _).drew
    have HWA := Lib.hid hwA
    obtain ⟨k0, k1, k2, k3, k4⟩ := HS.out _ hBR
    clear hwA
    go_upto_region 8 with (fail)
    rw [← HWA.out]
    clear d0 d1 d2 d3 d4
    go_region_held3 (fun W => W.cell? ⟨wr.heap.size, 0, none⟩ = some (.string r) ∧ W.cell? ⟨wr.heap.size, 1, none⟩ = some (.string p) ∧ W.cell? ⟨wr.heap.size, 2, none⟩ = some (.string nm) ∧ W.cell? ⟨wr.heap.size, 3, none⟩ = some (.slice sa sl.length sc) ∧ W.cell? ⟨wr.heap.size, 4, none⟩ = some (.int .i64 m))
      (first | exact HS.out _ hBD | exact HS.out _ hqB | (refine HS.out _ ?_; repeat (first | exact hqB | exact hBD | exact hBR | refine Gq.alloc ?_ _ | refine Gq.drew ?_)))
      (first | (go_at_call 11; with_reducible refine (HJ1.out _ (by first | assumption | (go_split_ands; assumption))).mono ?_; rintro e wB ⟨rfl, hqB⟩)
             | (go_at_call 12; with_reducible refine (HIT.out _ (by first | assumption | (go_split_ands; assumption))).mono ?_; rintro e wB ⟨rfl, hqB⟩)
             | (go_at_call 11; refine (HJ2.out _ _ hqB rfl).mono ?_; rintro e wB ⟨rfl, hqB⟩))
    all_goals
      have HK : Hid (Below w.heap.size w wB) := HBA.out.trans (Below.mono hqB HBA.out.size)
      clear hqB
      go_wp2_with fail
      go_roundw
      case rel => exact ⟨k + 1, by omega, by go_num, by rw [HT1.out, ← HE1.out], HK⟩
      case measure => simp [intOf]; omega
end Go.Proofs.YtckakleiaccffaaDoor
