/- The contract of edit.checkEnvelope. -/
import Derived.Test.YtpiiickhfcjnmaaGreatDoorEdtZ
import Derived.Test.YtpiiickhfcjnmaaGreatDoorRatZ
import Derived.Test.YtpiiickhfcjnmaaGreatDoorNumB
import Derived.Deep.CutRange
import Derived.Deep.DeepCutAuto
import Derived.Deep.CutBlock
namespace Go.Proofs.YtpiiickhfcjnmaaGreatDoor
open Go.RowKit Go.Dw

theorem trimP_any (s : ByteArray) (W : World) : Calls Tryz.prog 137 #[.string s, .string ⟨#[45]⟩] W fun e w' => e = .returned (.string ⟨(boT s).toArray⟩) ∧ W = w' :=
  (Any.strings_TrimPrefix Tryz.lays101 s ⟨#[45]⟩ W).mono fun _ _ ⟨h1, h2⟩ => ⟨h1, h2.symm⟩
/-- the parts of a point's fault -/
def pntA (ln : Int) (e : List Pnt) (i : Nat) : Bool := decide ((e.getD i dPnt).at_ < 0 ∨ ln ≤ (e.getD i dPnt).at_)
def pntB (e : List Pnt) (i : Nat) : Bool := decide (0 < i ∧ (e.getD i dPnt).at_ ≤ (e.getD (i - 1) dPnt).at_)
theorem pntF_a {ln : Int} {e : List Pnt} {i : Nat} (h : pntA ln e i = true) : pntF ln e i = 1 := by unfold pntF; rw [if_pos (of_decide_eq_true h)]
theorem pntF_b {ln : Int} {e : List Pnt} {i : Nat} (h : pntA ln e i = false) (g : pntB e i = true) : pntF ln e i = 8 := by
  unfold pntF; rw [if_neg (of_decide_eq_false h), if_pos (of_decide_eq_true g)]
theorem pntF_c {ln : Int} {e : List Pnt} {i : Nat} (h : pntA ln e i = false) (g : pntB e i = false) (k : ratF (e.getD i dPnt).n (e.getD i dPnt).d ≠ 0) : pntF ln e i = ratF (e.getD i dPnt).n (e.getD i dPnt).d := by
  unfold pntF; rw [if_neg (of_decide_eq_false h), if_neg (of_decide_eq_false g), if_pos k]
theorem pntF_d {ln : Int} {e : List Pnt} {i : Nat} (h : pntA ln e i = false) (g : pntB e i = false) (k : ratF (e.getD i dPnt).n (e.getD i dPnt).d = 0) : pntF ln e i = if 40 < (boT (e.getD i dPnt).n).length ∨ 40 < (e.getD i dPnt).d.data.toList.length then 2 else 0 := by
  unfold pntF; rw [if_neg (of_decide_eq_false h), if_neg (of_decide_eq_false g), if_neg (by omega)]
theorem getD_get {α : Type} {l : List α} {k : Nat} {d : α} (h : k < l.length) : l.getD k d = l[k] := by simp [List.getD_eq_getElem?_getD, h]
set_option maxRecDepth 100000 in
set_option maxHeartbeats 8000000 in
theorem env_any (c : CliM) (w : World) (h : CliOk w c) (hl : inI64 c.ln) :
    Calls Tryz.prog 82 #[c.v] w fun e w' => e = .returned (.int .i64 (envF c.ln c.e.xs)) ∧ Below w.heap.size w w' := by
  obtain ⟨cm, cc, cf, ct, ca, cl, ⟨A, d, xs⟩⟩ := c
  obtain ⟨_, _, _, _, _, _, hel, her, heo⟩ := h
  simp only at hel her heo hl
  simp only [CliM.v, Slc.v]
  have HXO := Lib.hid heo
  obtain ⟨w1, hw1⟩ : ∃ w1, w1 = w.alloc (.cells #[.string cm, .int .i64 cc, .int .i64 cf, .int .i64 ct, .int .i64 ca, .int .i64 cl, .slice A xs.length d] 36) := ⟨_, rfl⟩
  have HB : Hid (Below w.heap.size w w1) := by rw [hw1]; exact (Below.refl _ _).alloc (Nat.le_refl _) _
  have HK : Hid (Blk w1 w.heap.size 36 [.string cm, .int .i64 cc, .int .i64 cf, .int .i64 ct, .int .i64 ca, .int .i64 cl, .slice A xs.length d]) := by rw [hw1]; exact Blk.new w _ _
  have HR : Hid (Rd w1 A (xs.flatMap Pnt.cs)) := her.below HB.out
  have HS : Hid (∀ W, Gq w1 W → W.cell? ⟨w.heap.size, 5, none⟩ = some (.int .i64 cl) ∧ W.cell? ⟨w.heap.size, 6, none⟩ = some (.slice A xs.length d)) := fun W hW => by
    have k1 := HK.out.same (Same.of_below (S := fun _ => True) hW) trivial
    exact ⟨k1.cell 5, k1.cell 6⟩
  have HF : Hid (∀ r, envF cl xs = r → envF cl xs = r) := fun _ h => h
  obtain ⟨E, hE⟩ : ∃ E, envF cl xs = E := ⟨_, rfl⟩
  have HE : Hid ((xs.length = 0 → E = 9) ∧ (xs.length ≠ 0 → 50 < xs.length → E = 2) ∧ (xs.length ≠ 0 → ¬ 50 < xs.length → (∀ k, k < xs.length → (∀ j, j < k → pntF cl xs j = 0) → pntF cl xs k ≠ 0 → E = pntF cl xs k) ∧ ((∀ j, j < xs.length → pntF cl xs j = 0) → E = 0))) := by
    rw [← hE]
    unfold envF
    refine ⟨fun h => by rw [if_pos h], fun h g => by rw [if_neg h, if_pos g], fun h g => ?_⟩
    rw [if_neg h, if_neg g]
    exact ⟨fun k hk h1 h2 => firstNZ_bad h1 h2 hk, fun h1 => firstNZ_ok h1⟩
  rw [hE]
  have HW := Lib.hid hw1
  obtain ⟨c5, c6⟩ := HS.out w1 (Gq.refl _)
  clear hw1 hE HF her heo HK
  go_enter Tryz.func82, Tryz.ntmps82
  go_upto_region 1 with (fail)
  rw [← HW.out]
  by_cases h0 : xs.length = 0
  · have HQ : Hid (E = 9) := HE.out.1 h0
    rw [h0] at c6
    go_wp2_with fail
    go_ret
    exact ⟨ret_int HQ.out.symm, HB.out⟩
  have h0b : ((xs.length : Int) == 0) = false := by rw [beq_eq_false_iff_ne]; omega
  by_cases h50 : 50 < xs.length
  · have HQ : Hid (E = 2) := HE.out.2.1 h0 h50
    have h50b : decide (50 < xs.length) = true := by simpa using h50
    go_wp2_with fail
    go_ret
    exact ⟨ret_int HQ.out.symm, HB.out⟩
  have h50b : decide (50 < xs.length) = false := by simpa using h50
  have HE2 := Lib.hid (HE.out.2.2 h0 h50)
  clear HE
  go_wp2_with fail
  clear c5 c6
  go_loopw [17] (fun iv wr => ∃ k : Nat, k ≤ xs.length ∧ iv = .int .i64 (k : Int) ∧ Hid (∀ j, j < k → pntF cl xs j = 0) ∧ Hid (Gq w1 wr)) (fun iv _ => xs.length - (intOf iv).toNat)
  case atStart => exact ⟨0, Nat.zero_le _, rfl, fun j hj => by omega, Gq.refl _⟩
  case round =>
    obtain ⟨k, hk, rfl, HA, HG⟩ := hrel
    by_cases hlt : k < xs.length
    case neg =>
      have hd : decide (k < xs.length) = false := by simpa using hlt
      have HQ : Hid (E = 0) := HE2.out.2 (fun j hj => HA.out j (by omega))
      go_wp2_with fail
      go_ret
      exact ⟨ret_int HQ.out.symm, HB.out.trans (Below.mono HG.out HB.out.size)⟩
    have hd : decide (k < xs.length) = true := by simpa using hlt
    obtain ⟨b, off, rfl, hb, hc⟩ := pnt_at (HG.out.rd HR.out) (by omega)
    obtain ⟨d0, d1, d2⟩ := hc k hlt
    have HPV : Hid (0 < k → wr.cell? ⟨b, off + (k - 1) * 3, none⟩ = some (.int .i64 (xs.getD (k - 1) dPnt).at_)) := fun h => by
      rw [getD_get (by omega)]; exact (hc (k - 1) (by omega)).1
    have HGE : Hid (xs.getD k dPnt = xs[k]) := getD_get hlt
    have HPO := Lib.hid (HXO.out _ (List.getElem_mem hlt))
    obtain ⟨s5, s6⟩ := HS.out wr HG.out
    have HNX : Hid (pntF cl xs k = 0 → ∀ j, j < k + 1 → pntF cl xs j = 0) := fun h => step_all HA.out h
    have HBD : Hid (pntF cl xs k ≠ 0 → E = pntF cl xs k) := fun h => HE2.out.1 k hlt HA.out h
    have HPA : Hid (pntA cl xs k = decide ((xs[k]).at_ < 0 ∨ cl ≤ (xs[k]).at_)) := by show _ = _; unfold pntA; rw [HGE.out]
    have HPB : Hid (pntB xs k = decide (0 < k ∧ (xs[k]).at_ ≤ (xs.getD (k - 1) dPnt).at_)) := by show _ = _; unfold pntB; rw [HGE.out]
    have HPC := Lib.hid (pntF_c (ln := cl) (e := xs) (i := k))
    have HPD := Lib.hid (pntF_d (ln := cl) (e := xs) (i := k))
    rw [HGE.out] at HPC HPD
    obtain ⟨pt, hpt⟩ : ∃ pt, xs[k] = pt := ⟨_, rfl⟩
    rw [hpt] at d0 d1 d2 HPO HPA HPB HPC HPD
    clear hc hpt HGE
    obtain ⟨x, pn, pd⟩ := pt
    simp only at d0 d1 d2 HPO HPA HPB HPC HPD
    obtain ⟨wA, hwA⟩ : ∃ wA, wA = wr.alloc (.cells #[.int .i64 x, .string pn, .string pd] 70) := ⟨_, rfl⟩
    have HGA : Hid (Gq w1 wA) := by rw [hwA]; exact HG.out.alloc _
    have HRA : Hid (Gq wr wA) := by rw [hwA]; exact (Gq.refl _).alloc _
    have HKA : Hid (Blk wA wr.heap.size 70 [.int .i64 x, .string pn, .string pd]) := by rw [hwA]; exact Blk.new wr _ _
    have a0 : wA.cell? ⟨wr.heap.size, 0, none⟩ = some (.int .i64 x) := HKA.out.cell 0
    have a1 : wA.cell? ⟨wr.heap.size, 1, none⟩ = some (.string pn) := HKA.out.cell 1
    have a2 : wA.cell? ⟨wr.heap.size, 2, none⟩ = some (.string pd) := HKA.out.cell 2
    obtain ⟨z5, z6⟩ := HS.out wA HGA.out
    have HWA := Lib.hid hwA
    clear hwA
    go_upto_region 8 with (fail)
    rw [← HWA.out]
    have HBF : Hid (∀ W, Gq wA W → Below w.heap.size w W) := fun W hW => HB.out.trans (Below.mono (HGA.out.trans hW) HB.out.size)
    by_cases hx0 : x < 0
    · have HQ : Hid (E = 1) := by
        have := pntF_a (by rw [HPA.out]; exact decide_eq_true (.inl hx0) : pntA cl xs k = true)
        show _ = _
        rw [HBD.out (by rw [this]; decide), this]
      go_wp2_with fail
      go_ret
      exact ⟨ret_int HQ.out.symm, HBF.out _ (Gq.refl _)⟩
    by_cases hx1 : cl ≤ x
    · have HQ : Hid (E = 1) := by
        have := pntF_a (by rw [HPA.out]; exact decide_eq_true (.inr hx1) : pntA cl xs k = true)
        show _ = _
        rw [HBD.out (by rw [this]; decide), this]
      go_wp2_with fail
      go_ret
      exact ⟨ret_int HQ.out.symm, HBF.out _ (Gq.refl _)⟩
    have HPA2 : Hid (pntA cl xs k = false) := by show _ = _; rw [HPA.out]; exact decide_eq_false (by omega)
    obtain ⟨pb, hpb⟩ : ∃ pb, pntB xs k = pb := ⟨_, rfl⟩
    rw [hpb] at HPB
    go_upto_region 10 with (fail)
    go_cut [45] (fun v wx => v = .bool pb ∧ Hid (Gq wA wx))
    case first =>
      cases k with
      | zero =>
        have HE0 : Hid (pb = false) := by show _ = _; rw [HPB.out]; exact decide_eq_false (by omega)
        go_wp2_with fail
        go_quiet (fail)
        go_wp2_with fail
        go_meet
        case rel => exact ⟨by rw [HE0.out], below_drewN (Gq.refl wA) _⟩
      | succ j =>
        obtain ⟨y, hy⟩ : ∃ y, (xs.getD (j + 1 - 1) dPnt).at_ = y := ⟨_, rfl⟩
        have dv : wA.cell? ⟨b, off + j * 3, none⟩ = some (.int .i64 y) := by
          rw [Below.cell HRA.out (by exact hb), ← hy]; exact HPV.out (by omega)
        have HE0 : Hid (pb = decide (x ≤ y)) := by show _ = _; rw [HPB.out, hy]; simp
        have j0 : IntKind.i64.wrap ((j : Int) + 1 - 1) = (j : Int) := by rw [Int.add_sub_cancel]; exact IntWalk.i64_in _ (by omega)
        have j1 : (j : Int) < (xs.length : Int) := by omega
        have j2 : (0 : Int) ≤ (j : Int) := by omega
        have j3 : decide ((0 : Int) < (j : Int) + 1) = true := decide_eq_true (by omega)
        clear hy
        go_wp2_with fail
        go_quiet (fail)
        go_wp2_with fail
        go_meet
        case rel => exact ⟨by rw [HE0.out], below_drewN (Gq.refl wA) _⟩
    case rest =>
      obtain ⟨rfl, HGC⟩ := hcut
      have HGW : Hid (Gq w1 wc) := HGA.out.trans HGC.out
      have HKC : Hid (Blk wc wr.heap.size 70 [.int .i64 x, .string pn, .string pd]) := HKA.out.same (Same.of_below (S := fun _ => True) HGC.out) trivial
      have e1 : wc.cell? ⟨wr.heap.size, 1, none⟩ = some (.string pn) := HKC.out.cell 1
      have e2 : wc.cell? ⟨wr.heap.size, 2, none⟩ = some (.string pd) := HKC.out.cell 2
      clear a0 a1 a2 z5 z6 HPB HPV
      cases pb with
      | true =>
        have HQ : Hid (E = 8) := by
          have := pntF_b HPA2.out hpb
          show _ = _
          rw [HBD.out (by rw [this]; decide), this]
        go_wp2_with fail
        go_ret
        exact ⟨ret_int HQ.out.symm, HBF.out _ HGC.out⟩
      | false =>
        have HCK := Lib.hid (checkRatio_any pn pd wc HPO.out.2.1 HPO.out.2.2)
        have HPC2 := Lib.hid (HPC.out HPA2.out hpb)
        have HPD2 := Lib.hid (HPD.out HPA2.out hpb)
        clear HPC HPD HPA2 hpb HPA
        obtain ⟨f, hf⟩ : ∃ f, ratF pn pd = f := ⟨_, rfl⟩
        rw [hf] at HCK HPC2 HPD2
        clear hf
        go_wp2_with fail
        refine HCK.out.mono ?_
        rintro e w5 ⟨rfl, hb5⟩
        have HB5 : Hid (Gq wA w5) := HGC.out.trans hb5
        have HG5 : Hid (Gq w1 w5) := HGW.out.trans hb5
        have HK5 : Hid (Blk w5 wr.heap.size 70 [.int .i64 x, .string pn, .string pd]) := HKC.out.same (Same.of_below (S := fun _ => True) hb5) trivial
        clear hb5 HCK e1 e2
        by_cases hf : f = 0
        case neg =>
          have HQ : Hid (E = f) := by
            have := HPC2.out hf
            show _ = _
            rw [HBD.out (by rw [this]; exact hf), this]
          have hf2 : (!(f == 0)) = true := by simp [hf]
          go_wp2_with fail
          go_ret
          exact ⟨ret_int HQ.out.symm, HBF.out _ HB5.out⟩
        subst hf
        have HPE := Lib.hid (HPD2.out rfl)
        have e1 : w5.cell? ⟨wr.heap.size, 1, none⟩ = some (.string pn) := HK5.out.cell 1
        have e2 : w5.cell? ⟨wr.heap.size, 2, none⟩ = some (.string pd) := HK5.out.cell 2
        have HTP := Lib.hid (trimP_any pn w5)
        obtain ⟨n, hn⟩ : ∃ n : ByteArray, n = ⟨(boT pn).toArray⟩ := ⟨_, rfl⟩
        have hnz : n.size = (boT pn).length := by rw [hn]; show (boT pn).toArray.size = _; simp
        have hdz : pd.data.toList.length = pd.size := by rw [Array.length_toList]; rfl
        rw [← hnz, hdz] at HPE
        rw [← hn] at HTP
        clear hn hnz hdz HPD2 HPC2
        go_wp2_with fail
        refine HTP.out.mono ?_
        rintro e w6 ⟨rfl, hw6⟩
        subst hw6
        by_cases h1 : 40 < n.size
        · have HQ : Hid (E = 2) := by
            have h2 : pntF cl xs k = 2 := by rw [HPE.out, if_pos (.inl h1)]
            show _ = _
            rw [HBD.out (by rw [h2]; decide), h2]
          have h1b : decide (40 < n.size) = true := by simpa using h1
          go_wp2_with fail
          go_ret
          exact ⟨ret_int HQ.out.symm, HBF.out _ HB5.out⟩
        have h1b : decide (40 < n.size) = false := by simpa using h1
        by_cases h2 : 40 < pd.size
        · have HQ : Hid (E = 2) := by
            have h3 : pntF cl xs k = 2 := by rw [HPE.out, if_pos (.inr h2)]
            show _ = _
            rw [HBD.out (by rw [h3]; decide), h3]
          have h2b : decide (40 < pd.size) = true := by simpa using h2
          go_wp2_with fail
          go_ret
          exact ⟨ret_int HQ.out.symm, HBF.out _ HB5.out⟩
        have h2b : decide (40 < pd.size) = false := by simpa using h2
        have HN2 := Lib.hid (HNX.out (by rw [HPE.out, if_neg (by omega)]))
        go_wp2_with fail
        go_roundw
        case rel => exact ⟨k + 1, by omega, by go_num, HN2.out, HG5⟩
        case measure => simp [intOf]; omega
end Go.Proofs.YtpiiickhfcjnmaaGreatDoor
