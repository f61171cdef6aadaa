/- Several texts laid into one: The contract of edit.checkEnvelope; The contract of edit.checkClip; The contract of edit.Check; -/
import Derived.Test.YteaghgbpcpileaaGreatDoorEdtZ
import Derived.Test.YteaghgbpcpileaaGreatDoorRatZ
import Derived.Test.YteaghgbpcpileaaGreatDoorNumB
import Derived.Deep.CutRange
import Derived.Deep.DeepCutAuto
import Derived.Deep.CutBlock
import Derived.Test.YteaghgbpcpileaaGreatDoorPlnF
import Derived.Test.YteaghgbpcpileaaGreatDoorCmpZ
/- The contract of edit.checkEnvelope. -/
namespace Go.Proofs.YteaghgbpcpileaaGreatDoor
open Go.RowKit Go.Dw

theorem trimP_any (s : ByteArray) (W : World) : Calls Tryz.prog 73 #[.string s, .string ⟨#[45]⟩] W fun e w' => e = .returned (.string ⟨(boT s).toArray⟩) ∧ W = w' :=
  (Any.strings_TrimPrefix Tryz.lays101 s ⟨#[45]⟩ W).mono fun _ _ ⟨h1, h2⟩ => ⟨h1, h2.symm⟩
/-- the parts of a point's fault -/
def pntA (ln : Int) (e : List Pnt) (i : Nat) : Bool := decide ((e.getD i dPnt).at_ < 0 ∨ ln ≤ (e.getD i dPnt).at_)
def pntB (e : List Pnt) (i : Nat) : Bool := decide (0 < i ∧ (e.getD i dPnt).at_ ≤ (e.getD (i - 1) dPnt).at_)
theorem pntF_a {ln : Int} {e : List Pnt} {i : Nat} (h : pntA ln e i = true) : pntF ln e i = 1 := by unfold pntF; rw [if_pos (of_decide_eq_true h)]
theorem pntF_b {ln : Int} {e : List Pnt} {i : Nat} (h : pntA ln e i = false) (g : pntB e i = true) : pntF ln e i = 8 := by
  unfold pntF; rw [if_neg (of_decide_eq_false h), if_pos (of_decide_eq_true g)]
theorem pntF_c {ln : Int} {e : List Pnt} {i : Nat} (h : pntA ln e i = false) (g : pntB e i = false) (k : ratF (e.getD i dPnt).n (e.getD i dPnt).d ≠ 0) : pntF ln e i = ratF (e.getD i dPnt).n (e.getD i dPnt).d := by
  unfold pntF; rw [if_neg (of_decide_eq_false h), if_neg (of_decide_eq_false g), if_pos k]
theorem pntF_d {ln : Int} {e : List Pnt} {i : Nat} (h : pntA ln e i = false) (g : pntB e i = false) (k : ratF (e.getD i dPnt).n (e.getD i dPnt).d = 0) : pntF ln e i = if 40 < (boT (e.getD i dPnt).n).length ∨ 40 < (e.getD i dPnt).d.data.toList.length then 2 else 0 := by
  unfold pntF; rw [if_neg (of_decide_eq_false h), if_neg (of_decide_eq_false g), if_neg (by omega)]
theorem getD_get {α : Type} {l : List α} {k : Nat} {d : α} (h : k < l.length) : l.getD k d = l[k] := by simp [List.getD_eq_getElem?_getD, h]
set_option maxRecDepth 100000 in
set_option maxHeartbeats 8000000 in
theorem env_any (c : CliM) (w : World) (h : CliOk w c) (hl : inI64 c.ln) :
    Calls Tryz.prog 55 #[c.v] w fun e w' => e = .returned (.int .i64 (envF c.ln c.e.xs)) ∧ Below w.heap.size w w' := by
  obtain ⟨cm, cc, cf, ct, ca, cl, ⟨A, d, xs⟩⟩ := c
  obtain ⟨_, _, _, _, _, _, hel, her, heo⟩ := h
  simp only at hel her heo hl
  simp only [CliM.v, Slc.v]
  have HXO := Lib.hid heo
  obtain ⟨w1, hw1⟩ : ∃ w1, w1 = w.alloc (.cells #[.string cm, .int .i64 cc, .int .i64 cf, .int .i64 ct, .int .i64 ca, .int .i64 cl, .slice A xs.length d] 39) := ⟨_, rfl⟩
  have HB : Hid (Below w.heap.size w w1) := by rw [hw1]; exact (Below.refl _ _).alloc (Nat.le_refl _) _
  have HK : Hid (Blk w1 w.heap.size 39 [.string cm, .int .i64 cc, .int .i64 cf, .int .i64 ct, .int .i64 ca, .int .i64 cl, .slice A xs.length d]) := by rw [hw1]; exact Blk.new w _ _
  have HR : Hid (Rd w1 A (xs.flatMap Pnt.cs)) := her.below HB.out
  have HS : Hid (∀ W, Gq w1 W → W.cell? ⟨w.heap.size, 5, none⟩ = some (.int .i64 cl) ∧ W.cell? ⟨w.heap.size, 6, none⟩ = some (.slice A xs.length d)) := fun W hW => by
    have k1 := HK.out.same (Same.of_below (S := fun _ => True) hW) trivial
    exact ⟨k1.cell 5, k1.cell 6⟩
  have HF : Hid (∀ r, envF cl xs = r → envF cl xs = r) := fun _ h => h
  obtain ⟨E, hE⟩ : ∃ E, envF cl xs = E := ⟨_, rfl⟩
  have HE : Hid ((xs.length = 0 → E = 9) ∧ (xs.length ≠ 0 → 50 < xs.length → E = 2) ∧ (xs.length ≠ 0 → ¬ 50 < xs.length → (∀ k, k < xs.length → (∀ j, j < k → pntF cl xs j = 0) → pntF cl xs k ≠ 0 → E = pntF cl xs k) ∧ ((∀ j, j < xs.length → pntF cl xs j = 0) → E = 0))) := by
    rw [← hE]
    unfold envF
    refine ⟨fun h => by rw [if_pos h], fun h g => by rw [if_neg h, if_pos g], fun h g => ?_⟩
    rw [if_neg h, if_neg g]
    exact ⟨fun k hk h1 h2 => firstNZ_bad h1 h2 hk, fun h1 => firstNZ_ok h1⟩
  rw [hE]
  have HW := Lib.hid hw1
  obtain ⟨c5, c6⟩ := HS.out w1 (Gq.refl _)
  clear hw1 hE HF her heo HK
  go_enter Tryz.func55, Tryz.ntmps55
  go_upto_region 1 with (fail)
  rw [← HW.out]
  by_cases h0 : xs.length = 0
  · have HQ : Hid (E = 9) := HE.out.1 h0
    rw [h0] at c6
    go_wp2_with fail
    go_ret
    exact ⟨ret_int HQ.out.symm, HB.out⟩
  have h0b : ((xs.length : Int) == 0) = false := by rw [beq_eq_false_iff_ne]; omega
  by_cases h50 : 50 < xs.length
  · have HQ : Hid (E = 2) := HE.out.2.1 h0 h50
    have h50b : decide (50 < xs.length) = true := by simpa using h50
    go_wp2_with fail
    go_ret
    exact ⟨ret_int HQ.out.symm, HB.out⟩
  have h50b : decide (50 < xs.length) = false := by simpa using h50
  have HE2 := Lib.hid (HE.out.2.2 h0 h50)
  clear HE
  go_wp2_with fail
  clear c5 c6
  go_loopw [17] (fun iv wr => ∃ k : Nat, k ≤ xs.length ∧ iv = .int .i64 (k : Int) ∧ Hid (∀ j, j < k → pntF cl xs j = 0) ∧ Hid (Gq w1 wr)) (fun iv _ => xs.length - (intOf iv).toNat)
  case atStart => exact ⟨0, Nat.zero_le _, rfl, fun j hj => by omega, Gq.refl _⟩
  case round =>
    obtain ⟨k, hk, rfl, HA, HG⟩ := hrel
    by_cases hlt : k < xs.length
    case neg =>
      have hd : decide (k < xs.length) = false := by simpa using hlt
      have HQ : Hid (E = 0) := HE2.out.2 (fun j hj => HA.out j (by omega))
      go_wp2_with fail
      go_ret
      exact ⟨ret_int HQ.out.symm, HB.out.trans (Below.mono HG.out HB.out.size)⟩
    have hd : decide (k < xs.length) = true := by simpa using hlt
    obtain ⟨b, off, rfl, hb, hc⟩ := pnt_at (HG.out.rd HR.out) (by omega)
    obtain ⟨d0, d1, d2⟩ := hc k hlt
    have HPV : Hid (0 < k → wr.cell? ⟨b, off + (k - 1) * 3, none⟩ = some (.int .i64 (xs.getD (k - 1) dPnt).at_)) := fun h => by
      rw [getD_get (by omega)]; exact (hc (k - 1) (by omega)).1
    have HGE : Hid (xs.getD k dPnt = xs[k]) := getD_get hlt
    have HPO := Lib.hid (HXO.out _ (List.getElem_mem hlt))
    obtain ⟨s5, s6⟩ := HS.out wr HG.out
    have HNX : Hid (pntF cl xs k = 0 → ∀ j, j < k + 1 → pntF cl xs j = 0) := fun h => step_all HA.out h
    have HBD : Hid (pntF cl xs k ≠ 0 → E = pntF cl xs k) := fun h => HE2.out.1 k hlt HA.out h
    have HPA : Hid (pntA cl xs k = decide ((xs[k]).at_ < 0 ∨ cl ≤ (xs[k]).at_)) := by show _ = _; unfold pntA; rw [HGE.out]
    have HPB : Hid (pntB xs k = decide (0 < k ∧ (xs[k]).at_ ≤ (xs.getD (k - 1) dPnt).at_)) := by show _ = _; unfold pntB; rw [HGE.out]
    have HPC := Lib.hid (pntF_c (ln := cl) (e := xs) (i := k))
    have HPD := Lib.hid (pntF_d (ln := cl) (e := xs) (i := k))
    rw [HGE.out] at HPC HPD
    obtain ⟨pt, hpt⟩ : ∃ pt, xs[k] = pt := ⟨_, rfl⟩
    rw [hpt] at d0 d1 d2 HPO HPA HPB HPC HPD
    clear hc hpt HGE
    obtain ⟨x, pn, pd⟩ := pt
    simp only at d0 d1 d2 HPO HPA HPB HPC HPD
    obtain ⟨wA, hwA⟩ : ∃ wA, wA = wr.alloc (.cells #[.int .i64 x, .string pn, .string pd] 75) := ⟨_, rfl⟩
    have HGA : Hid (Gq w1 wA) := by rw [hwA]; exact HG.out.alloc _
    have HRA : Hid (Gq wr wA) := by rw [hwA]; exact (Gq.refl _).alloc _
    have HKA : Hid (Blk wA wr.heap.size 75 [.int .i64 x, .string pn, .string pd]) := by rw [hwA]; exact Blk.new wr _ _
    have a0 : wA.cell? ⟨wr.heap.size, 0, none⟩ = some (.int .i64 x) := HKA.out.cell 0
    have a1 : wA.cell? ⟨wr.heap.size, 1, none⟩ = some (.string pn) := HKA.out.cell 1
    have a2 : wA.cell? ⟨wr.heap.size, 2, none⟩ = some (.string pd) := HKA.out.cell 2
    obtain ⟨z5, z6⟩ := HS.out wA HGA.out
    have HWA := Lib.hid hwA
    clear hwA
    go_upto_region 8 with (fail)
    rw [← HWA.out]
    have HBF : Hid (∀ W, Gq wA W → Below w.heap.size w W) := fun W hW => HB.out.trans (Below.mono (HGA.out.trans hW) HB.out.size)
    by_cases hx0 : x < 0
    · have HQ : Hid (E = 1) := by
        have := pntF_a (by rw [HPA.out]; exact decide_eq_true (.inl hx0) : pntA cl xs k = true)
        show _ = _
        rw [HBD.out (by rw [this]; decide), this]
      go_wp2_with fail
      go_ret
      exact ⟨ret_int HQ.out.symm, HBF.out _ (Gq.refl _)⟩
    by_cases hx1 : cl ≤ x
    · have HQ : Hid (E = 1) := by
        have := pntF_a (by rw [HPA.out]; exact decide_eq_true (.inr hx1) : pntA cl xs k = true)
        show _ = _
        rw [HBD.out (by rw [this]; decide), this]
      go_wp2_with fail
      go_ret
      exact ⟨ret_int HQ.out.symm, HBF.out _ (Gq.refl _)⟩
    have HPA2 : Hid (pntA cl xs k = false) := by show _ = _; rw [HPA.out]; exact decide_eq_false (by omega)
    obtain ⟨pb, hpb⟩ : ∃ pb, pntB xs k = pb := ⟨_, rfl⟩
    rw [hpb] at HPB
    go_upto_region 10 with (fail)
    go_cut [45] (fun v wx => v = .bool pb ∧ Hid (Gq wA wx))
    case first =>
      cases k with
      | zero =>
        have HE0 : Hid (pb = false) := by show _ = _; rw [HPB.out]; exact decide_eq_false (by omega)
        go_wp2_with fail
        go_quiet (fail)
        go_wp2_with fail
        go_meet
        case rel => exact ⟨by rw [HE0.out], below_drewN (Gq.refl wA) _⟩
      | succ j =>
        obtain ⟨y, hy⟩ : ∃ y, (xs.getD (j + 1 - 1) dPnt).at_ = y := ⟨_, rfl⟩
        have dv : wA.cell? ⟨b, off + j * 3, none⟩ = some (.int .i64 y) := by
          rw [Below.cell HRA.out (by exact hb), ← hy]; exact HPV.out (by omega)
        have HE0 : Hid (pb = decide (x ≤ y)) := by show _ = _; rw [HPB.out, hy]; simp
        have j0 : IntKind.i64.wrap ((j : Int) + 1 - 1) = (j : Int) := by rw [Int.add_sub_cancel]; exact IntWalk.i64_in _ (by omega)
        have j1 : (j : Int) < (xs.length : Int) := by omega
        have j2 : (0 : Int) ≤ (j : Int) := by omega
        have j3 : decide ((0 : Int) < (j : Int) + 1) = true := decide_eq_true (by omega)
        clear hy
        go_wp2_with fail
        go_quiet (fail)
        go_wp2_with fail
        go_meet
        case rel => exact ⟨by rw [HE0.out], below_drewN (Gq.refl wA) _⟩
    case rest =>
      obtain ⟨rfl, HGC⟩ := hcut
      have HGW : Hid (Gq w1 wc) := HGA.out.trans HGC.out
      have HKC : Hid (Blk wc wr.heap.size 75 [.int .i64 x, .string pn, .string pd]) := HKA.out.same (Same.of_below (S := fun _ => True) HGC.out) trivial
      have e1 : wc.cell? ⟨wr.heap.size, 1, none⟩ = some (.string pn) := HKC.out.cell 1
      have e2 : wc.cell? ⟨wr.heap.size, 2, none⟩ = some (.string pd) := HKC.out.cell 2
      clear a0 a1 a2 z5 z6 HPB HPV
      cases pb with
      | true =>
        have HQ : Hid (E = 8) := by
          have := pntF_b HPA2.out hpb
          show _ = _
          rw [HBD.out (by rw [this]; decide), this]
        go_wp2_with fail
        go_ret
        exact ⟨ret_int HQ.out.symm, HBF.out _ HGC.out⟩
      | false =>
        have HCK := Lib.hid (checkRatio_any pn pd wc HPO.out.2.1 HPO.out.2.2)
        have HPC2 := Lib.hid (HPC.out HPA2.out hpb)
        have HPD2 := Lib.hid (HPD.out HPA2.out hpb)
        clear HPC HPD HPA2 hpb HPA
        obtain ⟨f, hf⟩ : ∃ f, ratF pn pd = f := ⟨_, rfl⟩
        rw [hf] at HCK HPC2 HPD2
        clear hf
        go_wp2_with fail
        refine HCK.out.mono ?_
        rintro e w5 ⟨rfl, hb5⟩
        have HB5 : Hid (Gq wA w5) := HGC.out.trans hb5
        have HG5 : Hid (Gq w1 w5) := HGW.out.trans hb5
        have HK5 : Hid (Blk w5 wr.heap.size 75 [.int .i64 x, .string pn, .string pd]) := HKC.out.same (Same.of_below (S := fun _ => True) hb5) trivial
        clear hb5 HCK e1 e2
        by_cases hf : f = 0
        case neg =>
          have HQ : Hid (E = f) := by
            have := HPC2.out hf
            show _ = _
            rw [HBD.out (by rw [this]; exact hf), this]
          have hf2 : (!(f == 0)) = true := by simp [hf]
          go_wp2_with fail
          go_ret
          exact ⟨ret_int HQ.out.symm, HBF.out _ HB5.out⟩
        subst hf
        have HPE := Lib.hid (HPD2.out rfl)
        have e1 : w5.cell? ⟨wr.heap.size, 1, none⟩ = some (.string pn) := HK5.out.cell 1
        have e2 : w5.cell? ⟨wr.heap.size, 2, none⟩ = some (.string pd) := HK5.out.cell 2
        have HTP := Lib.hid (trimP_any pn w5)
        obtain ⟨n, hn⟩ : ∃ n : ByteArray, n = ⟨(boT pn).toArray⟩ := ⟨_, rfl⟩
        have hnz : n.size = (boT pn).length := by rw [hn]; show (boT pn).toArray.size = _; simp
        have hdz : pd.data.toList.length = pd.size := by rw [Array.length_toList]; rfl
        rw [← hnz, hdz] at HPE
        rw [← hn] at HTP
        clear hn hnz hdz HPD2 HPC2
        go_wp2_with fail
        refine HTP.out.mono ?_
        rintro e w6 ⟨rfl, hw6⟩
        subst hw6
        by_cases h1 : 40 < n.size
        · have HQ : Hid (E = 2) := by
            have h2 : pntF cl xs k = 2 := by rw [HPE.out, if_pos (.inl h1)]
            show _ = _
            rw [HBD.out (by rw [h2]; decide), h2]
          have h1b : decide (40 < n.size) = true := by simpa using h1
          go_wp2_with fail
          go_ret
          exact ⟨ret_int HQ.out.symm, HBF.out _ HB5.out⟩
        have h1b : decide (40 < n.size) = false := by simpa using h1
        by_cases h2 : 40 < pd.size
        · have HQ : Hid (E = 2) := by
            have h3 : pntF cl xs k = 2 := by rw [HPE.out, if_pos (.inr h2)]
            show _ = _
            rw [HBD.out (by rw [h3]; decide), h3]
          have h2b : decide (40 < pd.size) = true := by simpa using h2
          go_wp2_with fail
          go_ret
          exact ⟨ret_int HQ.out.symm, HBF.out _ HB5.out⟩
        have h2b : decide (40 < pd.size) = false := by simpa using h2
        have HN2 := Lib.hid (HNX.out (by rw [HPE.out, if_neg (by omega)]))
        go_wp2_with fail
        go_roundw
        case rel => exact ⟨k + 1, by omega, by go_num, HN2.out, HG5⟩
        case measure => simp [intOf]; omega
end Go.Proofs.YteaghgbpcpileaaGreatDoor
/- The contract of edit.checkClip. -/
namespace Go.Proofs.YteaghgbpcpileaaGreatDoor
open Go.RowKit Go.Dw

/-- what a clip's numbers must be -/
def CliN (tk xc xf xt xa xl : Int) : Prop := (0 ≤ xc ∧ xc < 16) ∧ (0 ≤ xf ∧ xf ≤ 10000000000000) ∧ (0 ≤ xt ∧ xt < tk) ∧ (0 ≤ xa ∧ xa < 100000) ∧ (1 ≤ xl ∧ xl ≤ 100000 - xa) ∧ xf + xl ≤ 10000000000000
theorem cliF_of (nm : ByteArray → Bool) (tk : Int) (c : Cli) (h : nm c.m = true) : (¬ CliN tk c.ch c.fr c.tr c.at_ c.ln → cliF nm tk c = 1) ∧ (CliN tk c.ch c.fr c.tr c.at_ c.ln → cliF nm tk c = envF c.ln c.e) := by
  unfold cliF cliR
  rw [if_neg (by rw [h]; decide)]
  refine ⟨fun g => ?_, fun g => ?_⟩
  · exact if_pos (decide_eq_false_iff_not.2 g)
  · exact if_neg (fun e => decide_eq_false_iff_not.1 e g)
set_option maxRecDepth 100000 in
set_option maxHeartbeats 8000000 in
theorem cli_any (c : CliM) (tk : Int) (w : World) (h : CliOk w c) :
    Calls Tryz.prog 35 #[c.v, .int .i64 tk] w fun e w' => e = .returned (.int .i64 (cliF isNm tk c.x)) ∧ Below w.heap.size w w' := by
  have HEV : Hid (∀ W, Gq w W → Calls Tryz.prog 55 #[c.v] W fun e w' => e = .returned (.int .i64 (envF c.ln c.e.xs)) ∧ Below W.heap.size W w') := fun W hW => env_any c W (h.below hW) h.ln
  have HCF := Lib.hid (cliF_of isNm tk c.x)
  have hm := h.m
  have HNF : Hid (isNm c.m = false → cliF isNm tk c.x = 5) := fun g => by unfold cliF; rw [if_pos (by exact g)]
  obtain ⟨xm, xc, xf, xt, xa, xl, ⟨A, d, xs⟩⟩ := c
  obtain ⟨_, i1, i2, i3, i4, i5, _, _, _⟩ := h
  obtain ⟨E, hE⟩ : ∃ E, cliF isNm tk (CliM.x ⟨xm, xc, xf, xt, xa, xl, ⟨A, d, xs⟩⟩) = E := ⟨_, rfl⟩
  rw [hE] at HCF HNF ⊢
  simp only [CliM.x, CliM.v, Slc.v] at HEV HCF HNF i1 i2 i3 i4 i5 hm ⊢
  obtain ⟨i1a, i1b⟩ := i1
  obtain ⟨i2a, i2b⟩ := i2
  obtain ⟨i3a, i3b⟩ := i3
  obtain ⟨i4a, i4b⟩ := i4
  obtain ⟨i5a, i5b⟩ := i5
  clear hE
  generalize (xs.length : Nat) = xn at *
  obtain ⟨w1, hw1⟩ : ∃ w1, w1 = w.alloc (.cells #[.string xm, .int .i64 xc, .int .i64 xf, .int .i64 xt, .int .i64 xa, .int .i64 xl, .slice A xn d] 39) := ⟨_, rfl⟩
  have HB : Hid (Below w.heap.size w w1) := by rw [hw1]; exact (Below.refl _ _).alloc (Nat.le_refl _) _
  have HK : Hid (Blk w1 w.heap.size 39 [.string xm, .int .i64 xc, .int .i64 xf, .int .i64 xt, .int .i64 xa, .int .i64 xl, .slice A xn d]) := by rw [hw1]; exact Blk.new w _ _
  have a0 : w1.cell? ⟨w.heap.size, 0, none⟩ = some (.string xm) := HK.out.cell 0
  have HIN := Lib.hid (isName_any xm w1 hm)
  have HW := Lib.hid hw1
  clear hw1
  go_enter Tryz.func35, Tryz.ntmps35
  go_upto_region 1 with (fail)
  rw [← HW.out]
  go_wp2_with fail
  refine HIN.out.mono ?_
  rintro e w2 ⟨rfl, hb2⟩
  have HB2 : Hid (Gq w w2) := HB.out.trans (hb2.mono HB.out.size)
  have HK2 : Hid (Blk w2 w.heap.size 39 [.string xm, .int .i64 xc, .int .i64 xf, .int .i64 xt, .int .i64 xa, .int .i64 xl, .slice A xn d]) := HK.out.same (Same.of_below (S := fun _ => True) hb2) trivial
  obtain ⟨nb, hnb⟩ : ∃ nb, isNm xm = nb := ⟨_, rfl⟩
  rw [hnb]
  rw [hnb] at HCF HNF
  clear hb2 HIN a0 HK HB hnb
  cases nb
  · have HQ : Hid (E = 5) := HNF.out rfl
    go_wp2_with fail
    go_ret
    exact ⟨ret_int HQ.out.symm, HB2.out⟩
  have HE2 := Lib.hid (HCF.out rfl)
  have HEU : Hid ((¬ ((0 ≤ xc ∧ xc < 16) ∧ (0 ≤ xf ∧ xf ≤ 10000000000000) ∧ (0 ≤ xt ∧ xt < tk) ∧ (0 ≤ xa ∧ xa < 100000) ∧ (1 ≤ xl ∧ xl ≤ 100000 - xa) ∧ xf + xl ≤ 10000000000000) → E = 1) ∧ (((0 ≤ xc ∧ xc < 16) ∧ (0 ≤ xf ∧ xf ≤ 10000000000000) ∧ (0 ≤ xt ∧ xt < tk) ∧ (0 ≤ xa ∧ xa < 100000) ∧ (1 ≤ xl ∧ xl ≤ 100000 - xa) ∧ xf + xl ≤ 10000000000000) → E = envF xl xs)) := HE2.out
  clear HE2 HCF HNF
  have HE2 := HEU
  clear HEU
  have a1 : w2.cell? ⟨w.heap.size, 1, none⟩ = some (.int .i64 xc) := HK2.out.cell 1
  have a2 : w2.cell? ⟨w.heap.size, 2, none⟩ = some (.int .i64 xf) := HK2.out.cell 2
  have a3 : w2.cell? ⟨w.heap.size, 3, none⟩ = some (.int .i64 xt) := HK2.out.cell 3
  have a4 : w2.cell? ⟨w.heap.size, 4, none⟩ = some (.int .i64 xa) := HK2.out.cell 4
  have a5 : w2.cell? ⟨w.heap.size, 5, none⟩ = some (.int .i64 xl) := HK2.out.cell 5
  have a6 : w2.cell? ⟨w.heap.size, 6, none⟩ = some (.slice A xn d) := HK2.out.cell 6
  have a0 : w2.cell? ⟨w.heap.size, 0, none⟩ = some (.string xm) := HK2.out.cell 0
  by_cases h1 : xc < 0
  · have HQ : Hid (E = 1) := HE2.out.1 (by omega)
    go_wp2_with fail
    go_ret
    exact ⟨ret_int HQ.out.symm, HB2.out⟩
  by_cases h2 : 16 ≤ xc
  · have HQ : Hid (E = 1) := HE2.out.1 (by omega)
    go_wp2_with fail
    go_ret
    exact ⟨ret_int HQ.out.symm, HB2.out⟩
  by_cases h3 : xf < 0
  · have HQ : Hid (E = 1) := HE2.out.1 (by omega)
    go_wp2_with fail
    go_ret
    exact ⟨ret_int HQ.out.symm, HB2.out⟩
  by_cases h4 : 10000000000000 < xf
  · have HQ : Hid (E = 1) := HE2.out.1 (by omega)
    go_wp2_with fail
    go_ret
    exact ⟨ret_int HQ.out.symm, HB2.out⟩
  by_cases h5 : xt < 0
  · have HQ : Hid (E = 1) := HE2.out.1 (by omega)
    go_wp2_with fail
    go_ret
    exact ⟨ret_int HQ.out.symm, HB2.out⟩
  by_cases h6 : tk ≤ xt
  · have HQ : Hid (E = 1) := HE2.out.1 (by omega)
    go_wp2_with fail
    go_ret
    exact ⟨ret_int HQ.out.symm, HB2.out⟩
  by_cases h7 : xa < 0
  · have HQ : Hid (E = 1) := HE2.out.1 (by omega)
    go_wp2_with fail
    go_ret
    exact ⟨ret_int HQ.out.symm, HB2.out⟩
  by_cases h8 : 100000 ≤ xa
  · have HQ : Hid (E = 1) := HE2.out.1 (by omega)
    go_wp2_with fail
    go_ret
    exact ⟨ret_int HQ.out.symm, HB2.out⟩
  by_cases h9 : xl < 1
  · have HQ : Hid (E = 1) := HE2.out.1 (by omega)
    go_wp2_with fail
    go_ret
    exact ⟨ret_int HQ.out.symm, HB2.out⟩
  have W1 : IntKind.i64.wrap (100000 - xa) = 100000 - xa := IntWalk.i64_in _ (by omega)
  by_cases h10 : 100000 - xa < xl
  · have HQ : Hid (E = 1) := HE2.out.1 (by omega)
    go_wp2_with fail
    go_ret
    exact ⟨ret_int HQ.out.symm, HB2.out⟩
  have W2 : IntKind.i64.wrap (xf + xl) = xf + xl := IntWalk.i64_in _ (by omega)
  by_cases h11 : 10000000000000 < xf + xl
  · have HQ : Hid (E = 1) := HE2.out.1 (by omega)
    go_wp2_with fail
    go_ret
    exact ⟨ret_int HQ.out.symm, HB2.out⟩
  have HQ : Hid (E = envF xl xs) := HE2.out.2 (by omega)
  have HEN := Lib.hid (HEV.out w2 HB2.out)
  rw [← HQ.out] at HEN
  go_wp2_with fail
  refine HEN.out.mono ?_
  rintro e w3 ⟨rfl, hb3⟩
  have HB3 := Lib.hid (Gq.trans HB2.out hb3)
  clear hb3
  go_wp2_with fail
  go_ret
  exact ⟨rfl, HB3.out⟩
end Go.Proofs.YteaghgbpcpileaaGreatDoor
/- The contract of edit.Check. -/
namespace Go.Proofs.YteaghgbpcpileaaGreatDoor
open Go.RowKit Go.Dw

/-- the parts of an edit's fault -/
theorem ediF_r {nm : ByteArray → Bool} {mx : Int} {e : Edt} (h : ¬ (1 ≤ e.rate ∧ e.rate ≤ mx) ∨ e.tracks < 1 ∨ 16 < e.tracks) : ediF nm mx e = 1 := by unfold ediF; rw [if_pos h]
theorem ediF_l {nm : ByteArray → Bool} {mx : Int} {e : Edt} (h : ¬ (¬ (1 ≤ e.rate ∧ e.rate ≤ mx) ∨ e.tracks < 1 ∨ 16 < e.tracks)) (g : 300 < e.cs.length) : ediF nm mx e = 2 := by unfold ediF; rw [if_neg h, if_pos g]
theorem ediF_n {nm : ByteArray → Bool} {mx : Int} {e : Edt} (h : ¬ (¬ (1 ≤ e.rate ∧ e.rate ≤ mx) ∨ e.tracks < 1 ∨ 16 < e.tracks)) (g : ¬ 300 < e.cs.length) :
    (∀ k, k < e.cs.length → (∀ j, j < k → ediK nm e j = 0) → ediK nm e k ≠ 0 → ediF nm mx e = ediK nm e k) ∧ ((∀ j, j < e.cs.length → ediK nm e j = 0) → ediF nm mx e = 0) := by
  unfold ediF
  rw [if_neg h, if_neg g]
  exact ⟨fun k hk h1 h2 => firstNZ_bad h1 h2 hk, fun h1 => firstNZ_ok h1⟩
theorem ediK_of (nm : ByteArray → Bool) (e : Edt) (k : Nat) : (cliF nm e.tracks (e.cs.getD k dCli) ≠ 0 → ediK nm e k = cliF nm e.tracks (e.cs.getD k dCli)) ∧ (cliF nm e.tracks (e.cs.getD k dCli) = 0 → (0 < k ∧ 0 < cmpK (e.cs.getD (k - 1) dCli) (e.cs.getD k dCli)) → ediK nm e k = 8) ∧
    (cliF nm e.tracks (e.cs.getD k dCli) = 0 → ¬ (0 < k ∧ 0 < cmpK (e.cs.getD (k - 1) dCli) (e.cs.getD k dCli)) → ediK nm e k = 0) := by
  unfold ediK
  refine ⟨fun h => by rw [if_pos h], fun h g => by rw [if_neg (by omega), if_pos g], fun h g => by rw [if_neg (by omega), if_neg g]⟩
set_option maxRecDepth 100000 in
set_option maxHeartbeats 8000000 in
theorem check_any (e : EdtM) (w : World) (h : EdtOk w e) :
    Calls Tryz.prog 20 #[e.v] w fun en w' => en = .returned (.int .i64 (ediF isNm 1000000 e.x)) ∧ Below w.heap.size w w' := by
  obtain ⟨rt, tk, ⟨A, d, xs⟩⟩ := e
  obtain ⟨⟨r1, r2⟩, ⟨t1, t2⟩, hcl, hcr, hco⟩ := h
  simp only at r1 r2 t1 t2 hcl hcr hco
  have HR1 := Lib.hid (ediF_r (nm := isNm) (mx := 1000000) (e := EdtM.x ⟨rt, tk, ⟨A, d, xs⟩⟩))
  have HR2 := Lib.hid (ediF_l (nm := isNm) (mx := 1000000) (e := EdtM.x ⟨rt, tk, ⟨A, d, xs⟩⟩))
  have HR3 := Lib.hid (ediF_n (nm := isNm) (mx := 1000000) (e := EdtM.x ⟨rt, tk, ⟨A, d, xs⟩⟩))
  have HKO := Lib.hid (ediK_of isNm (EdtM.x ⟨rt, tk, ⟨A, d, xs⟩⟩))
  obtain ⟨E, hE⟩ : ∃ E, ediF isNm 1000000 (EdtM.x ⟨rt, tk, ⟨A, d, xs⟩⟩) = E := ⟨_, rfl⟩
  obtain ⟨F, hF⟩ : ∃ F, ediK isNm (EdtM.x ⟨rt, tk, ⟨A, d, xs⟩⟩) = F := ⟨_, rfl⟩
  rw [hE] at HR1 HR2 HR3 ⊢
  rw [hF] at HR3 HKO
  have hGD : ∀ k (hk : k < xs.length), (xs.map CliM.x).getD k dCli = xs[k].x := fun k hk => by rw [List.getD_eq_getElem?_getD, List.getElem?_map, List.getElem?_eq_getElem hk]; rfl
  simp only [EdtM.x, EdtM.v, Slc.v, List.length_map] at HR1 HR2 HR3 HKO ⊢
  have HGD := Lib.hid hGD
  have HCO := Lib.hid hco
  obtain ⟨w1, hw1⟩ : ∃ w1, w1 = w.alloc (.cells #[.int .i64 rt, .int .i64 tk, .slice A xs.length d] 24) := ⟨_, rfl⟩
  have HB : Hid (Below w.heap.size w w1) := by rw [hw1]; exact (Below.refl _ _).alloc (Nat.le_refl _) _
  have HK : Hid (Blk w1 w.heap.size 24 [.int .i64 rt, .int .i64 tk, .slice A xs.length d]) := by rw [hw1]; exact Blk.new w _ _
  have HR : Hid (Rd w1 A (xs.flatMap CliM.cs)) := hcr.below HB.out
  have HS : Hid (∀ W, Gq w1 W → W.cell? ⟨w.heap.size, 0, none⟩ = some (.int .i64 rt) ∧ W.cell? ⟨w.heap.size, 1, none⟩ = some (.int .i64 tk) ∧ W.cell? ⟨w.heap.size, 2, none⟩ = some (.slice A xs.length d)) := fun W hW => by
    have k1 := HK.out.same (Same.of_below (S := fun _ => True) hW) trivial
    exact ⟨k1.cell 0, k1.cell 1, k1.cell 2⟩
  have HW := Lib.hid hw1
  obtain ⟨c0, c1, c2⟩ := HS.out w1 (Gq.refl _)
  have HIR := Lib.hid (isRate_any rt w1)
  have HRI := Lib.hid (isRt_iff rt)
  obtain ⟨rb, hrb⟩ : ∃ rb, isRt rt = rb := ⟨_, rfl⟩
  rw [hrb] at HIR HRI
  clear hw1 hE hF hcr hco hGD HK hrb
  go_enter Tryz.func20, Tryz.ntmps20
  go_upto_region 1 with (fail)
  rw [← HW.out]
  go_wp2_with fail
  refine HIR.out.mono ?_
  rintro e w' ⟨rfl, hww⟩
  subst hww
  cases rb
  · have HQ : Hid (E = 1) := HR1.out (.inl (fun g => by have := HRI.out.2 g; cases this))
    go_wp2_with fail
    go_ret
    exact ⟨ret_int HQ.out.symm, HB.out⟩
  have HRR := Lib.hid (HRI.out.1 rfl)
  by_cases ht1 : tk < 1
  · have HQ : Hid (E = 1) := HR1.out (.inr (.inl ht1))
    go_wp2_with fail
    go_ret
    exact ⟨ret_int HQ.out.symm, HB.out⟩
  by_cases ht2 : 16 < tk
  · have HQ : Hid (E = 1) := HR1.out (.inr (.inr ht2))
    go_wp2_with fail
    go_ret
    exact ⟨ret_int HQ.out.symm, HB.out⟩
  have HOK : Hid (¬ (¬ (1 ≤ rt ∧ rt ≤ 1000000) ∨ tk < 1 ∨ 16 < tk)) := fun g => by
    rcases g with g | g | g
    · exact g HRR.out
    · exact ht1 g
    · exact ht2 g
  by_cases h3 : 300 < xs.length
  · have HQ : Hid (E = 2) := HR2.out HOK.out h3
    have h3b : decide (300 < xs.length) = true := by simpa using h3
    go_wp2_with fail
    go_ret
    exact ⟨ret_int HQ.out.symm, HB.out⟩
  have h3b : decide (300 < xs.length) = false := by simpa using h3
  have HE2 := Lib.hid (HR3.out HOK.out h3)
  clear HR1 HR2 HR3 HOK HRR HRI HIR
  go_wp2_with fail
  clear c0 c1 c2
  go_loopw [27] (fun iv wr => ∃ k : Nat, k ≤ xs.length ∧ iv = .int .i64 (k : Int) ∧ Hid (∀ j, j < k → F j = 0) ∧ Hid (Gq w1 wr)) (fun iv _ => xs.length - (intOf iv).toNat)
  case atStart => exact ⟨0, Nat.zero_le _, rfl, fun j hj => by omega, Gq.refl _⟩
  case round =>
    obtain ⟨k, hk, rfl, HA, HG⟩ := hrel
    by_cases hlt : k < xs.length
    case neg =>
      have hd : decide (k < xs.length) = false := by simpa using hlt
      have HQ : Hid (E = 0) := HE2.out.2 (fun j hj => HA.out j (by omega))
      go_wp2_with fail
      go_ret
      exact ⟨ret_int HQ.out.symm, HB.out.trans (Below.mono HG.out HB.out.size)⟩
    have hd : decide (k < xs.length) = true := by simpa using hlt
    obtain ⟨b, off, rfl, hb, hc⟩ := cli_at (HG.out.rd HR.out) (by omega)
    obtain ⟨d0, d1, d2, d3, d4, d5, d6⟩ := hc k hlt
    have HCW := Lib.hid ((HCO.out _ (List.getElem_mem hlt)).below (Below.trans HB.out (Below.mono HG.out HB.out.size)))
    obtain ⟨s0, s1, s2⟩ := HS.out wr HG.out
    have HNX : Hid (F k = 0 → ∀ j, j < k + 1 → F j = 0) := fun h => step_all HA.out h
    have HBD : Hid (F k ≠ 0 → E = F k) := fun h => HE2.out.1 k hlt HA.out h
    have HKK := Lib.hid (HKO.out k)
    rw [HGD.out k hlt] at HKK
    have HPV : Hid (0 < k → ∃ y : CliM, (xs.map CliM.x).getD (k - 1) dCli = y.x ∧ (wr.cell? ⟨b, off + (k - 1) * 7, none⟩ = some (.string y.m) ∧ wr.cell? ⟨b, off + (k - 1) * 7 + 1, none⟩ = some (.int .i64 y.ch) ∧ wr.cell? ⟨b, off + (k - 1) * 7 + 2, none⟩ = some (.int .i64 y.fr) ∧
      wr.cell? ⟨b, off + (k - 1) * 7 + 3, none⟩ = some (.int .i64 y.tr) ∧ wr.cell? ⟨b, off + (k - 1) * 7 + 4, none⟩ = some (.int .i64 y.at_) ∧ wr.cell? ⟨b, off + (k - 1) * 7 + 5, none⟩ = some (.int .i64 y.ln) ∧ wr.cell? ⟨b, off + (k - 1) * 7 + 6, none⟩ = some (.slice y.e.a y.e.xs.length y.e.c))) := fun hj =>
      ⟨xs[k - 1]'(by omega), HGD.out (k - 1) (by omega), hc (k - 1) (by omega)⟩
    clear hc
    generalize xs[k] = x at *
    obtain ⟨wA, hwA⟩ : ∃ wA, wA = wr.alloc (.cells x.cs.toArray 39) := ⟨_, rfl⟩
    have HGA : Hid (Gq w1 wA) := by rw [hwA]; exact HG.out.alloc _
    have HRA : Hid (Gq wr wA) := by rw [hwA]; exact (Gq.refl _).alloc _
    have HKA : Hid (Blk wA wr.heap.size 39 x.cs) := by rw [hwA]; exact Blk.new wr _ _
    have HCL : Hid (∀ W, Gq wA W → Calls Tryz.prog 35 #[x.v, .int .i64 tk] W fun e w' => e = .returned (.int .i64 (cliF isNm tk x.x)) ∧ Gq W w') := fun W hW => cli_any _ _ W (HCW.out.below (HRA.out.trans hW))
    have HBF : Hid (∀ W, Gq wA W → Below w.heap.size w W) := fun W hW => HB.out.trans (Below.mono (HGA.out.trans hW) HB.out.size)
    have HWA := Lib.hid hwA
    obtain ⟨xm, xc, xf, xt, xa, xl, ⟨xA, xd, xe⟩⟩ := x
    simp only [CliM.cs, CliM.v, Slc.v] at HWA HKA HCL d0 d1 d2 d3 d4 d5 d6
    generalize hxn : (xe.length : Nat) = xn at HWA HKA HCL d0 d1 d2 d3 d4 d5 d6
    have HXN := Lib.hid hxn
    have a0 : wA.cell? ⟨wr.heap.size, 0, none⟩ = some (.string xm) := HKA.out.cell 0
    have a1 : wA.cell? ⟨wr.heap.size, 1, none⟩ = some (.int .i64 xc) := HKA.out.cell 1
    have a2 : wA.cell? ⟨wr.heap.size, 2, none⟩ = some (.int .i64 xf) := HKA.out.cell 2
    have a3 : wA.cell? ⟨wr.heap.size, 3, none⟩ = some (.int .i64 xt) := HKA.out.cell 3
    have a4 : wA.cell? ⟨wr.heap.size, 4, none⟩ = some (.int .i64 xa) := HKA.out.cell 4
    have a5 : wA.cell? ⟨wr.heap.size, 5, none⟩ = some (.int .i64 xl) := HKA.out.cell 5
    have a6 : wA.cell? ⟨wr.heap.size, 6, none⟩ = some (.slice xA xn xd) := HKA.out.cell 6
    obtain ⟨z0, z1, z2⟩ := HS.out wA HGA.out
    have HC1 := Lib.hid (HCL.out wA (Gq.refl _))
    obtain ⟨f, hf⟩ : ∃ f, cliF isNm tk (CliM.x ⟨xm, xc, xf, xt, xa, xl, ⟨xA, xd, xe⟩⟩) = f := ⟨_, rfl⟩
    rw [hf] at HC1 HKK
    clear hwA hf hxn HCL
    go_upto_region 8 with (fail)
    rw [← HWA.out]
    go_wp2_with fail
    refine HC1.out.mono ?_
    rintro e w5 ⟨rfl, hg5⟩
    have HG5 := Lib.hid hg5
    clear hg5 HC1 a0 a1 a2 a3 a4 a5 a6 z0 z1 z2
    by_cases hf : f = 0
    case neg =>
      have HQ : Hid (E = f) := by
        have := HKK.out.1 hf
        show _ = _
        rw [HBD.out (by rw [this]; exact hf), this]
      have hf2 : (!(f == 0)) = true := by simp [hf]
      go_wp2_with fail
      go_ret
      exact ⟨ret_int HQ.out.symm, HBF.out _ HG5.out⟩
    have HKZ := Lib.hid (HKK.out.2.1 hf)
    have HKN := Lib.hid (HKK.out.2.2 hf)
    subst hf
    clear HKK
    obtain ⟨pb, hpb⟩ : ∃ pb, decide (0 < k ∧ 0 < cmpK ((xs.map CliM.x).getD (k - 1) dCli) (CliM.x ⟨xm, xc, xf, xt, xa, xl, ⟨xA, xd, xe⟩⟩)) = pb := ⟨_, rfl⟩
    have HPB := Lib.hid hpb
    clear hpb
    go_upto_region 11 with (fail)
    go_cut [51] (fun v wx => v = .bool pb ∧ Hid (Gq w5 wx))
    case first =>
      cases k with
      | zero =>
        have HE0 : Hid (pb = false) := by show _ = _; rw [← HPB.out]; exact decide_eq_false (by omega)
        go_wp2_with fail
        go_quiet (fail)
        go_wp2_with fail
        go_meet
        case rel => exact ⟨by rw [HE0.out], below_drewN (Gq.refl w5) _⟩
      | succ j =>
        obtain ⟨y, hy, y0, y1, y2, y3, y4, y5, y6⟩ := HPV.out (by omega)
        rw [Nat.add_sub_cancel] at hy y0 y1 y2 y3 y4 y5 y6
        obtain ⟨r, hr⟩ : ∃ r, cmpK y.x (CliM.x ⟨xm, xc, xf, xt, xa, xl, ⟨xA, xd, xe⟩⟩) = r := ⟨_, rfl⟩
        have HCP : Hid (∀ W, Calls Tryz.prog 36 #[y.v, .agg #[.string xm, .int .i64 xc, .int .i64 xf, .int .i64 xt, .int .i64 xa, .int .i64 xl, .slice xA xn xd]] W fun e w' => e = .returned (.int .i64 r) ∧ Gq W w') := fun W => by
          have := compare_any y ⟨xm, xc, xf, xt, xa, xl, ⟨xA, xd, xe⟩⟩ W
          rw [hr] at this
          simp only [CliM.v, Slc.v] at this
          rw [HXN.out] at this
          exact this
        have HE0 : Hid (pb = decide (0 < r)) := by show _ = _; rw [← HPB.out, Nat.add_sub_cancel, hy, hr]; simp
        obtain ⟨ym, yc, yf, yt, ya, yl, ⟨yA, yd, ye⟩⟩ := y
        simp only [CliM.v, Slc.v] at HCP y0 y1 y2 y3 y4 y5 y6
        generalize (ye.length : Nat) = yn at HCP y0 y1 y2 y3 y4 y5 y6
        have HR5 : Gq wr w5 := HRA.out.trans HG5.out
        have HSX : Hid (∀ W, Gq w5 W → W.cell? ⟨w.heap.size, 2, none⟩ = some (.slice (some ⟨b, off, none⟩) xs.length d) ∧ W.cell? ⟨b, off + j * 7, none⟩ = some (.string ym) ∧ W.cell? ⟨b, off + j * 7 + 1, none⟩ = some (.int .i64 yc) ∧ W.cell? ⟨b, off + j * 7 + 2, none⟩ = some (.int .i64 yf) ∧ W.cell? ⟨b, off + j * 7 + 3, none⟩ = some (.int .i64 yt) ∧ W.cell? ⟨b, off + j * 7 + 4, none⟩ = some (.int .i64 ya) ∧ W.cell? ⟨b, off + j * 7 + 5, none⟩ = some (.int .i64 yl) ∧ W.cell? ⟨b, off + j * 7 + 6, none⟩ = some (.slice yA yn yd) ∧ W.cell? ⟨wr.heap.size, 0, none⟩ = some (.string xm) ∧ W.cell? ⟨wr.heap.size, 1, none⟩ = some (.int .i64 xc) ∧ W.cell? ⟨wr.heap.size, 2, none⟩ = some (.int .i64 xf) ∧ W.cell? ⟨wr.heap.size, 3, none⟩ = some (.int .i64 xt) ∧ W.cell? ⟨wr.heap.size, 4, none⟩ = some (.int .i64 xa) ∧ W.cell? ⟨wr.heap.size, 5, none⟩ = some (.int .i64 xl) ∧ W.cell? ⟨wr.heap.size, 6, none⟩ = some (.slice xA xn xd) ∧ Gq w5 W) := fun W hW => by
          have g1 := HR5.trans hW
          have k1 := HKA.out.same (Same.of_below (S := fun _ => True) (HG5.out.trans hW)) trivial
          have q := fun i (u : Value) (hu : wr.cell? ⟨b, i, none⟩ = some u) => (Below.cell g1 (p := ⟨b, i, none⟩) (by exact hb)).trans hu
          exact ⟨(HS.out W (HGA.out.trans (HG5.out.trans hW))).2.2, q _ _ y0, q _ _ y1, q _ _ y2, q _ _ y3, q _ _ y4, q _ _ y5, q _ _ y6, k1.cell 0, k1.cell 1, k1.cell 2, k1.cell 3, k1.cell 4, k1.cell 5, k1.cell 6, hW⟩
        have j0 : IntKind.i64.wrap ((j : Int) + 1 - 1) = (j : Int) := by rw [Int.add_sub_cancel]; exact IntWalk.i64_in _ (by omega)
        have j1 : (j : Int) < (xs.length : Int) := by omega
        have j2 : (0 : Int) ≤ (j : Int) := by omega
        have j3 : decide ((0 : Int) < (j : Int) + 1) = true := decide_eq_true (by omega)
        have j4 : IntKind.i64.wrap (j : Int) = (j : Int) := IntWalk.i64_in _ (by omega)
        have j5 : j < xs.length := by omega
        have hBR : Gq w5 w5 := Gq.refl _
        have hBD : Gq w5 w5.drew := (Gq.refl _).drew
        clear hy hr y0 y1 y2 y3 y4 y5 y6 d0 d1 d2 d3 d4 d5 d6 s0 s1 s2
        go_wp2_with fail
        go_region_held3 (fun W => W.cell? ⟨w.heap.size, 2, none⟩ = some (.slice (some ⟨b, off, none⟩) xs.length d) ∧ W.cell? ⟨b, off + j * 7, none⟩ = some (.string ym) ∧ W.cell? ⟨b, off + j * 7 + 1, none⟩ = some (.int .i64 yc) ∧ W.cell? ⟨b, off + j * 7 + 2, none⟩ = some (.int .i64 yf) ∧ W.cell? ⟨b, off + j * 7 + 3, none⟩ = some (.int .i64 yt) ∧ W.cell? ⟨b, off + j * 7 + 4, none⟩ = some (.int .i64 ya) ∧ W.cell? ⟨b, off + j * 7 + 5, none⟩ = some (.int .i64 yl) ∧ W.cell? ⟨b, off + j * 7 + 6, none⟩ = some (.slice yA yn yd) ∧ W.cell? ⟨wr.heap.size, 0, none⟩ = some (.string xm) ∧ W.cell? ⟨wr.heap.size, 1, none⟩ = some (.int .i64 xc) ∧ W.cell? ⟨wr.heap.size, 2, none⟩ = some (.int .i64 xf) ∧ W.cell? ⟨wr.heap.size, 3, none⟩ = some (.int .i64 xt) ∧ W.cell? ⟨wr.heap.size, 4, none⟩ = some (.int .i64 xa) ∧ W.cell? ⟨wr.heap.size, 5, none⟩ = some (.int .i64 xl) ∧ W.cell? ⟨wr.heap.size, 6, none⟩ = some (.slice xA xn xd) ∧ Gq w5 W)
          (first | exact HSX.out _ hBD | exact HSX.out _ hBR | exact HSX.out _ (Gq.trans hBD (by assumption)) | exact HSX.out _ (Gq.trans hBR (by assumption)))
          (first | (go_at_call 36; with_reducible refine (HCP.out _).mono ?_; rintro e w' ⟨rfl, hqc⟩))
        all_goals
          go_wp2_with fail
          go_meet
          case rel => exact ⟨by rw [HE0.out], by first | exact Gq.trans hBD (by assumption) | exact Gq.trans hBR (by assumption)⟩
    case rest =>
      obtain ⟨rfl, HGC⟩ := hcut
      have HGW : Hid (Gq w1 wc) := HGA.out.trans (HG5.out.trans HGC.out)
      have HFE : Hid ((pb = true → F k = 8) ∧ (pb = false → F k = 0)) := by
        rw [← HPB.out]
        exact ⟨fun g => HKZ.out (of_decide_eq_true g), fun g => HKN.out (of_decide_eq_false g)⟩
      cases pb with
      | true =>
        have HQ : Hid (E = 8) := by
          have := HFE.out.1 rfl
          show _ = _
          rw [HBD.out (by rw [this]; decide), this]
        go_wp2_with fail
        go_ret
        exact ⟨ret_int HQ.out.symm, HBF.out _ (HG5.out.trans HGC.out)⟩
      | false =>
        have HN2 := Lib.hid (HNX.out (HFE.out.2 rfl))
        go_wp2_with fail
        go_roundw
        case rel => exact ⟨k + 1, by omega, by go_num, HN2.out, HGW⟩
        case measure => simp [intOf]; omega
end Go.Proofs.YteaghgbpcpileaaGreatDoor
