/- The contract of the reference's Repeats. -/
import Derived.Test.YtoiobhjbikfpmaaRepB
import Derived.Test.YtoiobhjbikfpmaaInsRp
import Derived.Deep.DeepCutAuto
import Derived.Deep.CutBlock
namespace Go.Proofs.Ytoiobhjbikfpmaa
open Go.RowKit Go.Dw
attribute [local go_sem ↓] Go.wp_at_zero Go.wp_at_succ

theorem flat_take {α : Type} (f : α → List Value) (s : Nat) (hs : ∀ a, (f a).length = s) : ∀ (l : List α) (t : Nat), (l.flatMap f).take (t * s) = (l.take t).flatMap f ∧ (l.flatMap f).drop (t * s) = (l.drop t).flatMap f
  | [], t => by simp
  | x :: l, 0 => by simp
  | x :: l, t + 1 => by
    obtain ⟨h1, h2⟩ := flat_take f s hs l t
    have hx := hs x
    rw [List.flatMap_cons, Nat.succ_mul, List.take_succ_cons, List.drop_succ_cons, List.flatMap_cons, ← h1, ← h2, List.take_append, List.drop_append, hx]
    rw [List.take_of_length_le (by omega), List.drop_eq_nil_of_le (show (f x).length ≤ t * s + s by omega), show t * s + s - s = t * s by omega]
    simp
theorem while_at {α : Type} (p : α → Bool) : ∀ (l : List α) (t : Nat), (∀ j (hj : j < l.length), j < t → p l[j] = true) → t ≤ l.length → (∀ h : t < l.length, p l[t] = false) → l.takeWhile p = l.take t ∧ l.dropWhile p = l.drop t
  | [], t, _, _, _ => by simp
  | x :: l, 0, _, _, h => by
    have := h (by simp)
    simp at this
    simp [this]
  | x :: l, t + 1, h1, h2, h3 => by
    have hx : p x = true := h1 0 (by simp) (by omega)
    obtain ⟨e1, e2⟩ := while_at p l t (fun j hj hjt => by have := h1 (j + 1) (by simpa using hj) (by omega); simpa using this) (by simpa using h2) (fun h => by have := h3 (by simpa using h); simpa using this)
    simp [hx, e1, e2]
section
variable {xs : List Int} {L a b m : Nat}
theorem cand_no1 (h : eqD xs (b - a) a = false) : cand xs L a b = [] := by unfold cand; simp [h]
theorem cand_no2 (h0 : 1 ≤ a) (h : eqD xs (b - a) (a - 1) = true) : cand xs L a b = [] := by
  unfold cand
  have : (a == 0) = false := by simp; omega
  simp [h, this]
theorem run_is (h1 : ∀ i, i < m → eqD xs (b - a) (a + i) = true) (h2 : eqD xs (b - a) (a + m) = false) : run xs (b - a) xs.length a = m := by
  obtain ⟨r1, r2⟩ := run_inv xs (b - a) xs.length a (by omega)
  rcases Nat.lt_trichotomy m (run xs (b - a) xs.length a) with h | h | h
  · have := r1 m h; rw [h2] at this; cases this
  · exact h.symm
  · have := h1 _ h; rw [r2] at this; cases this
theorem cand_short (h1 : ∀ i, i < m → eqD xs (b - a) (a + i) = true) (h2 : eqD xs (b - a) (a + m) = false) (hl : m < L) : cand xs L a b = [] := by
  unfold cand
  rw [run_is h1 h2, decide_eq_false (show ¬ L ≤ m by omega)]
  simp
theorem cand_yes (hm : 1 ≤ m) (h0 : a = 0 ∨ eqD xs (b - a) (a - 1) = false) (h1 : ∀ i, i < m → eqD xs (b - a) (a + i) = true) (h2 : eqD xs (b - a) (a + m) = false) (hl : L ≤ m) : cand xs L a b = [⟨a, b, m⟩] := by
  unfold cand
  rw [run_is h1 h2, decide_eq_true hl]
  have h3 := h1 0 (by omega)
  rw [Nat.add_zero] at h3
  rcases h0 with rfl | h0
  · simp at h3; simp [h3]
  · simp [h3, h0]
theorem rIn_mono (a : Nat) : ∀ {k k' : Nat}, k ≤ k' → (rIn xs L a k).length ≤ (rIn xs L a k').length := by
  intro k k' h
  induction h with
  | refl => exact Nat.le_refl _
  | step _ ih => rw [rIn, List.length_append]; omega
theorem rOut_mono : ∀ {k k' : Nat}, k ≤ k' → (rOut xs L k).length ≤ (rOut xs L k').length := by
  intro k k' h
  induction h with
  | refl => exact Nat.le_refl _
  | step _ ih => rw [rOut, List.length_append]; omega
theorem part_le {k : Nat} (ha : a < xs.length) (hk : k ≤ xs.length - a - 1) : (rOut xs L a ++ rIn xs L a k).length ≤ (rOut xs L xs.length).length := by
  have h1 := rOut_mono (xs := xs) (L := L) (show a + 1 ≤ xs.length by omega)
  rw [rOut, List.length_append] at h1
  have h2 := rIn_mono (xs := xs) (L := L) a hk
  rw [List.length_append]; omega
end
set_option maxRecDepth 100000 in
set_option maxHeartbeats 4000000 in
theorem rrepeats_any (A : Option Addr) (c : Nat) (xs : List Int) (least : Int) (w : World) (h : Rd w A (ic xs)) (hn : xs.length ≤ 9223372036854775807) :
    Calls Try.prog 6 #[.slice A xs.length c, .int .i64 least] w (RepPost w (repF xs least)) := by
  have HRD := Lib.hid h
  have HCK := Lib.hid (check_any A c xs w h hn)
  clear h
  by_cases hz : chk xs = 0
  case neg =>
    have hzb : (chk xs != 0) = true := by simpa using hz
    have HR : Hid (repF xs least = ([], chk xs)) := by show _ = _; unfold repF; rw [if_pos hz]
    clear hz
    go_enter Try.func6, Try.ntmps6
    go_wp2_with fail
    refine HCK.out.mono ?_
    rintro e w1 ⟨rfl, rfl⟩
    go_wp2_with fail
    go_ret2
    exact repPost_none HR.out (Below.refl _ _)
  have hzb : (chk xs != 0) = false := by simpa using hz
  obtain ⟨hxl, hxs⟩ := chk_zero hz
  by_cases hle : 1 ≤ least ∧ least ≤ 500
  case neg =>
    have HR : Hid (repF xs least = ([], 1)) := by show _ = _; unfold repF; rw [if_neg (by simpa using hz), if_neg hle]
    have HW := Lib.hid (within_f least 1 500 w hle)
    clear hz hxs hle
    go_enter Try.func6, Try.ntmps6
    go_wp2_with fail
    refine HCK.out.mono ?_
    rintro e w1 ⟨rfl, rfl⟩
    go_wp2_with fail
    refine HW.out.mono ?_
    rintro e w1 ⟨rfl, rfl⟩
    go_wp2_with fail
    go_ret2
    exact repPost_none HR.out (Below.refl _ _)
  have HW := Lib.hid (within_t least 1 500 w hle)
  have HR : Hid (repF xs least = if 1000 < (rOut xs least.toNat xs.length).length then ([], 2) else (refR xs least.toNat, 0)) := by show _ = _; unfold repF; rw [if_neg (by simpa using hz), if_pos hle]
  obtain ⟨hle1, hle2⟩ := hle
  obtain ⟨L, rfl⟩ := Int.eq_ofNat_of_zero_le (show 0 ≤ least by omega)
  simp only [Int.toNat_natCast] at HR
  have hL1 : 1 ≤ L := by omega
  have HZ := Lib.hid (And.intro hz hxs)
  clear hz hxs
  go_enter Try.func6, Try.ntmps6
  go_wp2_with fail
  refine HCK.out.mono ?_
  rintro e w1 ⟨rfl, rfl⟩
  go_wp2_with fail
  refine HW.out.mono ?_
  rintro e w1 ⟨rfl, rfl⟩
  go_wp2_with fail
  go_loopw [7, 22] (fun ov av wr => ∃ (a : Nat) (O : List Rep), a ≤ xs.length ∧ av = .int .i64 (a : Int) ∧ O.length ≤ 1000 ∧ Hid (O = insAll geR [] (rOut xs L a)) ∧ Hid (wr.ownsRow w.heap.size 29 3 ov O.length (O.flatMap encRp)) ∧ Hid (Below w.heap.size w wr)) (fun _ av _ => xs.length - (intOf av).toNat)
  case atStart => exact ⟨0, [], by omega, rfl, by simp, rfl, ⟨rfl, .inl ⟨rfl, rfl⟩⟩, Below.refl _ _⟩
  case round =>
    obtain ⟨a, O, ha, rfl, hol, HO, HOWN, HB⟩ := hrel
    obtain ⟨A2, c2, rfl⟩ := slice_of_own HOWN.out
    by_cases hlt : a < xs.length
    case neg =>
      have hae : a = xs.length := by omega
      have hd3 : decide (a < xs.length) = false := by simpa using hlt
      have HOE : Hid (O = refR xs L) := by show _ = _; rw [HO.out, hae]; rfl
      have HRR : Hid (repF xs (L : Int) = (refR xs L, 0)) := by
        show _ = _
        rw [HR.out, if_neg (by rw [← refR_length, ← HOE.out]; omega)]
      have HRD2 := Lib.hid (Rd.of_own HOWN.out)
      clear hae
      go_wp2_with fail
      go_ret2
      exact ⟨A2, c2, by rw [HRR.out, ← HOE.out]; rfl, by rw [HRR.out, ← HOE.out]; exact HRD2.out, HB.out⟩
    have hd3 : decide (a < xs.length) = true := by simpa using hlt
    go_wp2_with fail
    go_loopw [7, 9] (fun ov bv wr => ∃ (k b : Nat) (Q : List Rep), b = a + 1 + k ∧ b ≤ xs.length ∧ bv = .int .i64 (b : Int) ∧ Q.length ≤ 1000 ∧ Hid (Q = insAll geR [] (rOut xs L a ++ rIn xs L a k)) ∧ Hid (wr.ownsRow w.heap.size 29 3 ov Q.length (Q.flatMap encRp)) ∧ Hid (Below w.heap.size w wr)) (fun _ bv _ => xs.length - (intOf bv).toNat)
    case atStart => exact ⟨0, a + 1, O, rfl, by omega, by go_num, hol, by rw [rIn, List.append_nil]; exact HO, HOWN, HB⟩
    case round =>
      clear HOWN HB HO hol
      obtain ⟨k, b, Q, hbk, hbl, rfl, hql, HQ, HOWN, HB⟩ := hrel
      by_cases hbx : b < xs.length
      case neg =>
        have hd4 : decide (b < xs.length) = false := by simpa using hbx
        have HM : Hid (Q = insAll geR [] (rOut xs L (a + 1))) := by
          show _ = _
          rw [HQ.out, rOut]; congr 3; omega
        clear hbk
        go_wp2_with fail
        go_roundw
        case rel => exact ⟨a + 1, Q, by omega, by go_num, hql, HM, HOWN, HB⟩
        case measure => simp [intOf]; omega
      have hd4 : decide (b < xs.length) = true := by simpa using hbx
      have HSN : Hid (∀ r, cand xs L a b = r → rOut xs L a ++ rIn xs L a (k + 1) = (rOut xs L a ++ rIn xs L a k) ++ r) := fun r hr => by rw [rIn, ← hbk, hr, List.append_assoc]
      have hPL := part_le (xs := xs) (L := L) (a := a) (k := k + 1) hlt (by omega)
      have HPL := Lib.hid hPL
      have hab : a < b := by omega
      have HBK := Lib.hid hbk
      clear hbk hPL
      obtain ⟨bb, off, rfl, hbs, hcell⟩ := HRD.out.at_ (by rw [ic_length]; omega)
      have HCE := Lib.hid hcell
      have HWC : Hid (∀ (W : World) i, Below w.heap.size w W → (hi : i < xs.length) → W.cell? ⟨bb, off + i, none⟩ = some (.int .i64 xs[i])) := fun W i hW hi => by
        rw [hW.cell (by exact hbs)]; exact HCE.out i _ (ic_at xs i hi)
      obtain ⟨sk, hsk⟩ : ∃ v, (!(eqD xs (b - a) a && (decide (a = 0) || !eqD xs (b - a) (a - 1)))) = v := ⟨_, rfl⟩
      have HSK := Lib.hid hsk
      clear hsk hcell
      go_upto_region 13 with (fail)
      go_cut [58] (fun v wx => v = .bool sk ∧ ∃ n, wx = wr.drewN n)
      case first =>
        have c1 := HWC.out wr a HB.out hlt
        have c2' := HWC.out wr b HB.out hbx
        have j0 : (0 : Int) ≤ (a : Int) := by omega
        have j1 : (a : Int) < (xs.length : Int) := by omega
        have j2 : (0 : Int) ≤ (b : Int) := by omega
        have j3 : (b : Int) < (xs.length : Int) := by omega
        obtain ⟨q, hq⟩ : ∃ q, eqD xs (b - a) a = q := ⟨_, rfl⟩
        have hv : (xs[a] == xs[b]) = q := by
          rw [← hq, eqD_at (show a + (b - a) < xs.length by omega)]
          simp only [show a + (b - a) = b by omega]
        have hv' : (xs[a] != xs[b]) = !q := by rw [← hv]; rfl
        have HEQ := Lib.hid hq
        generalize xs[a] = x1 at *
        generalize xs[b] = x2 at *
        clear hq
        cases q with
        | false =>
          have hv2 : (x1 != x2) = true := by simpa using hv'
          have HE : Hid (sk = true) := by show _ = _; rw [← HSK.out, HEQ.out]; rfl
          clear hv'
          go_quiet (fail)
          go_wp2_with fail
          go_meet
          case rel => exact ⟨by rw [HE.out], _, rfl⟩
        | true =>
          have hv2 : (x1 != x2) = false := by simpa using hv'
          clear hv'
          by_cases h0 : a = 0
          · have hga : decide ((0 : Int) < (a : Int)) = false := by simpa using h0
            have hga' : decide (0 < a) = false := by simpa using h0
            have HE : Hid (sk = false) := by show _ = _; rw [← HSK.out, HEQ.out, decide_eq_true h0]; rfl
            clear h0
            go_quiet (fail)
            go_wp2_with fail
            go_meet
            case rel => exact ⟨by rw [HE.out], _, rfl⟩
          · have hga : decide ((0 : Int) < (a : Int)) = true := by simp; omega
            have hga' : decide (0 < a) = true := by simp; omega
            have c3 := HWC.out wr (a - 1) HB.out (by omega)
            have c4 := HWC.out wr (b - 1) HB.out (by omega)
            have k0 : IntKind.i64.wrap ((a : Int) - 1) = (a : Int) - 1 := IntWalk.i64_in _ (by omega)
            have k1 : IntKind.i64.wrap ((b : Int) - 1) = (b : Int) - 1 := IntWalk.i64_in _ (by omega)
            have k2 : (1 : Int) ≤ (a : Int) := by omega
            have k3 : (1 : Int) ≤ (b : Int) := by omega
            have k4 : (a : Int) - 1 < (xs.length : Int) := by omega
            have k5 : (b : Int) - 1 < (xs.length : Int) := by omega
            have k6 : ((a : Int) - 1).toNat = a - 1 := by omega
            have k7 : ((b : Int) - 1).toNat = b - 1 := by omega
            have k8 : (0 : Int) ≤ (a : Int) - 1 := by omega
            have k9 : (0 : Int) ≤ (b : Int) - 1 := by omega
            obtain ⟨q2, hq2⟩ : ∃ q, eqD xs (b - a) (a - 1) = q := ⟨_, rfl⟩
            have hv3 : (xs[a - 1] == xs[b - 1]) = q2 := by
              rw [← hq2, eqD_at (show a - 1 + (b - a) < xs.length by omega)]
              simp only [show a - 1 + (b - a) = b - 1 by omega]
            have HE : Hid (sk = q2) := by show _ = _; rw [← HSK.out, HEQ.out, decide_eq_false h0, hq2]; cases q2 <;> rfl
            generalize xs[a - 1] = y1 at *
            generalize xs[b - 1] = y2 at *
            clear hq2 h0
            go_quiet (fail)
            clear k0 k1 k6 k7
            go_wp2_with fail
            go_meet
            case rel => exact ⟨by rw [HE.out], _, rfl⟩
      case rest =>
        obtain ⟨rfl, nn, hwc⟩ := hcut
        have HOW : Hid (wc.ownsRow w.heap.size 29 3 u7 Q.length (Q.flatMap encRp)) := by show World.ownsRow _ _ _ _ _ _ _; rw [hwc]; exact HOWN.out
        have HBW : Hid (Below w.heap.size w wc) := by show Below _ _ _; rw [hwc]; exact below_drewN HB.out nn
        clear hwc HOWN HB
        cases sk with
        | true =>
          have HCN : Hid (cand xs L a b = []) := by
            show _ = _
            have h1 := HSK.out
            cases he : eqD xs (b - a) a with
            | false => exact cand_no1 he
            | true =>
              rw [he] at h1
              by_cases h0 : a = 0
              · rw [decide_eq_true h0] at h1; simp at h1
              · rw [decide_eq_false h0] at h1
                exact cand_no2 (by omega) (by simpa using h1)
          go_wp2_with fail
          go_roundw
          case rel => exact ⟨k + 1, b + 1, Q, by rw [HBK.out]; omega, by omega, by go_num, hql, by rw [HSN.out [] HCN.out, List.append_nil]; exact HQ, HOW, HBW⟩
          case measure => simp [intOf]; omega
        | false =>
          have HA : Hid (eqD xs (b - a) a = true ∧ (a = 0 ∨ eqD xs (b - a) (a - 1) = false)) := by
            have h1 := HSK.out
            cases he : eqD xs (b - a) a with
            | false => rw [he] at h1; simp at h1
            | true =>
              rw [he] at h1
              refine ⟨rfl, ?_⟩
              by_cases h0 : a = 0
              · exact .inl h0
              · rw [decide_eq_false h0] at h1
                exact .inr (by simpa using h1)
          clear HSK
          go_upto_block 4 with (fail)
          go_cut [10] (fun nv wx => ∃ m : Nat, 1 ≤ m ∧ b + m ≤ xs.length ∧ nv = .int .i64 (m : Int) ∧ Hid ((∀ i, i < m → eqD xs (b - a) (a + i) = true) ∧ eqD xs (b - a) (a + m) = false) ∧ Hid (wx.ownsRow w.heap.size 29 3 u7 Q.length (Q.flatMap encRp)) ∧ Hid (Below w.heap.size w wx))
          case first =>
            go_wp2_with fail
            go_loopw [10] (fun nv wx => ∃ m : Nat, 1 ≤ m ∧ b + m ≤ xs.length ∧ nv = .int .i64 (m : Int) ∧ Hid (∀ i, i < m → eqD xs (b - a) (a + i) = true) ∧ Hid (wx.ownsRow w.heap.size 29 3 u7 Q.length (Q.flatMap encRp)) ∧ Hid (Below w.heap.size w wx)) (fun nv _ => xs.length - (intOf nv).toNat)
            case atStart => exact ⟨1, by omega, by omega, rfl, fun i hi => by rw [show i = 0 by omega, Nat.add_zero]; exact HA.out.1, HOW, HBW⟩
            case round =>
              clear HOW HBW
              obtain ⟨m, hm1, hm2, rfl, HM, HOW, HBW⟩ := hrel
              have k0 : IntKind.i64.wrap ((a : Int) + (m : Int)) = (a : Int) + (m : Int) := IntWalk.i64_in _ (by omega)
              have k1 : IntKind.i64.wrap ((b : Int) + (m : Int)) = (b : Int) + (m : Int) := IntWalk.i64_in _ (by omega)
              have k2 : (0 : Int) ≤ (a : Int) + (m : Int) := by omega
              have k3 : (0 : Int) ≤ (b : Int) + (m : Int) := by omega
              have k6 : ((a : Int) + (m : Int)).toNat = a + m := by omega
              have k7 : ((b : Int) + (m : Int)).toNat = b + m := by omega
              by_cases hbm : b + m < xs.length
              · have k4 : (a : Int) + (m : Int) < (xs.length : Int) := by omega
                have k5 : (b : Int) + (m : Int) < (xs.length : Int) := by omega
                have hg5 : decide ((b : Int) + (m : Int) < (xs.length : Int)) = true := by simpa using k5
                have c5 := HWC.out wr (a + m) HBW.out (by omega)
                have c6 := HWC.out wr (b + m) HBW.out hbm
                obtain ⟨q3, hq3⟩ : ∃ q, eqD xs (b - a) (a + m) = q := ⟨_, rfl⟩
                have hv5 : (xs[a + m] == xs[b + m]) = q3 := by
                  rw [← hq3, eqD_at (show a + m + (b - a) < xs.length by omega)]
                  simp only [show a + m + (b - a) = b + m by omega]
                have HE3 := Lib.hid hq3
                generalize xs[a + m] = z1 at *
                generalize xs[b + m] = z2 at *
                clear hq3
                cases q3 with
                | true =>
                  go_wp2_with fail
                  go_quiet (fail)
                  clear k0 k1 k6 k7
                  go_wp2_with fail
                  go_roundw
                  case rel => exact ⟨m + 1, by omega, by omega, by go_num, fun i hi => by
                      by_cases him : i = m
                      · rw [him]; exact HE3.out
                      · exact HM.out i (by omega), HOW, below_drewN HBW.out _⟩
                  case measure => simp [intOf]; omega
                | false =>
                  go_wp2_with fail
                  go_quiet (fail)
                  clear k0 k1 k6 k7
                  go_wp2_with fail
                  go_meet
                  case rel => exact ⟨m, hm1, hm2, rfl, ⟨HM.out, HE3.out⟩, HOW, below_drewN HBW.out _⟩
              · have hg5 : decide ((b : Int) + (m : Int) < (xs.length : Int)) = false := by simp; omega
                have HE3 : Hid (eqD xs (b - a) (a + m) = false) := eqD_out xs (by omega)
                go_wp2_with fail
                go_quiet (fail)
                clear k0 k1 k6 k7
                go_wp2_with fail
                go_meet
                case rel => exact ⟨m, hm1, hm2, rfl, ⟨HM.out, HE3.out⟩, HOW, below_drewN HBW.out _⟩
          case rest =>
            clear HOW HBW
            obtain ⟨m, hm1, hm2, rfl, HM, HOW, HBW⟩ := hcut
            by_cases hml : m < L
            · have HCN : Hid (cand xs L a b = []) := cand_short HM.out.1 HM.out.2 hml
              have hd6 : decide (m < L) = true := by simpa using hml
              go_wp2_with fail
              go_roundw
              case rel => exact ⟨k + 1, b + 1, Q, by rw [HBK.out]; omega, by omega, by go_num, hql, by rw [HSN.out [] HCN.out, List.append_nil]; exact HQ, HOW, HBW⟩
              case measure => simp [intOf]; omega
            have HCY : Hid (cand xs L a b = [⟨a, b, m⟩]) := cand_yes hm1 HA.out.2 HM.out.1 HM.out.2 (by omega)
            have hd6 : decide (m < L) = false := by simpa using hml
            obtain ⟨A2, c2, rfl⟩ := slice_of_own HOW.out
            go_upto_block 6 with (fail)
            go_cut [11] (fun tv wx => ∃ t : Nat, t ≤ Q.length ∧ tv = .int .i64 (t : Int) ∧ Hid ((∀ j (hj : j < Q.length), j < t → geR Q[j] ⟨a, b, m⟩ = true) ∧ ∀ h : t < Q.length, geR Q[t] ⟨a, b, m⟩ = false) ∧ wx = wc)
            case first =>
              go_wp2_with fail
              go_loop [11] (fun tv => ∃ t : Nat, t ≤ Q.length ∧ tv = .int .i64 (t : Int) ∧ Hid (∀ j (hj : j < Q.length), j < t → geR Q[j] ⟨a, b, m⟩ = true)) (fun tv => Q.length - (intOf tv).toNat)
              case atStart => exact ⟨0, by omega, rfl, fun j _ hj => by omega⟩
              case round =>
                obtain ⟨t, ht, rfl, HG⟩ := hrel
                by_cases htq : t < Q.length
                · have hd7 : decide (t < Q.length) = true := by simpa using htq
                  obtain ⟨g, hA2, c7⟩ : ∃ g, A2 = some ⟨g, 0, none⟩ ∧ wc.cell? ⟨g, t * 3 + 2, none⟩ = some (.int .i64 (Q[t].n : Int)) := by
                    rcases HOW.out.2 with ⟨h1, h2⟩ | ⟨g, cap, cur, h1, _⟩
                    · omega
                    · injection h1 with h1
                      refine ⟨g, h1, ?_⟩
                      have h3 := Rd.of_own HOW.out
                      rw [h1] at h3
                      obtain ⟨g2, o2, h4, _, h5⟩ := h3.at_ (by rw [flat_len encRp 3 (fun _ => rfl)]; omega)
                      injection h4 with h4
                      injection h4 with h6 h7
                      subst h6 h7
                      have h8 := h5 (t * 3 + 2) (.int .i64 (Q[t].n : Int)) (by rw [flat_get encRp 3 (fun _ => rfl) Q t 2 htq (by omega)]; rfl)
                      rwa [Nat.zero_add] at h8
                  subst hA2
                  have j5 : (t : Int) < (Q.length : Int) := by omega
                  obtain ⟨N, hN⟩ : ∃ N, Q[t].n = N := ⟨_, rfl⟩
                  have HGE : Hid (geR Q[t] ⟨a, b, m⟩ = decide (m ≤ N)) := by show _ = _; unfold geR; rw [hN]
                  rw [hN] at c7
                  clear hN
                  by_cases hge : m ≤ N
                  · have hge' : (m : Int) ≤ (N : Int) := by omega
                    go_wp2_with fail
                    go_round
                    case rel => exact ⟨t + 1, by omega, by go_num, fun j hj hjt => by
                        by_cases hjt2 : j = t
                        · subst hjt2; rw [HGE.out]; simpa using hge
                        · exact HG.out j hj (by omega)⟩
                    case measure => simp [intOf]; omega
                  · have hge' : ¬ (m : Int) ≤ (N : Int) := by omega
                    go_wp2_with fail
                    go_meet
                    case rel => exact ⟨t, ht, rfl, ⟨HG.out, fun _ => by rw [HGE.out]; simpa using hge⟩, rfl⟩
                · have hd7 : decide (t < Q.length) = false := by simpa using htq
                  go_wp2_with fail
                  go_meet
                  case rel => exact ⟨t, ht, rfl, ⟨HG.out, fun h => absurd h htq⟩, rfl⟩
            case rest =>
              obtain ⟨t, ht, rfl, HG, hwc⟩ := hcut
              have HOW2 : Hid (wc.ownsRow w.heap.size 29 3 (.slice A2 Q.length c2) Q.length (Q.flatMap encRp)) := by show World.ownsRow _ _ _ _ _ _ _; rw [hwc]; exact HOW.out
              have HBW2 : Hid (Below w.heap.size w wc) := by show Below _ _ _; rw [hwc]; exact HBW.out
              clear hwc HOW HBW
              have hgsz := HBW2.out.size
              have HINS := Lib.hid (insert_Rp w (wc.alloc (.cells #[.int .i64 (a : Int), .int .i64 (b : Int), .int .i64 (m : Int)] 29)) w.heap.size w.heap.size Q.length wc.heap.size (Q.flatMap encRp) [.int .i64 (a : Int), .int .i64 (b : Int), .int .i64 (m : Int)] t (.slice A2 Q.length c2) (HBW2.out.alloc hgsz _) (Nat.le_refl _) (by simp; omega) (HOW2.out.alloc _) (heap_alloc_new wc _) (fun e => by have := (HOW2.out.lt _ e).2; omega) rfl (by simp [Value.oneCell']) (fun u hu => by obtain ⟨x, _, hx⟩ := List.mem_flatMap.1 hu; simp [encRp] at hx; rcases hx with rfl | rfl | rfl <;> rfl) ht (by omega))
              go_wp2_with fail
              refine HINS.out.mono ?_
              rintro e w5 ⟨v5, rfl, hown5, hb5⟩
              have hQ2 : (Q.flatMap encRp).take (t * 3) ++ [.int .i64 (a : Int), .int .i64 (b : Int), .int .i64 (m : Int)] ++ (Q.flatMap encRp).drop (t * 3) = (insB geR (⟨a, b, m⟩ : Rep) Q).flatMap encRp := by
                obtain ⟨e1, e2⟩ := flat_take encRp 3 (fun _ => rfl) Q t
                obtain ⟨e3, e4⟩ := while_at (fun y => geR y ⟨a, b, m⟩) Q t HG.out.1 ht HG.out.2
                unfold insB
                rw [e1, e2, e3, e4, List.flatMap_append, List.flatMap_cons, List.append_assoc]; rfl
              rw [hQ2] at hown5
              have hlen5 := insB_length geR (⟨a, b, m⟩ : Rep) Q
              rw [← hlen5] at hown5
              have HQ5 : Hid (insB geR (⟨a, b, m⟩ : Rep) Q = insAll geR [] (rOut xs L a ++ rIn xs L a (k + 1))) := by
                show _ = _
                rw [HSN.out _ HCY.out, insAll_snoc, ← HQ.out]
              generalize insB geR (⟨a, b, m⟩ : Rep) Q = Q5 at hown5 hlen5 HQ5
              have HOWN5 := Lib.hid hown5
              have HB5 := Lib.hid hb5
              obtain ⟨A5, c5, rfl⟩ := slice_of_own hown5
              clear hown5 hb5 hQ2 HINS
              by_cases hbig : 1000 < Q5.length
              · have HRR : Hid (repF xs (L : Int) = ([], 2)) := by
                  show _ = _
                  have h1 := HPL.out
                  have h2 := congrArg List.length HQ5.out
                  rw [insAll_length] at h2
                  simp only [List.length_nil, Nat.zero_add] at h2
                  rw [HR.out, if_pos (by omega)]
                clear hlen5
                go_wp2_with fail
                go_ret2
                exact repPost_none HRR.out HB5.out
              · have hb6 : Q5.length ≤ 1000 := by omega
                clear hlen5
                go_wp2_with fail
                go_roundw
                case rel => exact ⟨k + 1, b + 1, Q5, by rw [HBK.out]; omega, by omega, by go_num, hb6, HQ5, HOWN5, HB5⟩
                case measure => simp [intOf]; omega
end Go.Proofs.Ytoiobhjbikfpmaa
