/- The contract of clock.Sweep as match.Pieces calls it. -/
import Derived.Test.YtlmgdofhmgpljaaSwpB
import Derived.Outline
import Derived.Deep.DeepCutAuto
import Derived.Deep.CutBlock
namespace Go.Proofs.Ytlmgdofhmgpljaa
open Go.RowKit Go.Dw
attribute [local go_sem ↓] Go.wp_at_zero Go.wp_at_succ

theorem info_i64 : (Try.prog.info? 3).map (fun i => (i.zero, i.size, i.bytes)) = some (some (.int .i64 0), 1, 8) := by kernel_rfl
theorem keepP_any (p q : Bool) (w : World) : Calls Try.prog 19 #[.bool p, .bool q] w fun e w' => e = .returned (.bool (keepP p q)) ∧ w = w' := by
  cases p <;> cases q
  all_goals
    go_enter Try.func19, Try.ntmps19
    go_wp2
    go_ret
    exact ⟨rfl, rfl⟩
theorem ends_snoc (l : List Sp) (j : Nat) (h : j < l.length) : ends (l.take (j + 1)) = ends (l.take j) ++ [l[j].1, l[j].2] := by
  rw [List.take_succ_eq_append_getElem h]; unfold ends; rw [List.flatMap_append]; rfl
theorem ic_two (a : List Int) (x y : Int) : ic (a ++ [x, y]) = ic a ++ [.int .i64 x, .int .i64 y] := by simp [ic]
theorem ic_flat2 (ps : List Sp) (k : Nat) (h : k < ps.length) : (pc ps)[k * 2]? = some (.int .i64 ps[k].1) ∧ (pc ps)[k * 2 + 1]? = some (.int .i64 ps[k].2) := pc_at ps k h
theorem adv_skip {e : Int} {l : List Sp} {i : Nat} (h : i < l.length) (h2 : l[i].2 ≤ e) : adv e (l.drop i) = adv e (l.drop (i + 1)) := by
  rw [List.drop_eq_getElem_cons h]; unfold adv; rw [List.dropWhile_cons, if_pos (by simpa using h2)]
theorem adv_stay {e : Int} {l : List Sp} {i : Nat} (h : i < l.length) (h2 : ¬ l[i].2 ≤ e) : adv e (l.drop i) = l.drop i := by
  rw [List.drop_eq_getElem_cons h]; unfold adv; rw [List.dropWhile_cons, if_neg (by simpa using h2)]
theorem adv_end {e : Int} {l : List Sp} {i : Nat} (h : ¬ i < l.length) : adv e (l.drop i) = l.drop i := by
  rw [List.drop_eq_nil_of_le (by omega)]; rfl
theorem inn_at {e : Int} {l : List Sp} {i : Nat} (h : i < l.length) : inn e (l.drop i) = decide (l[i].1 ≤ e) := by
  rw [List.drop_eq_getElem_cons h]; rfl
theorem inn_end {e : Int} {l : List Sp} {i : Nat} (h : ¬ i < l.length) : inn e (l.drop i) = false := by
  rw [List.drop_eq_nil_of_le (by omega)]; rfl
/-- what Sweep leaves -/
def SwpPost (w : World) (l : List Sp) (e : Ending) (w' : World) : Prop :=
  ∃ A c, e = .returned (.slice A l.length c) ∧ Rd w' A (pc l) ∧ Below w.heap.size w w'
/-- the first k of two lists -/
def endsK (la lb : List Sp) : Nat → List Int
  | 0 => []
  | 1 => ends la
  | _ => ends la ++ ends lb
def nth2 (la lb : List Sp) : Nat → List Sp
  | 0 => la
  | _ => lb
theorem endsK_succ (la lb : List Sp) (k : Nat) (h : k < 2) : endsK la lb (k + 1) = endsK la lb k ++ ends (nth2 la lb k) := by
  rcases (show k = 0 ∨ k = 1 by omega) with rfl | rfl
  · simp [endsK, nth2]
  · simp [endsK, nth2]
set_option maxRecDepth 100000 in
set_option maxHeartbeats 8000000 in
theorem sweep_any (A1 : Option Addr) (c1 : Nat) (la : List Sp) (A2 : Option Addr) (c2 : Nat) (lb : List Sp) (w : World) (hl1 : la.length ≤ 200000) (hl2 : lb.length ≤ 200000) (hr1 : Rd w A1 (pc la)) (hr2 : Rd w A2 (pc lb)) :
    Calls Try.prog 18 #[.slice A1 la.length c1, .slice A2 lb.length c2, .func (.func 19) #[] #[]] w (SwpPost w (sweepF keepP la lb)) := by
  have HR1 := Lib.hid hr1
  have HR2 := Lib.hid hr2
  clear hr1 hr2
  obtain ⟨ii, hii, hzi0, hzi1, hzi2⟩ := info_parts info_i64
  have HII := Lib.hid (And.intro hii (And.intro hzi0 (And.intro hzi1 hzi2)))
  clear hii hzi0 hzi1 hzi2
  obtain ⟨n1, hn1⟩ : ∃ n, la.length = n := ⟨_, rfl⟩
  obtain ⟨n2, hn2⟩ : ∃ n, lb.length = n := ⟨_, rfl⟩
  rw [hn1] at hl1 ⊢
  rw [hn2] at hl2 ⊢
  have HN1 := Lib.hid hn1
  have HN2 := Lib.hid hn2
  clear hn1 hn2
  obtain ⟨res, hres⟩ : ∃ res, sweepF keepP la lb = res := ⟨_, rfl⟩
  rw [hres]
  have HRQ := Lib.hid hres
  clear hres
  go_enter Try.func18, Try.ntmps18
  go_wp2_with fail
  have hb0 : Below w.heap.size w (w.alloc (.cells #[.slice A1 n1 c1, .slice A2 n2 c2] 30)) := (Below.refl _ _).alloc (Nat.le_refl _) _
  have hc0 : (w.alloc (.cells #[.slice A1 n1 c1, .slice A2 n2 c2] 30)).cell? ⟨w.heap.size, 0, none⟩ = some (.slice A1 n1 c1) := new_cell (cs := [_, _]) rfl rfl
  have hc1 : (w.alloc (.cells #[.slice A1 n1 c1, .slice A2 n2 c2] 30)).cell? ⟨w.heap.size, 1, none⟩ = some (.slice A2 n2 c2) := new_cell (cs := [_, _]) rfl rfl
  have hws : w.heap.size < (w.alloc (.cells #[.slice A1 n1 c1, .slice A2 n2 c2] 30)).heap.size := by simp
  generalize w.alloc (.cells #[.slice A1 n1 c1, .slice A2 n2 c2] 30) = w0 at *
  have HB0 := Lib.hid hb0
  have HC : Hid (∀ k, k < 2 → ∃ A n c, w0.cell? ⟨w.heap.size, k, none⟩ = some (.slice A n c) ∧ n = (nth2 la lb k).length ∧ Rd w A (pc (nth2 la lb k)) ∧ n ≤ 200000) := fun k hk => by
    rcases (show k = 0 ∨ k = 1 by omega) with rfl | rfl
    · exact ⟨A1, n1, c1, hc0, HN1.out.symm, HR1.out, hl1⟩
    · exact ⟨A2, n2, c2, hc1, HN2.out.symm, HR2.out, hl2⟩
  have HLE : Hid (∀ k, k ≤ 2 → (endsK la lb k).length ≤ 400000 * k) := fun k hk => by
    rcases (show k = 0 ∨ k = 1 ∨ k = 2 by omega) with rfl | rfl | rfl
    · simp [endsK]
    · show (ends la).length ≤ _
      rw [ends_length, HN1.out]; omega
    · show (ends la ++ ends lb).length ≤ _
      rw [List.length_append, ends_length, ends_length, HN1.out, HN2.out]; omega
  clear hc0 hc1 hb0
  go_loopw [7, 22] (fun ev kv wr => ∃ k m : Nat, k ≤ 2 ∧ kv = .int .i64 (k : Int) ∧ Hid (m = (endsK la lb k).length) ∧ Hid (wr.ownsRow w0.heap.size 3 1 ev m (ic (endsK la lb k))) ∧ Hid (Below w0.heap.size w0 wr)) (fun _ kv _ => 2 - (intOf kv).toNat)
  case atStart => exact ⟨0, 0, by omega, rfl, rfl, ⟨rfl, .inl ⟨rfl, rfl⟩⟩, Below.refl _ _⟩
  case round =>
    obtain ⟨k, m, hk, rfl, HM, HOWN, HB⟩ := hrel
    by_cases hlt : k < 2
    case neg =>
      have hke : k = 2 := by omega
      subst hke
      have hd1 : decide ((2 : Int) < 2) = false := by decide
      obtain ⟨A3, c3, rfl⟩ := slice_of_own HOWN.out
      have HE : Hid (endsK la lb 2 = ends la ++ ends lb) := rfl
      have hml : m ≤ 800000 := by have h1 := HLE.out 2 hk; have h2 := HM.out; omega
      have HSO := Lib.hid (sort_own w0.heap.size (.slice A3 m c3) (ends la ++ ends lb) wr HB.out.size (by have h2 := HM.out; rw [HE.out] at h2; omega) (by have h1 := HOWN.out; have h2 := HM.out; rw [HE.out] at h1 h2; rw [← h2]; exact h1))
      have HLS : Hid (((ends la ++ ends lb).mergeSort fun x y => decide (x ≤ y)).length = m) := by show _ = _; rw [List.length_mergeSort]; exact HM.out.symm
      go_wp2_with fail
      refine HSO.out.mono ?_
      rintro e w1 ⟨rfl, hown1, hb1⟩
      have HB1 := Lib.hid (HB.out.trans (hb1.mono (Nat.le_refl _)))
      have HCO := Lib.hid (compact_own w0.heap.size (.slice A3 m c3) ((ends la ++ ends lb).mergeSort fun x y => decide (x ≤ y)) w1 HB1.out.size (by rw [HLS.out]; omega) (by rw [List.length_mergeSort]; exact hown1))
      clear hown1 hb1 HSO
      go_wp2_with fail
      refine HCO.out.mono ?_
      rintro e w2 ⟨A4, c4, rfl, hrd4, hb2⟩
      have HB2 := Lib.hid (HB0.out.trans ((HB1.out.trans hb2).mono HB0.out.size))
      have HEE : Hid (Lib.compact ((ends la ++ ends lb).mergeSort fun x y => decide (x ≤ y)) = edgesOf la lb) := rfl
      have hEL : (Lib.compact ((ends la ++ ends lb).mergeSort fun x y => decide (x ≤ y))).length ≤ 800000 := by
        have h1 : ∀ zs : List Int, (Lib.compact zs).length ≤ zs.length := fun zs => by
          unfold Lib.compact Lib.compactUpTo
          rw [List.length_map]
          exact Nat.le_trans (List.length_filter_le _ _) (by simp)
        have h2 := h1 ((ends la ++ ends lb).mergeSort fun x y => decide (x ≤ y))
        rw [HLS.out] at h2
        omega
      have HRS : Hid (res = sweepL keepP (Lib.compact ((ends la ++ ends lb).mergeSort fun x y => decide (x ≤ y))) la lb []) := HRQ.out.symm
      generalize Lib.compact ((ends la ++ ends lb).mergeSort fun x y => decide (x ≤ y)) = E at *
      have HRE := Lib.hid hrd4
      have HR1' := Lib.hid (HR1.out.below HB2.out)
      have HR2' := Lib.hid (HR2.out.below HB2.out)
      clear hrd4 hb2 HCO HOWN HB HB1 HC HLE HLS HM HE HEE hd1
      go_wp2_with fail
      go_loopw [12, 13, 14, 15] (fun ov iv jv kv wr => ∃ (k i j : Nat) (out : List Sp), k ≤ E.length ∧ i ≤ n1 ∧ j ≤ n2 ∧ kv = .int .i64 (k : Int) ∧ iv = .int .i64 (i : Int) ∧ jv = .int .i64 (j : Int) ∧ Hid (res = sweepL keepP (E.drop k) (la.drop i) (lb.drop j) out) ∧ out.length ≤ k ∧ Hid (wr.ownsRow w2.heap.size 35 2 ov out.length (pc out)) ∧ Hid (Below w2.heap.size w2 wr)) (fun _ _ _ kv _ => E.length - (intOf kv).toNat)
      case atStart => exact ⟨0, 0, 0, [], by omega, by omega, by omega, rfl, rfl, rfl, HRS, by simp, ⟨rfl, .inl ⟨rfl, rfl⟩⟩, Below.refl _ _⟩
      case round =>
        obtain ⟨k, i, j, out, hk, hi, hj, rfl, rfl, rfl, HRES, hout, HOWN, HB⟩ := hrel
        obtain ⟨A5, c5, rfl⟩ := slice_of_own HOWN.out
        by_cases hlt : k + 1 < E.length
        case neg =>
          have hd1 : decide ((k : Int) + 1 < (E.length : Int)) = false := by simp; omega
          have HR : Hid (res = out) := by have := HRES.out; rw [sweepL_end hlt] at this; exact this
          have HRD := Lib.hid (Rd.of_own HOWN.out)
          have HBB := Lib.hid (HB2.out.trans (HB.out.mono HB2.out.size))
          go_wp2_with fail
          go_ret
          exact ⟨A5, c5, by rw [HR.out]; rfl, by rw [HR.out]; exact HRD.out, HBB.out⟩
        have hd1 : decide ((k : Int) + 1 < (E.length : Int)) = true := by simp; omega
        obtain ⟨b, off, rfl, hb, hc⟩ := HRE.out.at_ (by rw [ic_length]; omega)
        have cx : wr.cell? ⟨b, off + k, none⟩ = some (.int .i64 E[k]) := by rw [HB.out.cell (by exact hb)]; exact hc k _ (ic_at E k (by omega))
        have cy : wr.cell? ⟨b, off + (k + 1), none⟩ = some (.int .i64 E[k + 1]) := by rw [HB.out.cell (by exact hb)]; exact hc (k + 1) _ (ic_at E (k + 1) hlt)
        have HRT : Hid (res = sweepL keepP (E.drop (k + 1)) (adv E[k] (la.drop i)) (adv E[k] (lb.drop j)) (if keepP (inn E[k] (adv E[k] (la.drop i))) (inn E[k] (adv E[k] (lb.drop j))) then appS out (E[k], E[k + 1]) else out)) := by
          show _ = _
          have h1 := HRES.out
          rw [sweepL_step hlt] at h1
          exact h1
        generalize E[k] = e1 at *
        generalize E[k + 1] = e2 at *
        have hw1 : IntKind.i64.wrap ((k : Int) + 1) = (k : Int) + 1 := IntWalk.i64_in _ (by omega)
        have j0 : (0 : Int) ≤ (k : Int) := by omega
        have j1 : (k : Int) < (E.length : Int) := by omega
        have j2 : (0 : Int) ≤ (k : Int) + 1 := by omega
        have j3 : (k : Int) + 1 < (E.length : Int) := by omega
        have j4 : ((k : Int) + 1).toNat = k + 1 := by omega
        clear hc
        go_wp2_with fail
        go_quiet (fail)
        clear hw1 j4
        go_upto_block 6 with (fail)
        go_cut [13] (fun v wx => ∃ i2 : Nat, v = .int .i64 (i2 : Int) ∧ i2 ≤ n1 ∧ Hid (adv e1 (la.drop i) = la.drop i2) ∧ ∃ q, wx = wr.drewN q)
        case first =>
          go_wp2_with fail
          go_loop [13] (fun iv => ∃ i2 : Nat, i2 ≤ n1 ∧ iv = .int .i64 (i2 : Int) ∧ Hid (adv e1 (la.drop i) = adv e1 (la.drop i2))) (fun iv => n1 - (intOf iv).toNat)
          case atStart => exact ⟨i, by omega, rfl, rfl⟩
          case round =>
            obtain ⟨i2, hi2, rfl, HAD⟩ := hrel
            by_cases hin : i2 < n1
            case neg =>
              have hd2 : decide (i2 < n1) = false := by simpa using hin
              have HAE : Hid (adv e1 (la.drop i) = la.drop i2) := by show _ = _; rw [HAD.out, adv_end (by rw [HN1.out]; exact hin)]
              go_wp2_with fail
              go_meet
              exact ⟨i2, rfl, hi2, HAE, _, rfl⟩
            have hd2 : decide (i2 < n1) = true := by simpa using hin
            have hil : i2 < la.length := by rw [HN1.out]; exact hin
            obtain ⟨b3, off3, rfl, hb3, hc3⟩ := HR1'.out.at_ (by rw [pc_length]; omega)
            have c3y : wr.cell? ⟨b3, off3 + i2 * 2 + 1, none⟩ = some (.int .i64 la[i2].2) := by rw [HB.out.cell (by exact hb3), Nat.add_assoc]; exact hc3 _ _ (pc_at la i2 hil).2
            by_cases hle : la[i2].2 ≤ e1
            · have HAS : Hid (adv e1 (la.drop i) = adv e1 (la.drop (i2 + 1))) := by show _ = _; rw [HAD.out, adv_skip hil hle]
              have hd3 : decide (la[i2].2 ≤ e1) = true := by simpa using hle
              generalize la[i2].2 = y at *
              clear hc3
              go_wp2_with fail
              go_round
              case rel => exact ⟨i2 + 1, by omega, by go_num, HAS⟩
              case measure => simp [intOf]; omega
            · have HAS : Hid (adv e1 (la.drop i) = la.drop i2) := by show _ = _; rw [HAD.out, adv_stay hil hle]
              have hd3 : decide (la[i2].2 ≤ e1) = false := by simpa using hle
              generalize la[i2].2 = y at *
              clear hc3
              go_wp2_with fail
              go_meet
              exact ⟨i2, rfl, hi2, HAS, _, rfl⟩
        case' rest => obtain ⟨i2, rfl, hi2, HAi, qi, rfl⟩ := hcut
        go_upto_block 8 with (fail)
        go_cut [14] (fun v wx => ∃ i2 : Nat, v = .int .i64 (i2 : Int) ∧ i2 ≤ n2 ∧ Hid (adv e1 (lb.drop j) = lb.drop i2) ∧ ∃ q, wx = wr.drewN q)
        case first =>
          go_wp2_with fail
          go_loop [14] (fun iv => ∃ i2 : Nat, i2 ≤ n2 ∧ iv = .int .i64 (i2 : Int) ∧ Hid (adv e1 (lb.drop j) = adv e1 (lb.drop i2))) (fun iv => n2 - (intOf iv).toNat)
          case atStart => exact ⟨j, by omega, rfl, rfl⟩
          case round =>
            obtain ⟨i2, hi2, rfl, HAD⟩ := hrel
            by_cases hin : i2 < n2
            case neg =>
              have hd2 : decide (i2 < n2) = false := by simpa using hin
              have HAE : Hid (adv e1 (lb.drop j) = lb.drop i2) := by show _ = _; rw [HAD.out, adv_end (by rw [HN2.out]; exact hin)]
              go_wp2_with fail
              go_meet
              exact ⟨i2, rfl, hi2, HAE, _, rfl⟩
            have hd2 : decide (i2 < n2) = true := by simpa using hin
            have hil : i2 < lb.length := by rw [HN2.out]; exact hin
            obtain ⟨b3, off3, rfl, hb3, hc3⟩ := HR2'.out.at_ (by rw [pc_length]; omega)
            have c3y : wr.cell? ⟨b3, off3 + i2 * 2 + 1, none⟩ = some (.int .i64 lb[i2].2) := by rw [HB.out.cell (by exact hb3), Nat.add_assoc]; exact hc3 _ _ (pc_at lb i2 hil).2
            by_cases hle : lb[i2].2 ≤ e1
            · have HAS : Hid (adv e1 (lb.drop j) = adv e1 (lb.drop (i2 + 1))) := by show _ = _; rw [HAD.out, adv_skip hil hle]
              have hd3 : decide (lb[i2].2 ≤ e1) = true := by simpa using hle
              generalize lb[i2].2 = y at *
              clear hc3
              go_wp2_with fail
              go_round
              case rel => exact ⟨i2 + 1, by omega, by go_num, HAS⟩
              case measure => simp [intOf]; omega
            · have HAS : Hid (adv e1 (lb.drop j) = lb.drop i2) := by show _ = _; rw [HAD.out, adv_stay hil hle]
              have hd3 : decide (lb[i2].2 ≤ e1) = false := by simpa using hle
              generalize lb[i2].2 = y at *
              clear hc3
              go_wp2_with fail
              go_meet
              exact ⟨i2, rfl, hi2, HAS, _, rfl⟩
        case' rest => obtain ⟨j2, rfl, hj2, HAj, qj, hqj⟩ := hcut
        have hbx := below_drewN HB.out qj
        rw [← hqj] at hbx
        have hox := own_drewN HOWN.out qj
        rw [← hqj] at hox
        have HBX := Lib.hid hbx
        have HOX := Lib.hid hox
        clear hbx hox hqj HOWN HB cx cy
        have HP1 : Hid (i2 < n1 → ∃ b3 off3 x, A1 = some ⟨b3, off3, none⟩ ∧ w2.cell? ⟨b3, off3 + i2 * 2, none⟩ = some (.int .i64 x) ∧ b3 < w2.heap.size ∧ inn e1 (la.drop i2) = decide (x ≤ e1)) := fun hin => by
          have hil : i2 < la.length := by rw [HN1.out]; exact hin
          obtain ⟨b3, off3, rfl, hb3, hc3⟩ := HR1'.out.at_ (by rw [pc_length]; omega)
          exact ⟨b3, off3, la[i2].1, rfl, hc3 _ _ (pc_at la i2 hil).1, hb3, inn_at hil⟩
        have HP2 : Hid (j2 < n2 → ∃ b3 off3 x, A2 = some ⟨b3, off3, none⟩ ∧ w2.cell? ⟨b3, off3 + j2 * 2, none⟩ = some (.int .i64 x) ∧ b3 < w2.heap.size ∧ inn e1 (lb.drop j2) = decide (x ≤ e1)) := fun hin => by
          have hil : j2 < lb.length := by rw [HN2.out]; exact hin
          obtain ⟨b3, off3, rfl, hb3, hc3⟩ := HR2'.out.at_ (by rw [pc_length]; omega)
          exact ⟨b3, off3, lb[j2].1, rfl, hc3 _ _ (pc_at lb j2 hil).1, hb3, inn_at hil⟩
        have HQ1 : Hid (¬ i2 < n1 → inn e1 (la.drop i2) = false) := fun hin => inn_end (by rw [HN1.out]; exact hin)
        have HQ2 : Hid (¬ j2 < n2 → inn e1 (lb.drop j2) = false) := fun hin => inn_end (by rw [HN2.out]; exact hin)
        rw [HAi.out, HAj.out] at HRT
        obtain ⟨p, hp⟩ : ∃ p, inn e1 (la.drop i2) = p := ⟨_, rfl⟩
        obtain ⟨q, hq⟩ : ∃ q, inn e1 (lb.drop j2) = q := ⟨_, rfl⟩
        rw [hp] at HRT HP1 HQ1
        rw [hq] at HRT HP2 HQ2
        clear hp hq
        have HKP := Lib.hid (fun (W : World) => keepP_any p q W)
        obtain ⟨kb, hkb⟩ : ∃ kb, keepP p q = kb := ⟨_, rfl⟩
        rw [hkb] at HRT
        simp only [hkb] at HKP
        clear hkb
        obtain ⟨wx, hwx⟩ : ∃ wx, wx = wc := ⟨_, rfl⟩
        subst hwx
        go_upto_region 23 with (fail)
        go_cut [118] (fun v wy => v = .bool kb ∧ ∃ n, wy = wx.drewN n)
        case first =>
          by_cases hin : i2 < n1
          all_goals by_cases hjn : j2 < n2
          · obtain ⟨b3, off3, x3, rfl, hc3, hb3, hx3⟩ := HP1.out hin
            have k3 : wx.cell? ⟨b3, off3 + i2 * 2, none⟩ = some (.int .i64 x3) := by rw [HBX.out.cell (by exact hb3)]; exact hc3
            have d3 : decide (i2 < n1) = true := by simpa using hin
            have d5 : decide (x3 ≤ e1) = p := hx3.symm
            have ji0 : (0 : Int) ≤ (i2 : Int) := by omega
            have ji1 : (i2 : Int) < (n1 : Int) := by omega
            clear hc3 hx3
            obtain ⟨b4, off4, x4, rfl, hc4, hb4, hx4⟩ := HP2.out hjn
            have k4 : wx.cell? ⟨b4, off4 + j2 * 2, none⟩ = some (.int .i64 x4) := by rw [HBX.out.cell (by exact hb4)]; exact hc4
            have d4 : decide (j2 < n2) = true := by simpa using hjn
            have d6 : decide (x4 ≤ e1) = q := hx4.symm
            have jj0 : (0 : Int) ≤ (j2 : Int) := by omega
            have jj1 : (j2 : Int) < (n2 : Int) := by omega
            clear hc4 hx4
            go_quiet ((go_at_call 19; exact Calls.quiet_of_same ((HKP.out _).mono fun _ _ h => ⟨h.1, h.2.symm⟩)))
            go_wp2_with fail
            go_meet
            exact ⟨rfl, _, rfl⟩
          · obtain ⟨b3, off3, x3, rfl, hc3, hb3, hx3⟩ := HP1.out hin
            have k3 : wx.cell? ⟨b3, off3 + i2 * 2, none⟩ = some (.int .i64 x3) := by rw [HBX.out.cell (by exact hb3)]; exact hc3
            have d3 : decide (i2 < n1) = true := by simpa using hin
            have d5 : decide (x3 ≤ e1) = p := hx3.symm
            have ji0 : (0 : Int) ≤ (i2 : Int) := by omega
            have ji1 : (i2 : Int) < (n1 : Int) := by omega
            clear hc3 hx3
            have d4 : decide (j2 < n2) = false := by simpa using hjn
            have hq0 : q = false := HQ2.out hjn
            subst hq0
            go_quiet ((go_at_call 19; exact Calls.quiet_of_same ((HKP.out _).mono fun _ _ h => ⟨h.1, h.2.symm⟩)))
            go_wp2_with fail
            go_meet
            exact ⟨rfl, _, rfl⟩
          · have d3 : decide (i2 < n1) = false := by simpa using hin
            have hp0 : p = false := HQ1.out hin
            subst hp0
            obtain ⟨b4, off4, x4, rfl, hc4, hb4, hx4⟩ := HP2.out hjn
            have k4 : wx.cell? ⟨b4, off4 + j2 * 2, none⟩ = some (.int .i64 x4) := by rw [HBX.out.cell (by exact hb4)]; exact hc4
            have d4 : decide (j2 < n2) = true := by simpa using hjn
            have d6 : decide (x4 ≤ e1) = q := hx4.symm
            have jj0 : (0 : Int) ≤ (j2 : Int) := by omega
            have jj1 : (j2 : Int) < (n2 : Int) := by omega
            clear hc4 hx4
            go_quiet ((go_at_call 19; exact Calls.quiet_of_same ((HKP.out _).mono fun _ _ h => ⟨h.1, h.2.symm⟩)))
            go_wp2_with fail
            go_meet
            exact ⟨rfl, _, rfl⟩
          · have d3 : decide (i2 < n1) = false := by simpa using hin
            have hp0 : p = false := HQ1.out hin
            subst hp0
            have d4 : decide (j2 < n2) = false := by simpa using hjn
            have hq0 : q = false := HQ2.out hjn
            subst hq0
            go_quiet ((go_at_call 19; exact Calls.quiet_of_same ((HKP.out _).mono fun _ _ h => ⟨h.1, h.2.symm⟩)))
            go_wp2_with fail
            go_meet
            exact ⟨rfl, _, rfl⟩
        case rest =>
          obtain ⟨rfl, qk, hqk⟩ := hcut
          have hbx := below_drewN HBX.out qk
          rw [← hqk] at hbx
          have hox := own_drewN HOX.out qk
          rw [← hqk] at hox
          have HBY := Lib.hid hbx
          have HOY := Lib.hid hox
          clear hbx hox hqk HOX HBX HP1 HP2 HQ1 HQ2
          obtain ⟨wy, hwy⟩ : ∃ wy, wy = wc := ⟨_, rfl⟩
          subst hwy
          cases kb
          · have HRT2 : Hid (res = sweepL keepP (E.drop (k + 1)) (la.drop i2) (lb.drop j2) out) := HRT.out
            go_wp2_with fail
            go_roundw
            case rel => exact ⟨k + 1, i2, j2, out, by omega, hi2, hj2, by go_num, rfl, rfl, HRT2, by omega, HOY, HBY⟩
            case measure => simp [intOf]; omega
          · have HRT2 : Hid (res = sweepL keepP (E.drop (k + 1)) (la.drop i2) (lb.drop j2) (appS out (e1, e2))) := HRT.out
            have hal := appS_length out (e1, e2)
            have HAP := Lib.hid (append_any w2.heap.size (.slice A5 out.length c5) out (e1, e2) wy HBY.out.size (by omega) HOY.out)
            go_wp2_with fail
            refine HAP.out.mono ?_
            rintro e w6 ⟨v6, rfl, ho6, hb6⟩
            have HO6 := Lib.hid ho6
            have HB6 := Lib.hid (HBY.out.trans hb6)
            clear ho6 hb6
            go_wp2_with fail
            go_roundw
            case rel => exact ⟨k + 1, i2, j2, appS out (e1, e2), by omega, hi2, hj2, by go_num, rfl, rfl, HRT2, by omega, HO6, HB6⟩
            case measure => simp [intOf]; omega
    have hd1 : decide ((k : Int) < 2) = true := by simp; omega
    obtain ⟨A, n, c, hcell0, hn, hrd, hnn⟩ := HC.out k hlt
    have hcell : wr.cell? ⟨w.heap.size, k, none⟩ = some (.slice A n c) := by rw [HB.out.cell (by exact hws)]; exact hcell0
    have HNN := Lib.hid hn
    have HRD := Lib.hid hrd
    have HKS := Lib.hid (endsK_succ la lb k hlt)
    have hml : m ≤ 800000 := by have h1 := HLE.out k hk; have h2 := HM.out; omega
    have hmk : Hid (m ≤ 400000 * k) := by have h1 := HLE.out k hk; have h2 := HM.out; show _ ≤ _; omega
    generalize nth2 la lb k = l at *
    clear hn hrd hcell0
    have jk0 : (0 : Int) ≤ (k : Int) := by omega
    have jk1 : (k : Int) < 2 := by omega
    obtain ⟨wo, hwo⟩ : ∃ wo, wo = wr := ⟨_, rfl⟩
    subst hwo
    go_wp2_with fail
    go_loopw [7, 28] (fun ev jv wr => ∃ j : Nat, j ≤ n ∧ jv = .int .i64 (j : Int) ∧ Hid (wr.ownsRow w0.heap.size 3 1 ev (m + 2 * j) (ic (endsK la lb k ++ ends (l.take j)))) ∧ Hid (Below w0.heap.size w0 wr)) (fun _ jv _ => n - (intOf jv).toNat)
    case atStart => exact ⟨0, by omega, rfl, by show World.ownsRow _ _ _ _ _ _ _; simpa [ends] using HOWN.out, HB⟩
    case round =>
      clear HOWN HB hcell
      obtain ⟨j, hj, rfl, HOWN, HB⟩ := hrel
      obtain ⟨A3, c3, rfl⟩ := slice_of_own HOWN.out
      by_cases hjn : j < n
      case neg =>
        have hje : j = n := by omega
        have HO2 : Hid (wr.ownsRow w0.heap.size 3 1 (.slice A3 (m + 2 * j) c3) (m + 2 * j) (ic (endsK la lb (k + 1)))) := by
          show World.ownsRow _ _ _ _ _ _ _
          rw [HKS.out]
          have := HOWN.out
          rw [List.take_of_length_le (by rw [hje, HNN.out]; omega)] at this
          exact this
        have HM2 : Hid (m + 2 * j = (endsK la lb (k + 1)).length) := by
          show _ = _
          rw [HKS.out, List.length_append, ends_length, ← HM.out, hje, HNN.out]
        have hd2 : decide (j < n) = false := by simpa using hjn
        clear hje
        go_wp2_with fail
        go_roundw
        case rel => exact ⟨k + 1, m + 2 * j, by omega, by go_num, HM2, HO2, HB⟩
        case measure => simp [intOf]; omega
      have hd2 : decide (j < n) = true := by simpa using hjn
      have hjl : j < l.length := by have := HNN.out; omega
      obtain ⟨b, off, rfl, hb, hc⟩ := HRD.out.at_ (by rw [pc_length]; omega)
      obtain ⟨p1, p2⟩ := pc_at l j hjl
      have hbw : b < w0.heap.size := Nat.lt_of_lt_of_le hb HB0.out.size
      have hcx : wr.cell? ⟨b, off + j * 2, none⟩ = some (.int .i64 l[j].1) := by rw [HB.out.cell (by exact hbw), HB0.out.cell (by exact hb)]; exact hc _ _ p1
      have hcy : wr.cell? ⟨b, off + j * 2 + 1, none⟩ = some (.int .i64 l[j].2) := by rw [HB.out.cell (by exact hbw), HB0.out.cell (by exact hb), Nat.add_assoc]; exact hc _ _ p2
      have HES := Lib.hid (ends_snoc l j hjl)
      clear hc p1 p2
      generalize l[j].1 = x at *
      generalize l[j].2 = y at *
      have hsz0 : w0.heap.size ≤ wr.heap.size := HB.out.size
      go_wp2_with (at_builtin; refine wpList_append_own _ rfl _ _ 25 rfl w0.heap.size 3 ii _ 1 8 Try.underlying25 HII.out.1 HII.out.2.1 HII.out.2.2.1 HII.out.2.2.2 rfl (by decide) _ _ _ rfl ((HOWN.out.alloc _).alloc _) ⟨wr.heap.size + 1, 0, none⟩ 2 2 [.int .i64 x, .int .i64 y] (by rfl) (by rfl) (World.news_of_block (cs := #[.int .i64 x, .int .i64 y]) (t := 3) (fr := (0, 0)) (by simpa using heap_alloc_new (wr.alloc _) _)) (by simp [Value.oneCell']) (by unfold maxLen; omega) (by omega) (by simp; omega) ?_; intro v1 w5 hown5 hgrow5 _)
      have hB5 : Hid (Below w0.heap.size w0 w5) := ((HB.out.alloc hsz0 _).alloc (by simp; omega) _).grown hgrow5 (by simp; omega) (fun g hg => (HOWN.out.lt g hg).1)
      have hO5 : Hid (w5.ownsRow w0.heap.size 3 1 v1 (m + 2 * (j + 1)) (ic (endsK la lb k ++ ends (l.take (j + 1))))) := by
        show World.ownsRow _ _ _ _ _ _ _
        rw [HES.out, ← List.append_assoc, ic_two]
        exact hown5
      clear hown5 hgrow5
      go_wp2_with fail
      go_roundw
      case rel => exact ⟨j + 1, by omega, by go_num, hO5, hB5⟩
      case measure => simp [intOf]; omega
end Go.Proofs.Ytlmgdofhmgpljaa
