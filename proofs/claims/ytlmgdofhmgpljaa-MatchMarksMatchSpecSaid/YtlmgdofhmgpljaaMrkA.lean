/- The contract of match.Marks. -/
import Derived.Test.YtlmgdofhmgpljaaLevB
namespace Go.Proofs.Ytlmgdofhmgpljaa
open Go.RowKit Go.Dw
attribute [local go_sem ↓] Go.wp_at_zero Go.wp_at_succ

theorem or_all : ∀ i : Fin 8, ∀ m : Fin 256, m.val < 2 ^ i.val → bits .or .i64 (m.val : Int) ((2 ^ i.val : Nat) : Int) = ((m.val + 2 ^ i.val : Nat) : Int) := by decide +kernel
theorem or_bit {i m : Nat} (hi : i < 8) (hm : m < 2 ^ i) : bits .or .i64 (m : Int) ((2 ^ i : Nat) : Int) = ((m + 2 ^ i : Nat) : Int) := by
  have h8 : 2 ^ i ≤ 2 ^ 7 := Nat.pow_le_pow_right (by omega) (by omega)
  exact or_all ⟨i, hi⟩ ⟨m, by omega⟩ hm
theorem wrap_all : ∀ i : Fin 8, wrap64 ((2 : Int) ^ i.val) = ((2 ^ i.val : Nat) : Int) ∧ IntKind.i64.wrap ((2 : Int) ^ i.val) = ((2 ^ i.val : Nat) : Int) := by decide +kernel
theorem bit_wrap {i : Nat} (hi : i < 8) : wrap64 ((2 : Int) ^ i) = ((2 ^ i : Nat) : Int) ∧ IntKind.i64.wrap ((2 : Int) ^ i) = ((2 ^ i : Nat) : Int) := wrap_all ⟨i, hi⟩
theorem mrkF_bad {rate : Int} {T : List (List Int)} {part f : Int} (h : levF rate T part = ([], f)) (hf : f ≠ 0) : mrkF rate T part = ([], f) := by
  unfold mrkF; rw [h]; simp [hf]
theorem mrkF_ok {rate : Int} {T : List (List Int)} {part : Int} {l : List Int} (h : levF rate T part = (l, 0)) : mrkF rate T part = if 500 < l.length - 8 then ([], 2) else (mksN l (l.length - 8), 0) := by
  unfold mrkF; rw [h]; rfl
theorem ic_one (a : List Int) (x : Int) : ic (a ++ [x]) = ic a ++ [.int .i64 x] := by simp [ic]
set_option maxHeartbeats 2000000 in
theorem Marks_any (x : Snd) (part : Int) (w : World) (h : x.Ok w) :
    Calls Try.prog 7 #[x.v, .int .i64 part] w (IntsPost w (mrkF x.rate x.rows part)) := by
  have hb0 : Below w.heap.size w (w.alloc (.cells #[.int .i64 x.rate, x.p.v] 24)) := (Below.refl _ _).alloc (Nat.le_refl _) _
  have HCK := Lib.hid (checkPart_any x part _ (h.below hb0))
  have HB0 := Lib.hid hb0
  have HNE : Hid (x.n = (x.rows.getD 0 []).length) := rfl
  by_cases hz : prtF x.rate x.rows part = 0
  case neg =>
    have hzb : (prtF x.rate x.rows part != 0) = true := by simpa using hz
    have HR := Lib.hid (mrkF_bad (levF_bad hz) hz)
    clear hz h hb0
    simp only [Snd.v, Slc.v] at *
    go_enter Try.func7, Try.ntmps7
    go_wp2_with fail
    refine HCK.out.mono ?_
    rintro e w1 ⟨rfl, hb1⟩
    have HB1 := Lib.hid (HB0.out.trans (hb1.mono HB0.out.size))
    clear hb1
    go_wp2_with fail
    go_ret2
    exact intsPost_none HR.out HB1.out
  obtain ⟨hs, hp1, hp2, hr⟩ := levF_ok hz
  have hso := chkS_zero hs
  obtain ⟨P, rfl⟩ := Int.eq_ofNat_of_zero_le (show 0 ≤ part by omega)
  simp only [Int.toNat_natCast] at hr
  rw [← HNE.out] at hr
  have HR := Lib.hid (mrkF_ok hr)
  have HLV := Lib.hid (fun (W : World) (hW : Below (w.alloc (.cells #[.int .i64 x.rate, x.p.v] 24)).heap.size (w.alloc (.cells #[.int .i64 x.rate, x.p.v] 24)) W) => levels_any x P W ((h.below hb0).below hW) hso (by omega) (by omega))
  have hc0 : (w.alloc (.cells #[.int .i64 x.rate, x.p.v] 24)).cell? ⟨w.heap.size, 0, none⟩ = some (.int .i64 x.rate) := new_cell (cs := [_, _]) rfl rfl
  have hc1 : (w.alloc (.cells #[.int .i64 x.rate, x.p.v] 24)).cell? ⟨w.heap.size, 1, none⟩ = some x.p.v := new_cell (cs := [_, _]) rfl rfl
  have hws : w.heap.size < (w.alloc (.cells #[.int .i64 x.rate, x.p.v] 24)).heap.size := by simp
  rw [hz] at HCK
  have hll := lev_length x.rows P (x.n / P)
  have hm : x.n / P ≤ 100000 := Nat.le_trans (Nat.div_le_self _ _) hso.2.2.2.2.1
  obtain ⟨ii, hii, hzi0, hzi1, hzi2⟩ := info_parts info_int
  have HII := Lib.hid (And.intro hii (And.intro hzi0 (And.intro hzi1 hzi2)))
  clear hz hs hso hr h hb0 hii hzi0 hzi1 hzi2
  generalize lev x.rows P (x.n / P) = l at *
  rw [← hll] at hm HLV
  clear hll
  simp only [Snd.v, Slc.v] at *
  go_enter Try.func7, Try.ntmps7
  go_wp2_with fail
  refine HCK.out.mono ?_
  generalize w.alloc (.cells #[.int .i64 x.rate, .slice x.p.a x.p.xs.length x.p.c] 24) = w0 at *
  rintro e w1 ⟨rfl, hb1⟩
  have k0 : w1.cell? ⟨w.heap.size, 0, none⟩ = some (.int .i64 x.rate) := by rw [hb1.cell (by exact hws)]; exact hc0
  have k1 : w1.cell? ⟨w.heap.size, 1, none⟩ = some (.slice x.p.a x.p.xs.length x.p.c) := by rw [hb1.cell (by exact hws)]; exact hc1
  have HB1 := Lib.hid hb1
  clear hb1 hc0 hc1
  go_wp2_with fail
  refine (HLV.out _ HB1.out).mono ?_
  rintro e w2 ⟨A2, c2, rfl, hr2, hb2⟩
  have HR2 := Lib.hid hr2
  have HB2 := Lib.hid (HB0.out.trans ((HB1.out.trans (hb2.mono HB1.out.size)).mono HB0.out.size))
  clear hr2 hb2 k0 k1
  by_cases hbig : 508 < l.length
  · have HRR : Hid (mrkF x.rate x.rows (P : Int) = ([], 2)) := by show _ = _; rw [HR.out, if_pos (by omega)]
    have hd0 : decide ((500 : Int) < (l.length : Int) - 8) = true := by simp; omega
    go_wp2_with fail
    go_ret2
    exact intsPost_none HRR.out HB2.out
  have HRR : Hid (mrkF x.rate x.rows (P : Int) = (mksN l (l.length - 8), 0)) := by show _ = _; rw [HR.out, if_neg (by omega)]
  have hd0 : decide ((500 : Int) < (l.length : Int) - 8) = false := by simp; omega
  go_wp2_with fail
  go_loopw [8, 9] (fun ov kv wr => ∃ k : Nat, k ≤ l.length - 8 ∧ kv = .int .i64 (k : Int) ∧ Hid (wr.ownsRow w2.heap.size 3 1 ov k (ic (mksN l k))) ∧ Hid (Below w2.heap.size w2 wr)) (fun _ kv _ => l.length - 8 - (intOf kv).toNat)
  case atStart => exact ⟨0, by omega, rfl, ⟨rfl, .inl ⟨rfl, rfl⟩⟩, Below.refl _ _⟩
  case round =>
    obtain ⟨k, hk, rfl, HOWN, HB⟩ := hrel
    obtain ⟨A3, c3, rfl⟩ := slice_of_own HOWN.out
    by_cases hlt : k < l.length - 8
    case neg =>
      have hke : k = l.length - 8 := by omega
      have hd1 : decide ((k : Int) + 8 < (l.length : Int)) = false := by simp; omega
      have HRD := Lib.hid (Rd.of_own HOWN.out)
      have HKE := Lib.hid hke
      clear hke
      go_wp2_with fail
      go_ret2
      exact ⟨A3, c3, by rw [HRR.out, ← HKE.out, mksN_length]; rfl, by rw [HRR.out, ← HKE.out]; exact HRD.out, HB2.out.trans (HB.out.mono HB2.out.size)⟩
    have hd1 : decide ((k : Int) + 8 < (l.length : Int)) = true := by simp; omega
    obtain ⟨wo, hwo⟩ : ∃ wo, wo = wr := ⟨_, rfl⟩
    subst hwo
    go_wp2_with fail
    go_loopw [10, 32] (fun mv iv wr => ∃ i m : Nat, i ≤ 8 ∧ iv = .int .i64 (i : Int) ∧ mv = .int .i64 (m : Int) ∧ Hid (m = mkB l k i) ∧ ∃ q, wr = wo.drewN q) (fun _ iv _ => 8 - (intOf iv).toNat)
    case atStart => exact ⟨0, 0, by omega, rfl, rfl, rfl, 0, rfl⟩
    case round =>
      obtain ⟨i, m, hi, rfl, rfl, HM, q, rfl⟩ := hrel
      by_cases hi8 : i < 8
      case neg =>
        have hie : i = 8 := by omega
        have HM8 : Hid (m = mkB l k 8) := by show _ = _; rw [HM.out, hie]
        have hm8 := mkB_lt l k 8
        have hm9 : m < 256 := by have := HM8.out; omega
        subst hie
        have hd2 : decide ((8 : Int) < 8) = false := by decide
        clear hm8
        go_wp2_with (at_builtin; (refine wpList_append_own _ rfl _ _ 25 rfl w2.heap.size 3 ii _ 1 8 Try.underlying25 HII.out.1 HII.out.2.1 HII.out.2.2.1 HII.out.2.2.2 rfl (by decide) _ _ _ rfl (own_drewN HOWN.out q |>.alloc _) ⟨wo.heap.size, 0, none⟩ 1 1 [.int .i64 (m : Int)] (by rfl) (by rfl) (World.news_of_block (cs := #[.int .i64 (m : Int)]) (t := 3) (fr := (0, 0)) (by exact heap_alloc_new (wo.drewN q) _)) (by simp [Value.oneCell']) (by unfold maxLen; omega) (by omega) (by simp; have := HB.out.size; exact Nat.le_succ_of_le this) ?_); intro v1 w5 hown5 hgrow5 _)
        have hB5 : Hid (Below w2.heap.size w2 w5) := below_app' (below_drewN HB.out q) HB.out.size (own_drewN HOWN.out q) hgrow5
        have hO5 : Hid (w5.ownsRow w2.heap.size 3 1 v1 (k + 1) (ic (mksN l (k + 1)))) := by
          show World.ownsRow _ _ _ _ _ _ _
          rw [mksN_succ, ic_one, ← HM8.out]
          exact hown5
        clear hown5 hgrow5
        go_wp2_with fail
        go_roundw
        case rel => exact ⟨k + 1, by omega, by go_num, hO5, hB5⟩
        case measure => simp [intOf]; omega
      obtain ⟨b, off, rfl, hb, hc⟩ := HR2.out.at_ (by rw [ic_length]; omega)
      have c1 : wo.cell? ⟨b, off + (k + i), none⟩ = some (.int .i64 l[k + i]) := by rw [HB.out.cell (by exact hb)]; exact hc (k + i) _ (ic_at l (k + i) (by omega))
      have c2' : wo.cell? ⟨b, off + (k + i + 1), none⟩ = some (.int .i64 l[k + i + 1]) := by rw [HB.out.cell (by exact hb)]; exact hc (k + i + 1) _ (ic_at l (k + i + 1) (by omega))
      have hml := mkB_lt l k i
      have HMS : Hid (mkB l k (i + 1) = m + if l[k + i] < l[k + i + 1] then 2 ^ i else 0) := by
        show _ = _
        rw [mkB, ← HM.out, List.getD_eq_getElem?_getD, List.getD_eq_getElem?_getD, List.getElem?_eq_getElem (show k + i < l.length by omega), List.getElem?_eq_getElem (show k + i + 1 < l.length by omega), Option.getD_some, Option.getD_some]
      have hi8' : decide (i < 8) = true := by simpa using hi8
      have hw0 : IntKind.i64.wrap ((k : Int) + (i : Int)) = (k : Int) + (i : Int) := IntWalk.i64_in _ (by omega)
      have hw1 : IntKind.i64.wrap ((k : Int) + (i : Int) + 1) = (k : Int) + (i : Int) + 1 := IntWalk.i64_in _ (by omega)
      have j0 : (0 : Int) ≤ (k : Int) + (i : Int) := by omega
      have j1 : (k : Int) + (i : Int) < (l.length : Int) := by omega
      have j2 : (0 : Int) ≤ (k : Int) + (i : Int) + 1 := by omega
      have j3 : (k : Int) + (i : Int) + 1 < (l.length : Int) := by omega
      have j4 : ((k : Int) + (i : Int)).toNat = k + i := by omega
      have j5 : ((k : Int) + (i : Int) + 1).toNat = k + i + 1 := by omega
      rw [← HM.out] at hml
      have hp8 : 2 ^ i ≤ 128 := (show 2 ^ i ≤ 2 ^ 7 from Nat.pow_le_pow_right (by omega) (by omega))
      have hor := or_bit hi8 hml
      obtain ⟨B, hB⟩ : ∃ B, 2 ^ i = B := ⟨_, rfl⟩
      rw [hB] at hor hml hp8 HMS
      have hsh := (bit_wrap hi8).1
      have hsh' := (bit_wrap hi8).2
      rw [hB] at hsh hsh'
      clear hB hc
      generalize l[k + i] = y1 at *
      generalize l[k + i + 1] = y2 at *
      by_cases hy : y1 < y2
      · have hyb : decide (y1 < y2) = true := by simpa using hy
        rw [if_pos hy] at HMS
        go_wp2_with fail
        go_quiet (fail)
        clear hw0 hw1 j4 j5
        go_wp2_with fail
        go_roundw
        case rel => exact ⟨i + 1, m + B, by omega, by go_num, by first | rfl | (rw [hor]), HMS.out.symm, _, rfl⟩
        case measure => simp [intOf]; omega
      · have hyb : decide (y1 < y2) = false := by simpa using hy
        rw [if_neg hy] at HMS
        go_wp2_with fail
        go_quiet (fail)
        clear hw0 hw1 j4 j5
        go_wp2_with fail
        go_roundw
        case rel => exact ⟨i + 1, m, by omega, by go_num, rfl, HMS.out.symm, _, rfl⟩
        case measure => simp [intOf]; omega
end Go.Proofs.Ytlmgdofhmgpljaa
