/- The contract of slices.BinarySearchFunc at points. -/
import Derived.Test.YtmknpeoflafaoabGreatDoorPlnA
import Derived.Test.YtmknpeoflafaoabGreatDoorEdtZ
import Derived.Test.YtmknpeoflafaoabGreatDoorCmpZ
import Derived.Test.YtmknpeoflafaoabGreatDoorNumB
import Derived.Deep.DeepCutAuto
import Derived.Deep.CutBlock
namespace Go.Proofs.YtmknpeoflafaoabGreatDoor
open Go.RowKit Go.Dw

set_option maxHeartbeats 1000000 in
theorem bspCmp_any (a : Int) (n d : ByteArray) (i : Int) (w : World) :
    Calls Tryz.prog 32 #[.agg #[.int .i64 a, .string n, .string d], .int .i64 i] w fun e w' => e = .returned (.int .i64 (cmpZ a i)) ∧ Gq w w' := by
  obtain ⟨w1, hw1⟩ : ∃ w1, w1 = w.alloc (.cells #[.int .i64 a, .string n, .string d] 78) := ⟨_, rfl⟩
  have HG : Hid (Gq w w1) := by rw [hw1]; exact (Gq.refl _).alloc _
  have HK : Hid (Blk w1 w.heap.size 78 [.int .i64 a, .string n, .string d]) := by rw [hw1]; exact Blk.new w _ _
  have a0 : w1.cell? ⟨w.heap.size, 0, none⟩ = some (.int .i64 a) := HK.out.cell 0
  have HC := Lib.hid (cmp_any a i w1)
  rw [cmpZ_eq] at HC
  have HW := Lib.hid hw1
  clear hw1
  go_enter Tryz.func32, Tryz.ntmps32
  go_upto_region 1 with (fail)
  rw [← HW.out]
  go_wp2_with fail
  refine HC.out.mono ?_
  rintro e w2 ⟨rfl, rfl⟩
  go_wp2_with fail
  go_ret
  exact ⟨rfl, HG.out⟩
theorem cmpZ_lt {a i : Int} (h : a < i) : cmpZ a i = -1 := by unfold cmpZ; rw [if_pos h]
theorem cmpZ_gt {a i : Int} (h : i < a) : cmpZ a i = 1 := by unfold cmpZ; rw [if_neg (by omega), if_pos h]
theorem cmpZ_same (a : Int) : cmpZ a a = 0 := by unfold cmpZ; rw [if_neg (by omega), if_neg (by omega)]
set_option maxRecDepth 100000 in
set_option maxHeartbeats 4000000 in
theorem bsp_any (A : Option Addr) (c : Nat) (e : List Pnt) (i : Int) (w : World) (h : Rd w A (e.flatMap Pnt.cs)) (hl : e.length ≤ 1000000) (hinc : IncP e) :
    Calls Tryz.prog 31 #[.slice A e.length c, .int .i64 i, .func (.func 32) #[] #[]] w fun en w' =>
      en = .returned (.tuple #[.int .i64 (lowP e i : Nat), .bool (decide (lowP e i < e.length ∧ (e.getD (lowP e i) dPnt).at_ = i))]) ∧ Gq w w' := by
  have HR := Lib.hid h
  have HI := Lib.hid hinc
  clear h hinc
  go_enter Tryz.func31, Tryz.ntmps31
  go_wp2_with fail
  go_loopw [9, 10] (fun lv hv wr => ∃ lo hi : Nat, lv = .int .i64 (lo : Int) ∧ hv = .int .i64 (hi : Int) ∧ lo ≤ hi ∧ hi ≤ e.length ∧ Hid (∀ j, j < lo → (e.getD j dPnt).at_ < i) ∧ Hid (hi < e.length → i ≤ (e.getD hi dPnt).at_) ∧ Hid (Gq w wr)) (fun lv hv _ => (intOf hv).toNat - (intOf lv).toNat)
  case atStart => exact ⟨0, e.length, rfl, rfl, Nat.zero_le _, Nat.le_refl _, fun j hj => by omega, fun hh => by omega, Gq.refl _⟩
  case round =>
    obtain ⟨lo, hi, rfl, rfl, hlh, hhl, HLO, HHI, HG⟩ := hrel
    by_cases hlt : lo < hi
    · have hd : decide (lo < hi) = true := by simpa using hlt
      obtain ⟨m, hm⟩ : ∃ m, m = (lo + hi) / 2 := ⟨_, rfl⟩
      have hm1 : lo ≤ m := by omega
      have hm2 : m < hi := by omega
      have hme : ((lo : Int) + (hi : Int)) / 2 = (m : Int) := by omega
      clear hm
      have hml : m < e.length := by omega
      have hx0 : (0 : Int) ≤ (m : Int) := by omega
      have hx1 : (m : Int) < (e.length : Int) := by omega
      obtain ⟨b, off, hA, hbb, hc⟩ := pnt_at (HR.out.below HG.out) (by omega)
      subst hA
      obtain ⟨p0, p1, p2⟩ := hc m hml
      have hgd : e.getD m dPnt = e[m] := by rw [List.getD_eq_getElem?_getD, List.getElem?_eq_getElem hml]; rfl
      have HLO2 : Hid (e[m].at_ < i → ∀ j, j < m + 1 → (e.getD j dPnt).at_ < i) := fun hh j hj => by
        have := inc_le HI.out (show j ≤ m by omega) hml
        rw [hgd] at this
        omega
      have HHI2 : Hid (i ≤ e[m].at_ → m < e.length → i ≤ (e.getD m dPnt).at_) := fun hh _ => by rw [hgd]; exact hh
      clear hc hgd
      obtain ⟨pt, hpt⟩ : ∃ pt, e[m] = pt := ⟨_, rfl⟩
      rw [hpt] at p0 p1 p2 HLO2 HHI2
      clear hpt
      obtain ⟨pa, pn, pd⟩ := pt
      simp only at p0 p1 p2
      have HB := Lib.hid (bspCmp_any pa pn pd i wr)
      by_cases hpi : pa < i
      · have HLO3 := Lib.hid (HLO2.out hpi)
        rw [cmpZ_lt hpi] at HB
        clear hpi
        go_wp2_with fail
        refine HB.out.mono ?_
        rintro en w2 ⟨rfl, hg2⟩
        have HG2 : Hid (Gq w w2) := HG.out.trans hg2
        clear hg2 p0 p1 p2
        go_wp2_with fail
        go_roundw
        case rel => exact ⟨m + 1, hi, by go_num, rfl, by omega, hhl, HLO3, HHI, HG2⟩
        case measure => simp [intOf]; omega
      · have HHI3 := Lib.hid (HHI2.out (by show i ≤ pa; omega))
        have hnl : decide (cmpZ pa i < 0) = false := by
          rcases Int.lt_or_eq_of_le (show i ≤ pa by omega) with g | g
          · rw [cmpZ_gt g]; rfl
          · rw [← g, cmpZ_same]; rfl
        have hnl2 : ¬ cmpZ pa i < 0 := of_decide_eq_false hnl
        clear hpi
        generalize cmpZ pa i = r at *
        go_wp2_with fail
        refine HB.out.mono ?_
        rintro en w2 ⟨rfl, hg2⟩
        have HG2 : Hid (Gq w w2) := HG.out.trans hg2
        clear hg2 p0 p1 p2
        go_wp2_with fail
        go_roundw
        case rel => exact ⟨lo, m, rfl, rfl, hm1, by omega, HLO, HHI3, HG2⟩
        case measure => simp [intOf]; omega
    · have hd : decide (lo < hi) = false := by simpa using hlt
      obtain rfl : lo = hi := by omega
      have HLP : Hid (lowP e i = lo) := lowP_of hhl HLO.out HHI.out
      by_cases hle : lo < e.length
      · have hd2 : decide (lo < e.length) = true := by simpa using hle
        have hx0 : (0 : Int) ≤ (lo : Int) := by omega
        have hx1 : (lo : Int) < (e.length : Int) := by omega
        obtain ⟨b, off, hA, hbb, hc⟩ := pnt_at (HR.out.below HG.out) (by omega)
        subst hA
        obtain ⟨p0, p1, p2⟩ := hc lo hle
        have HGE := Lib.hid (HHI.out hle)
        have hgd : e.getD lo dPnt = e[lo] := by rw [List.getD_eq_getElem?_getD, List.getElem?_eq_getElem hle]; rfl
        rw [hgd] at HGE
        have HGD := Lib.hid hgd
        clear hc hgd
        obtain ⟨pt, hpt⟩ : ∃ pt, e[lo] = pt := ⟨_, rfl⟩
        rw [hpt] at p0 p1 p2 HGE HGD
        clear hpt
        obtain ⟨pa, pn, pd⟩ := pt
        simp only at p0 p1 p2
        have HB := Lib.hid (bspCmp_any pa pn pd i wr)
        by_cases he : pa = i
        · subst he
          rw [cmpZ_same] at HB
          go_wp2_with fail
          refine HB.out.mono ?_
          rintro en w2 ⟨rfl, hg2⟩
          have HG2 : Hid (Gq w w2) := HG.out.trans hg2
          clear hg2 p0 p1 p2
          go_wp2_with fail
          go_ret2
          exact ⟨by rw [HLP.out, HGD.out]; simp [hle], HG2.out⟩
        · have hgt : i < pa := by
            have h1 : i ≤ pa := HGE.out
            omega
          rw [cmpZ_gt hgt] at HB
          have HE : Hid (¬ pa = i) := he
          clear he hgt
          go_wp2_with fail
          refine HB.out.mono ?_
          rintro en w2 ⟨rfl, hg2⟩
          have HG2 : Hid (Gq w w2) := HG.out.trans hg2
          clear hg2 p0 p1 p2
          go_wp2_with fail
          go_ret2
          exact ⟨by rw [HLP.out, HGD.out]; have h2 := HE.out; simp [h2], HG2.out⟩
      · have hd2 : decide (lo < e.length) = false := by simpa using hle
        go_wp2_with fail
        go_ret2
        exact ⟨by rw [HLP.out]; simp [hle], HG.out⟩
end Go.Proofs.YtmknpeoflafaoabGreatDoor
