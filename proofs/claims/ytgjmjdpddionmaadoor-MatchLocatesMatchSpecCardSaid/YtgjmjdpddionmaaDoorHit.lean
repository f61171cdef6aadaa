/- The contract of match.hit. -/
import Derived.Test.YtgjmjdpddionmaaDoorHitP
import Derived.Test.YtgjmjdpddionmaaDoorTab
import Derived.StillTailTactics
import Derived.RegionTactic
namespace Go.Proofs.YtgjmjdpddionmaaDoor
open Go.RowKit Go.Dw
attribute [local go_sem ↓] Go.wp_at_zero Go.wp_at_succ

/-- what holds in each round -/
def HitI (w0 : World) (nm : ByteArray) (mv : Value) (best : Ht) (wr : World) : Prop :=
  Below w0.heap.size w0 wr ∧ Blk wr w0.heap.size 41 [.string nm, mv] ∧ Blk wr (w0.heap.size + 1) 31 ht0.cs ∧ Blk wr (w0.heap.size + 1 + 1) 31 best.cs
theorem HitI.below {w0 wr w' : World} {nm : ByteArray} {mv : Value} {best : Ht} (h : HitI w0 nm mv best wr) (hb : Below wr.heap.size wr w') : HitI w0 nm mv best w' := by
  obtain ⟨h1, h2, h3, h4⟩ := h
  exact ⟨h1.trans (hb.mono h1.size), (hb.block _ h2.lt).trans h2, (hb.block _ h3.lt).trans h3, (hb.block _ h4.lt).trans h4⟩

theorem HitI.store {w0 wr : World} {nm : ByteArray} {mv : Value} {best : Ht} (h : HitI w0 nm mv best wr) (hn : ByteArray) (ho hb hc : Int) :
    HitI w0 nm mv ⟨hn, ho, hb, hc⟩ ((((wr.setCell ⟨w0.heap.size + 1 + 1, 0, none⟩ (.string hn)).setCell ⟨w0.heap.size + 1 + 1, 1, none⟩ (.int .i64 ho)).setCell ⟨w0.heap.size + 1 + 1, 2, none⟩ (.int .i64 hb)).setCell ⟨w0.heap.size + 1 + 1, 3, none⟩ (.int .i64 hc)) := by
  obtain ⟨h1, h2, h3, h4⟩ := h
  have hs : Same (fun b => b < w0.heap.size + 1 + 1) wr ((((wr.setCell ⟨w0.heap.size + 1 + 1, 0, none⟩ (.string hn)).setCell ⟨w0.heap.size + 1 + 1, 1, none⟩ (.int .i64 ho)).setCell ⟨w0.heap.size + 1 + 1, 2, none⟩ (.int .i64 hb)).setCell ⟨w0.heap.size + 1 + 1, 3, none⟩ (.int .i64 hc)) :=
    (((Same.set _ _ _ (by simp)).trans (Same.set _ _ _ (by simp))).trans (Same.set _ _ _ (by simp))).trans (Same.set _ _ _ (by simp))
  refine ⟨(((h1.setCell (by simp; omega) _).setCell (by simp; omega) _).setCell (by simp; omega) _).setCell (by simp; omega) _, h2.same hs (by omega), h3.same hs (by omega), ?_⟩
  have := (((h4.set_ 0 (.string hn)).set_ 1 (.int .i64 ho)).set_ 2 (.int .i64 hb)).set_ 3 (.int .i64 hc)
  exact this

set_option maxRecDepth 100000 in
set_option maxHeartbeats 2000000 in
theorem hit_any (nm : ByteArray) (A B : Option Addr) (ca cb : Nat) (xs ys : List Int) (least percent : Int) (w : World) (ha : Rd w A (ic xs)) (hb : Rd w B (ic ys)) (hxs : xs.all okM = true) (hys : ys.all okM = true) (hxl : xs.length ≤ 500) (hyl : ys.length ≤ 500) (hp1 : 0 ≤ percent) (hp2 : percent ≤ 100) :
    Calls Tryd.prog 15 #[.agg #[.string nm, .slice A xs.length ca], .slice B ys.length cb, .int .i64 least, .int .i64 percent] w fun e w' => e = .returned (.tuple #[(hEnd nm xs ys least).2.v, .bool (hOk nm xs ys least percent)]) ∧ Below w.heap.size w w' := by
  have HA := Lib.hid ha
  have HBr := Lib.hid hb
  have HXS := Lib.hid hxs
  have HYS := Lib.hid hys
  have HI0 : Hid (HitI w nm (.slice A xs.length ca) ht0 (((w.alloc (.cells #[.string nm, .slice A xs.length ca] 41)).alloc (.cells #[.string ⟨#[]⟩, .int .i64 0, .int .i64 0, .int .i64 0] 31)).alloc (.cells #[.string ⟨#[]⟩, .int .i64 0, .int .i64 0, .int .i64 0] 31))) := by
    have b1 := Blk.new w 41 [.string nm, .slice A xs.length ca]
    have b2 := Blk.new (w.alloc (.cells #[.string nm, .slice A xs.length ca] 41)) 31 ht0.cs
    have b3 := Blk.new ((w.alloc (.cells #[.string nm, .slice A xs.length ca] 41)).alloc (.cells ht0.cs.toArray 31)) 31 ht0.cs
    have s2 : (w.alloc (.cells #[.string nm, .slice A xs.length ca] 41)).heap.size = w.heap.size + 1 := by simp
    have s3 : ((w.alloc (.cells #[.string nm, .slice A xs.length ca] 41)).alloc (.cells ht0.cs.toArray 31)).heap.size = w.heap.size + 1 + 1 := by simp
    rw [s2] at b2
    rw [s3] at b3
    refine ⟨(((Below.refl _ _).alloc (Nat.le_refl _) _).alloc (by simp) _).alloc (by simp; omega) _, ?_, ?_, b3⟩
    · exact (Below.heap_alloc _ _ _ (by simp; omega)).trans ((Below.heap_alloc _ _ _ (by simp)).trans b1)
    · exact (Below.heap_alloc _ _ _ (by simp)).trans b2
  clear ha hb hxs hys
  go_enter Tryd.func15, Tryd.ntmps15
  go_wp2_with fail
  generalize (((w.alloc (.cells #[.string nm, .slice A xs.length ca] 41)).alloc (.cells #[.string ⟨#[]⟩, .int .i64 0, .int .i64 0, .int .i64 0] 31)).alloc (.cells #[.string ⟨#[]⟩, .int .i64 0, .int .i64 0, .int .i64 0] 31)) = w1 at *
  go_loopw [11, 12] (fun fv dv wr => ∃ (j : Nat) (d : Int) (fb : Bool) (best : Ht), j ≤ xs.length + ys.length - 1 ∧ d = 1 - (ys.length : Int) + j ∧ dv = .int .i64 d ∧ fv = .bool fb ∧ Hid (hGo nm xs ys least j = (fb, best)) ∧ Hid (HitI w nm (.slice A xs.length ca) best wr)) (fun _ dv _ => ((xs.length : Int) - intOf dv).toNat)
  case atStart => exact ⟨0, _, false, ht0, Nat.zero_le _, by simp, rfl, rfl, rfl, HI0.out⟩
  case round =>
    obtain ⟨j, d, fb, best, hj, hd, rfl, rfl, HG, HI⟩ := hrel
    obtain ⟨bn, bo, bb, bc⟩ := best
    obtain ⟨hbel, hB0, hB1, hB2⟩ := HI.out
    have c00 := hB0.cell 0
    have c01 := hB0.cell 1
    simp only [List.getElem?_cons_zero, List.getElem?_cons_succ] at c00 c01
    have hz0 := hB0.lt
    have hz1 := hB1.lt
    have hz2 := hB2.lt
    have HBL := Lib.hid hbel
    have H1 := Lib.hid hB1
    have H2 := Lib.hid hB2
    have hsm := hGo_small nm xs ys least hyl j
    rw [HG.out] at hsm
    obtain ⟨⟨s1, s2, s3, s4⟩, s5, s6⟩ := hsm
    simp only at s1 s2 s3 s4 s5 s6
    clear hbel hB0 hB1 hB2
    by_cases hjl : j < xs.length + ys.length - 1
    case neg =>
      have hje : j = xs.length + ys.length - 1 := by omega
      have HE : Hid (hEnd nm xs ys least = (fb, ⟨bn, bo, bb, bc⟩)) := by show _ = _; unfold hEnd; rw [← hje]; exact HG.out
      have hlt : decide (d < (xs.length : Int)) = false := by simp; omega
      have f0 := H2.out.cell 0
      have f1 := H2.out.cell 1
      have f2 := H2.out.cell 2
      have f3 := H2.out.cell 3
      simp only [Ht.cs, List.getElem?_cons_zero, List.getElem?_cons_succ] at f0 f1 f2 f3
      have g0 := H1.out.cell 0
      have g1 := H1.out.cell 1
      have g2 := H1.out.cell 2
      have g3 := H1.out.cell 3
      simp only [ht0, Ht.cs, List.getElem?_cons_zero, List.getElem?_cons_succ] at g0 g1 g2 g3
      have z0 := H1.out.frozen 0
      have z1 := H1.out.frozen 1
      have z2 := H1.out.frozen 2
      have z3 := H1.out.frozen 3
      have hmp : 0 ≤ percent * bc ∧ percent * bc ≤ 400000 := ⟨Int.mul_nonneg hp1 s3, Int.le_trans (Int.mul_le_mul hp2 s6 s3 (by omega)) (by omega)⟩
      have hw1 : IntKind.i64.wrap (bc - bb) = bc - bb := IntWalk.i64_in _ (by omega)
      have hw2 : IntKind.i64.wrap (100 * (bc - bb)) = 100 * (bc - bb) := IntWalk.i64_in _ (by omega)
      have hw3 : IntKind.i64.wrap (percent * bc) = percent * bc := IntWalk.i64_in _ (by omega)
      have hne : ¬ w.heap.size + 1 = w.heap.size + 1 + 1 := by omega
      have HOK : Hid (hOk nm xs ys least percent = (fb && decide (percent * bc ≤ 100 * (bc - bb)))) := by show _ = _; unfold hOk; rw [HE.out]
      have HV : Hid ((hEnd nm xs ys least).2.v = .agg #[.string bn, .int .i64 bo, .int .i64 bb, .int .i64 bc]) := by show _ = _; rw [HE.out]; rfl
      clear hje hmp HA HBr HXS HYS
      go_wp2_with fail
      clear c00 c01
      cases fb with
      | false =>
        go_region
        all_goals
          go_wp2_with fail
          refine bodyPost_ret (v := .tuple #[.agg #[.string bn, .int .i64 bo, .int .i64 bb, .int .i64 bc], .bool false]) (by simp [results, Tryd.results15, go_sem, g0, g1, g2, g3]) rfl ⟨?_, ?_⟩
          · rw [HOK.out, HV.out]; rfl
          · exact ((((HBL.out.setCell (p := ⟨w.heap.size + 1, 0, none⟩) (by simp) _).setCell (p := ⟨w.heap.size + 1, 1, none⟩) (by simp) _).setCell (p := ⟨w.heap.size + 1, 2, none⟩) (by simp) _).setCell (p := ⟨w.heap.size + 1, 3, none⟩) (by simp) _).drew
      | true =>
        go_region
        all_goals
          go_wp2_with fail
          refine bodyPost_ret (v := .tuple #[.agg #[.string bn, .int .i64 bo, .int .i64 bb, .int .i64 bc], .bool (decide (percent * bc ≤ 100 * (bc - bb)))]) (by simp [results, Tryd.results15, go_sem, g0, g1, g2, g3]) rfl ⟨?_, ?_⟩
          · rw [HOK.out, HV.out]; rfl
          · exact ((((HBL.out.setCell (p := ⟨w.heap.size + 1, 0, none⟩) (by simp) _).setCell (p := ⟨w.heap.size + 1, 1, none⟩) (by simp) _).setCell (p := ⟨w.heap.size + 1, 2, none⟩) (by simp) _).setCell (p := ⟨w.heap.size + 1, 3, none⟩) (by simp) _).drew
    have hlt : decide (d < (xs.length : Int)) = true := by simp; omega
    have HAP := Lib.hid (apart_any A B ca cb xs ys d wr (HA.out.below HBL.out) (HBr.out.below HBL.out) HXS.out HYS.out hxl hyl (by omega) (by omega))
    have HHD : Hid (htD nm xs ys d = ⟨nm, d, apB xs ys d (apN xs.length ys.length d), 8 * (apN xs.length ys.length d : Nat)⟩) := rfl
    have HSK := Lib.hid (@hGo_skip nm xs ys least j)
    have HNW := Lib.hid (@hGo_new nm xs ys least j)
    have HBT := Lib.hid (@hGo_bet nm xs ys least j)
    have HOL := Lib.hid (@hGo_old nm xs ys least j)
    have hnp := apN_le xs.length ys.length d
    have hnb := apB_le xs ys d (apN xs.length ys.length d)
    rw [← hd, HG.out] at HNW HBT HOL
    rw [← hd, HG.out] at HSK
    rw [HHD.out] at HNW HBT HOL
    clear HHD
    generalize apB xs ys d (apN xs.length ys.length d) = nb at *
    generalize apN xs.length ys.length d = np at *
    have hJ : d + 1 = 1 - (ys.length : Int) + (j + 1 : Nat) := by omega
    have HJ := Lib.hid hJ
    have HD := Lib.hid hd
    have hd1 : -500 ≤ d := by omega
    have hd2 : d < (xs.length : Int) := by omega
    clear hd hJ
    go_wp2_with fail
    refine HAP.out.mono ?_
    rintro e w2 ⟨rfl, m, hw2⟩
    have hb2 : Below wr.heap.size wr w2 := by rw [hw2]; exact below_drewN (Below.refl _ _) m
    have HI2 := Lib.hid (HI.out.below hb2)
    have k00 : w2.cell? ⟨w.heap.size, 0, none⟩ = some (.string nm) := by rw [hb2.cell (by exact hz0)]; exact c00
    have k01 : w2.cell? ⟨w.heap.size, 1, none⟩ = some (.slice A xs.length ca) := by rw [hb2.cell (by exact hz0)]; exact c01
    have hzz := hb2.size
    have hzw2 : w.heap.size + 1 + 1 < w2.heap.size := by omega
    have hzw1 : w.heap.size + 1 < w2.heap.size := by omega
    have hzw0 : w.heap.size < w2.heap.size := by omega
    clear hb2 hw2 c00 c01 HI
    by_cases hls : (np : Int) < least
    · have HR := Lib.hid (HSK.out hls)
      have hls' : decide ((np : Int) < least) = true := by simpa using hls
      clear hls
      go_wp2_with fail
      go_roundw
      case rel => exact ⟨j + 1, d + 1, fb, ⟨bn, bo, bb, bc⟩, by omega, HJ.out, by go_num, rfl, HR.out, HI2.out⟩
      case measure => simp [intOf]; omega
    have hls' : decide ((np : Int) < least) = false := by simpa using hls
    have HLS := Lib.hid hls
    clear hls
    have hw8 : IntKind.i64.wrap (8 * (np : Int)) = 8 * (np : Int) := IntWalk.i64_in _ (by omega)
    obtain ⟨hbel, hB0, hB1, hB2⟩ := HI2.out
    have f0 := hB2.cell 0
    have f1 := hB2.cell 1
    have f2 := hB2.cell 2
    have f3 := hB2.cell 3
    simp only [Ht.cs, List.getElem?_cons_zero, List.getElem?_cons_succ] at f0 f1 f2 f3
    have z0 := hB2.frozen 0
    have z1 := hB2.frozen 1
    have z2 := hB2.frozen 2
    have z3 := hB2.frozen 3
    have HB3 : Hid (Below w2.heap.size w2 (w2.alloc (.cells #[.string nm, .int .i64 d, .int .i64 nb, .int .i64 (8 * (np : Int))] 31))) := (Below.refl _ _).alloc (Nat.le_refl _) _
    cases fb with
    | false =>
      have HR := Lib.hid (HNW.out (by first | exact HLS.out | exact Int.not_lt.1 HLS.out) rfl)
      clear hbel hB0 hB1 hB2
      go_wp2_with fail
      go_roundw
      case rel => exact ⟨j + 1, d + 1, true, ⟨nm, d, nb, 8 * (np : Int)⟩, by omega, HJ.out, by go_num, rfl, HR.out, (HI2.out.store nm d nb (8 * (np : Int))).below ((Below.refl _ _).alloc (Nat.le_refl _) _)⟩
      case measure => simp [intOf]; omega
    | true =>
      obtain ⟨bt, hbt⟩ : ∃ v, bet ⟨nm, d, nb, 8 * (np : Int)⟩ ⟨bn, bo, bb, bc⟩ = v := ⟨_, rfl⟩
      have HBE := Lib.hid (fun W => better_any ⟨nm, d, nb, 8 * (np : Int)⟩ ⟨bn, bo, bb, bc⟩ W ⟨by simp only; omega, by simp only; omega, by simp only; omega, by simp only; omega⟩ ⟨by simp only; omega, by simp only; omega, by simp only; omega, by simp only; omega⟩)
      rw [hbt] at HBE HBT HOL
      simp only [Ht.v] at HBE
      clear hbt hbel hB0 hB1 hB2
      go_wp2_with fail
      refine (HBE.out _).mono ?_
      rintro e w4 ⟨rfl, hb4⟩
      have hB4 := hb4.mono (show w2.heap.size ≤ _ by simp)
      have hI4 := HI2.out.below (HB3.out.trans hB4)
      have q0 : w4.cell? ⟨w2.heap.size, 0, none⟩ = some (.string nm) := by rw [hb4.cell (by simp)]; exact new_cell (cs := [_, _, _, _]) rfl rfl
      have q1 : w4.cell? ⟨w2.heap.size, 1, none⟩ = some (.int .i64 d) := by rw [hb4.cell (by simp)]; exact new_cell (cs := [_, _, _, _]) rfl rfl
      have q2 : w4.cell? ⟨w2.heap.size, 2, none⟩ = some (.int .i64 nb) := by rw [hb4.cell (by simp)]; exact new_cell (cs := [_, _, _, _]) rfl rfl
      have q3 : w4.cell? ⟨w2.heap.size, 3, none⟩ = some (.int .i64 (8 * (np : Int))) := by rw [hb4.cell (by simp)]; exact new_cell (cs := [_, _, _, _]) rfl rfl
      obtain ⟨_, hB0, hB1, hB2⟩ := hI4
      clear f0 f1 f2 f3 z0 z1 z2 z3
      have f0 := hB2.cell 0
      have f1 := hB2.cell 1
      have f2 := hB2.cell 2
      have f3 := hB2.cell 3
      simp only [Ht.cs, List.getElem?_cons_zero, List.getElem?_cons_succ] at f0 f1 f2 f3
      have z0 := hB2.frozen 0
      have z1 := hB2.frozen 1
      have z2 := hB2.frozen 2
      have z3 := hB2.frozen 3
      have hne : ¬ w2.heap.size = w.heap.size + 1 + 1 := by omega
      have HI4 : Hid (HitI w nm (.slice A xs.length ca) ⟨bn, bo, bb, bc⟩ w4) := ⟨by assumption, hB0, hB1, hB2⟩
      clear hb4 hB4 hB0 hB1 hB2 k00 k01
      by_cases hbt : bt < 0
      · have HR := Lib.hid (HBT.out (by first | exact HLS.out | exact Int.not_lt.1 HLS.out) hbt)
        have hbt' : decide (bt < 0) = true := by simpa using hbt
        clear hbt
        go_wp2_with fail
        go_roundw
        case rel => exact ⟨j + 1, d + 1, true, ⟨nm, d, nb, 8 * (np : Int)⟩, by omega, HJ.out, by go_num, rfl, HR.out, HI4.out.store nm d nb (8 * (np : Int))⟩
        case measure => simp [intOf]; omega
      · have HR := Lib.hid (HOL.out (by first | exact HLS.out | exact Int.not_lt.1 HLS.out) (by trivial) (by first | exact hbt | exact Int.not_lt.1 hbt))
        have hbt' : decide (bt < 0) = false := by simpa using hbt
        clear hbt
        go_wp2_with fail
        go_roundw
        case rel => exact ⟨j + 1, d + 1, true, ⟨bn, bo, bb, bc⟩, by omega, HJ.out, by go_num, rfl, HR.out, HI4.out⟩
        case measure => simp [intOf]; omega
end Go.Proofs.YtgjmjdpddionmaaDoor
