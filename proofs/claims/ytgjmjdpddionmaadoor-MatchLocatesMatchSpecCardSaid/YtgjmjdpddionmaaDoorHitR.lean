/- The contracts of the reference's better and locate. -/
import Derived.Test.YtgjmjdpddionmaaDoorHit
import Derived.Test.YtgjmjdpddionmaaDoorApR
import Derived.Test.YtgjmjdpddionmaaDoorLocT
namespace Go.Proofs.YtgjmjdpddionmaaDoor
open Go.RowKit Go.Dw
attribute [local go_sem ↓] Go.wp_at_zero Go.wp_at_succ

def betr (x y : Ht) : Int := if x.b * y.c - y.b * x.c ≠ 0 then x.b * y.c - y.b * x.c else y.c - x.c
theorem betr_neg (x y : Ht) : betr x y < 0 ↔ bet x y < 0 := by
  rw [bet_neg]; unfold betr betP; split <;> omega
theorem betr_pos (x y : Ht) : betr x y ≤ 0 ↔ bet x y ≤ 0 := by
  have h : 0 < betr x y ↔ 0 < bet x y := by rw [bet_pos]; unfold betr betP; split <;> omega
  omega
set_option maxHeartbeats 1000000 in
theorem betterR_any (x y : Ht) (w : World) (hx : x.small) (hy : y.small) :
    Calls Tryd.prog 24 #[x.v, y.v] w fun e w' => e = .returned (.int .i64 (betr x y)) ∧ Below w.heap.size w w' := by
  obtain ⟨n1, o1, b1, c1⟩ := x
  obtain ⟨n2, o2, b2, c2⟩ := y
  obtain ⟨hx1, hx2, hx3, hx4⟩ := hx
  obtain ⟨hy1, hy2, hy3, hy4⟩ := hy
  simp only [Ht.v] at *
  have hm1 := mul_small hx1 hx2 hy3 hy4
  have hm2 := mul_small hy1 hy2 hx3 hx4
  obtain ⟨p1, hp1⟩ : ∃ p, b1 * c2 = p := ⟨_, rfl⟩
  obtain ⟨p2, hp2⟩ : ∃ p, b2 * c1 = p := ⟨_, rfl⟩
  rw [hp1] at hm1
  rw [hp2] at hm2
  have HB : Hid (betr ⟨n1, o1, b1, c1⟩ ⟨n2, o2, b2, c2⟩ = if p1 - p2 ≠ 0 then p1 - p2 else c2 - c1) := by show _ = _; unfold betr; simp only; rw [hp1, hp2]
  have HB0 : Hid (Below w.heap.size w ((w.alloc (.cells #[.string n1, .int .i64 o1, .int .i64 b1, .int .i64 c1] 31)).alloc (.cells #[.string n2, .int .i64 o2, .int .i64 b2, .int .i64 c2] 31))) := ((Below.refl _ _).alloc (Nat.le_refl _) _).alloc (by simp) _
  have hw1 : wrap64 (b1 * c2) = p1 := by rw [hp1]; exact IntWalk.wrap64_in _ (by omega)
  have hw2 : wrap64 (b2 * c1) = p2 := by rw [hp2]; exact IntWalk.wrap64_in _ (by omega)
  by_cases hz : p1 - p2 = 0
  · have hzb : (p1 - p2 != 0) = false := by simpa using hz
    have HR : Hid (betr ⟨n1, o1, b1, c1⟩ ⟨n2, o2, b2, c2⟩ = c2 - c1) := by show _ = _; rw [HB.out, if_neg (fun hh => hh hz)]
    clear hz hp1 hp2 hx1 hx2 hy1 hy2
    go_enter Tryd.func24, Tryd.ntmps24
    go_wp2_with fail
    go_ret
    exact ⟨ret_int HR.out.symm, HB0.out⟩
  · have hzb : (p1 - p2 != 0) = true := by simpa using hz
    have HR : Hid (betr ⟨n1, o1, b1, c1⟩ ⟨n2, o2, b2, c2⟩ = p1 - p2) := by show _ = _; rw [HB.out, if_pos hz]
    clear hz hp1 hp2 hx1 hx2 hy1 hy2
    go_enter Tryd.func24, Tryd.ntmps24
    go_wp2_with fail
    go_ret
    exact ⟨ret_int HR.out.symm, HB0.out⟩
/-- the reference's loop over offsets -/
def rGo (nm : ByteArray) (xs ys : List Int) (least : Int) : Nat → Bool × Ht
  | 0 => (false, ht0)
  | j + 1 =>
    let st := rGo nm xs ys least j
    let d := -(ys.length : Int) + j
    if (apN xs.length ys.length d : Int) < least then st else if !st.1 || decide (bet (htD nm xs ys d) st.2 < 0) then (true, htD nm xs ys d) else st
section
variable {nm : ByteArray} {xs ys : List Int} {least : Int} {j : Nat}
theorem rGo_skip (h : (apN xs.length ys.length (-(ys.length : Int) + j) : Int) < least) : rGo nm xs ys least (j + 1) = rGo nm xs ys least j := by
  rw [rGo, if_pos h]
theorem rGo_new (h : ¬ (apN xs.length ys.length (-(ys.length : Int) + j) : Int) < least) (h2 : (rGo nm xs ys least j).1 = false) : rGo nm xs ys least (j + 1) = (true, htD nm xs ys (-(ys.length : Int) + j)) := by
  rw [rGo, if_neg h, if_pos (by simp [h2])]
theorem rGo_bet (h : ¬ (apN xs.length ys.length (-(ys.length : Int) + j) : Int) < least) (h2 : bet (htD nm xs ys (-(ys.length : Int) + j)) (rGo nm xs ys least j).2 < 0) : rGo nm xs ys least (j + 1) = (true, htD nm xs ys (-(ys.length : Int) + j)) := by
  rw [rGo, if_neg h, if_pos (by simp [h2])]
theorem rGo_old (h : ¬ (apN xs.length ys.length (-(ys.length : Int) + j) : Int) < least) (h3 : (rGo nm xs ys least j).1 = true) (h2 : ¬ bet (htD nm xs ys (-(ys.length : Int) + j)) (rGo nm xs ys least j).2 < 0) : rGo nm xs ys least (j + 1) = rGo nm xs ys least j := by
  rw [rGo, if_neg h, if_neg (by simp [h3]; omega)]
theorem rGo_hGo (h1 : 1 ≤ least) : ∀ i, rGo nm xs ys least (1 + i) = hGo nm xs ys least i
  | 0 => rGo_skip (j := 0) (by unfold apN; omega)
  | i + 1 => by
    have ih := rGo_hGo h1 i
    rw [show 1 + (i + 1) = (1 + i) + 1 by omega, rGo, hGo, ih]
    have e : -(ys.length : Int) + ((1 + i : Nat) : Int) = 1 - (ys.length : Int) + (i : Int) := by omega
    rw [e]
theorem rGo_end (h1 : 1 ≤ least) : rGo nm xs ys least (xs.length + ys.length + 1) = hEnd nm xs ys least := by
  unfold hEnd
  by_cases h0 : xs.length + ys.length = 0
  · rw [h0]; exact rGo_hGo h1 0
  · rw [rGo_skip (by unfold apN; omega), ← rGo_hGo h1 (xs.length + ys.length - 1), show 1 + (xs.length + ys.length - 1) = xs.length + ys.length by omega]
theorem rGo_small (nm : ByteArray) (xs ys : List Int) (least : Int) (h : ys.length ≤ 500) : ∀ j, (rGo nm xs ys least j).2.small ∧ (rGo nm xs ys least j).2.b ≤ 4000 ∧ (rGo nm xs ys least j).2.c ≤ 4000
  | 0 => by simp [rGo, ht0, Ht.small]
  | j + 1 => by
    have ih := rGo_small nm xs ys least h j
    have hs := htD_small nm xs ys (-(ys.length : Int) + j) h
    rw [rGo]
    split
    · exact ih
    · split
      · exact hs
      · exact ih
end
set_option maxRecDepth 100000 in
set_option maxHeartbeats 2000000 in
theorem locR_any (nm : ByteArray) (A B : Option Addr) (ca cb : Nat) (xs ys : List Int) (least percent : Int) (w : World) (ha : Rd w A (ic xs)) (hb : Rd w B (ic ys)) (hxs : xs.all okM = true) (hys : ys.all okM = true) (hxl : xs.length ≤ 500) (hyl : ys.length ≤ 500) (hl1 : 1 ≤ least) (hl2 : least ≤ 500) (hp1 : 0 ≤ percent) (hp2 : percent ≤ 100) :
    Calls Tryd.prog 23 #[.agg #[.string nm, .slice A xs.length ca], .slice B ys.length cb, .int .i64 least, .int .i64 percent] w fun e w' => e = .returned (.tuple #[(hEnd nm xs ys least).2.v, .bool (hOk nm xs ys least percent)]) ∧ Below w.heap.size w w' := by
  have HA := Lib.hid ha
  have HBr := Lib.hid hb
  have HXS := Lib.hid hxs
  have HYS := Lib.hid hys
  have HI0 : Hid (HitI w nm (.slice A xs.length ca) ht0 (((w.alloc (.cells #[.string nm, .slice A xs.length ca] 41)).alloc (.cells #[.string ⟨#[]⟩, .int .i64 0, .int .i64 0, .int .i64 0] 31)).alloc (.cells #[.string ⟨#[]⟩, .int .i64 0, .int .i64 0, .int .i64 0] 31))) := by
    have b1 := Blk.new w 41 [.string nm, .slice A xs.length ca]
    have b2 := Blk.new (w.alloc (.cells #[.string nm, .slice A xs.length ca] 41)) 31 ht0.cs
    have b3 := Blk.new ((w.alloc (.cells #[.string nm, .slice A xs.length ca] 41)).alloc (.cells ht0.cs.toArray 31)) 31 ht0.cs
    have s2 : (w.alloc (.cells #[.string nm, .slice A xs.length ca] 41)).heap.size = w.heap.size + 1 := by simp
    have s3 : ((w.alloc (.cells #[.string nm, .slice A xs.length ca] 41)).alloc (.cells ht0.cs.toArray 31)).heap.size = w.heap.size + 1 + 1 := by simp
    rw [s2] at b2
    rw [s3] at b3
    refine ⟨(((Below.refl _ _).alloc (Nat.le_refl _) _).alloc (by simp) _).alloc (by simp; omega) _, ?_, ?_, b3⟩
    · exact (Below.heap_alloc _ _ _ (by simp; omega)).trans ((Below.heap_alloc _ _ _ (by simp)).trans b1)
    · exact (Below.heap_alloc _ _ _ (by simp)).trans b2
  clear ha hb hxs hys
  go_enter Tryd.func23, Tryd.ntmps23
  go_wp2_with fail
  generalize (((w.alloc (.cells #[.string nm, .slice A xs.length ca] 41)).alloc (.cells #[.string ⟨#[]⟩, .int .i64 0, .int .i64 0, .int .i64 0] 31)).alloc (.cells #[.string ⟨#[]⟩, .int .i64 0, .int .i64 0, .int .i64 0] 31)) = w1 at *
  go_loopw [11, 12] (fun fv dv wr => ∃ (j : Nat) (d : Int) (fb : Bool) (best : Ht), j ≤ xs.length + ys.length + 1 ∧ d = -(ys.length : Int) + j ∧ dv = .int .i64 d ∧ fv = .bool fb ∧ Hid (rGo nm xs ys least j = (fb, best)) ∧ Hid (HitI w nm (.slice A xs.length ca) best wr)) (fun _ dv _ => ((xs.length : Int) + 1 - intOf dv).toNat)
  case atStart => exact ⟨0, _, false, ht0, Nat.zero_le _, by simp, rfl, rfl, rfl, HI0.out⟩
  case round =>
    obtain ⟨j, d, fb, best, hj, hd, rfl, rfl, HG, HI⟩ := hrel
    obtain ⟨bn, bo, bb, bc⟩ := best
    obtain ⟨hbel, hB0, hB1, hB2⟩ := HI.out
    have c00 := hB0.cell 0
    have c01 := hB0.cell 1
    simp only [List.getElem?_cons_zero, List.getElem?_cons_succ] at c00 c01
    have hz0 := hB0.lt
    have hz1 := hB1.lt
    have hz2 := hB2.lt
    have HBL := Lib.hid hbel
    have H1 := Lib.hid hB1
    have H2 := Lib.hid hB2
    have hsm := rGo_small nm xs ys least hyl j
    rw [HG.out] at hsm
    obtain ⟨⟨s1, s2, s3, s4⟩, s5, s6⟩ := hsm
    simp only at s1 s2 s3 s4 s5 s6
    clear hbel hB0 hB1 hB2
    by_cases hjl : j < xs.length + ys.length + 1
    case neg =>
      have hje : j = xs.length + ys.length + 1 := by omega
      have HE : Hid (hEnd nm xs ys least = (fb, ⟨bn, bo, bb, bc⟩)) := by show _ = _; rw [← rGo_end hl1, ← hje]; exact HG.out
      have hlt : decide (d ≤ (xs.length : Int)) = false := by simp; omega
      have f0 := H2.out.cell 0
      have f1 := H2.out.cell 1
      have f2 := H2.out.cell 2
      have f3 := H2.out.cell 3
      simp only [Ht.cs, List.getElem?_cons_zero, List.getElem?_cons_succ] at f0 f1 f2 f3
      have g0 := H1.out.cell 0
      have g1 := H1.out.cell 1
      have g2 := H1.out.cell 2
      have g3 := H1.out.cell 3
      simp only [ht0, Ht.cs, List.getElem?_cons_zero, List.getElem?_cons_succ] at g0 g1 g2 g3
      have z0 := H1.out.frozen 0
      have z1 := H1.out.frozen 1
      have z2 := H1.out.frozen 2
      have z3 := H1.out.frozen 3
      have hmp : 0 ≤ percent * bc ∧ percent * bc ≤ 400000 := ⟨Int.mul_nonneg hp1 s3, Int.le_trans (Int.mul_le_mul hp2 s6 s3 (by omega)) (by omega)⟩
      have hw1 : IntKind.i64.wrap (bc - bb) = bc - bb := IntWalk.i64_in _ (by omega)
      have hw2 : IntKind.i64.wrap ((bc - bb) * 100) = (bc - bb) * 100 := IntWalk.i64_in _ (by omega)
      have hw3 : IntKind.i64.wrap (percent * bc) = percent * bc := IntWalk.i64_in _ (by omega)
      have hne : ¬ w.heap.size + 1 = w.heap.size + 1 + 1 := by omega
      have HOK : Hid (hOk nm xs ys least percent = (fb && decide (percent * bc ≤ (bc - bb) * 100))) := by show _ = _; unfold hOk; rw [HE.out]; simp only; rw [Int.mul_comm (bc - bb) 100]
      have HV : Hid ((hEnd nm xs ys least).2.v = .agg #[.string bn, .int .i64 bo, .int .i64 bb, .int .i64 bc]) := by show _ = _; rw [HE.out]; rfl
      clear hje hmp HA HBr HXS HYS
      go_wp2_with fail
      clear c00 c01
      cases fb with
      | false =>
        go_region
        all_goals
          go_wp2_with fail
          refine bodyPost_ret (v := .tuple #[.agg #[.string bn, .int .i64 bo, .int .i64 bb, .int .i64 bc], .bool false]) (by simp [results, Tryd.results23, go_sem, g0, g1, g2, g3]) rfl ⟨?_, ?_⟩
          · rw [HOK.out, HV.out]; rfl
          · exact ((((HBL.out.setCell (p := ⟨w.heap.size + 1, 0, none⟩) (by simp) _).setCell (p := ⟨w.heap.size + 1, 1, none⟩) (by simp) _).setCell (p := ⟨w.heap.size + 1, 2, none⟩) (by simp) _).setCell (p := ⟨w.heap.size + 1, 3, none⟩) (by simp) _).drew
      | true =>
        go_region
        all_goals
          go_wp2_with fail
          refine bodyPost_ret (v := .tuple #[.agg #[.string bn, .int .i64 bo, .int .i64 bb, .int .i64 bc], .bool (decide (percent * bc ≤ (bc - bb) * 100))]) (by simp [results, Tryd.results23, go_sem, g0, g1, g2, g3]) rfl ⟨?_, ?_⟩
          · rw [HOK.out, HV.out]; rfl
          · exact ((((HBL.out.setCell (p := ⟨w.heap.size + 1, 0, none⟩) (by simp) _).setCell (p := ⟨w.heap.size + 1, 1, none⟩) (by simp) _).setCell (p := ⟨w.heap.size + 1, 2, none⟩) (by simp) _).setCell (p := ⟨w.heap.size + 1, 3, none⟩) (by simp) _).drew
    have hlt : decide (d ≤ (xs.length : Int)) = true := by simp; omega
    have HAP := Lib.hid (rapart_any A B ca cb xs ys d wr (HA.out.below HBL.out) (HBr.out.below HBL.out) HXS.out HYS.out hxl hyl (by omega) (by omega))
    have HHD : Hid (htD nm xs ys d = ⟨nm, d, apB xs ys d (apN xs.length ys.length d), 8 * (apN xs.length ys.length d : Nat)⟩) := rfl
    have HSK := Lib.hid (@rGo_skip nm xs ys least j)
    have HNW := Lib.hid (@rGo_new nm xs ys least j)
    have HBT := Lib.hid (@rGo_bet nm xs ys least j)
    have HOL := Lib.hid (@rGo_old nm xs ys least j)
    have hnp := apN_le xs.length ys.length d
    have hnb := apB_le xs ys d (apN xs.length ys.length d)
    rw [← hd, HG.out] at HNW HBT HOL
    rw [← hd, HG.out] at HSK
    rw [HHD.out] at HNW HBT HOL
    clear HHD
    generalize apB xs ys d (apN xs.length ys.length d) = nb at *
    generalize apN xs.length ys.length d = np at *
    have hJ : d + 1 = -(ys.length : Int) + (j + 1 : Nat) := by omega
    have HJ := Lib.hid hJ
    have HD := Lib.hid hd
    have hd1 : -500 ≤ d := by omega
    have hd2 : d ≤ (xs.length : Int) := by omega
    clear hd hJ
    go_wp2_with fail
    refine HAP.out.mono ?_
    rintro e w2 ⟨rfl, m, hw2⟩
    have hw8l : IntKind.i64.wrap (8 * least) = 8 * least := IntWalk.i64_in _ (by omega)
    have hb2 : Below wr.heap.size wr w2 := by rw [hw2]; exact below_drewN (Below.refl _ _) m
    have HI2 := Lib.hid (HI.out.below hb2)
    have k00 : w2.cell? ⟨w.heap.size, 0, none⟩ = some (.string nm) := by rw [hb2.cell (by exact hz0)]; exact c00
    have k01 : w2.cell? ⟨w.heap.size, 1, none⟩ = some (.slice A xs.length ca) := by rw [hb2.cell (by exact hz0)]; exact c01
    have hzz := hb2.size
    have hzw2 : w.heap.size + 1 + 1 < w2.heap.size := by omega
    have hzw1 : w.heap.size + 1 < w2.heap.size := by omega
    have hzw0 : w.heap.size < w2.heap.size := by omega
    clear hb2 hw2 c00 c01 HI
    by_cases hls : (np : Int) < least
    · have HR := Lib.hid (HSK.out hls)
      have hls' : decide (8 * least ≤ 8 * (np : Int)) = false := by simp; omega
      have hls2 : decide (least ≤ (np : Int)) = false := by simp; omega
      clear hls
      go_wp2_with fail
      go_roundw
      case rel => exact ⟨j + 1, d + 1, fb, ⟨bn, bo, bb, bc⟩, by omega, HJ.out, by go_num, rfl, HR.out, HI2.out.below ((Below.refl _ _).alloc (Nat.le_refl _) _)⟩
      case measure => simp [intOf]; omega
    have hls' : decide (8 * least ≤ 8 * (np : Int)) = true := by simp; omega
    have hls2 : decide (least ≤ (np : Int)) = true := by simp; omega
    have HLS := Lib.hid hls
    clear hls
    have hw8 : IntKind.i64.wrap (8 * (np : Int)) = 8 * (np : Int) := IntWalk.i64_in _ (by omega)
    obtain ⟨hbel, hB0, hB1, hB2⟩ := HI2.out
    have f0 := hB2.cell 0
    have f1 := hB2.cell 1
    have f2 := hB2.cell 2
    have f3 := hB2.cell 3
    simp only [Ht.cs, List.getElem?_cons_zero, List.getElem?_cons_succ] at f0 f1 f2 f3
    have z0 := hB2.frozen 0
    have z1 := hB2.frozen 1
    have z2 := hB2.frozen 2
    have z3 := hB2.frozen 3
    have HB3 : Hid (Below w2.heap.size w2 (w2.alloc (.cells #[.string nm, .int .i64 d, .int .i64 nb, .int .i64 (8 * (np : Int))] 31))) := (Below.refl _ _).alloc (Nat.le_refl _) _
    cases fb with
    | false =>
      have HR := Lib.hid (HNW.out (by first | exact HLS.out | exact Int.not_lt.1 HLS.out) rfl)
      clear hbel hB0 hB1 hB2
      go_wp2_with fail
      go_roundw
      case rel => exact ⟨j + 1, d + 1, true, ⟨nm, d, nb, 8 * (np : Int)⟩, by omega, HJ.out, by go_num, rfl, HR.out, (HI2.out.store nm d nb (8 * (np : Int))).below ((Below.refl _ _).alloc (Nat.le_refl _) _)⟩
      case measure => simp [intOf]; omega
    | true =>
      obtain ⟨bt, hbt⟩ : ∃ v, betr ⟨nm, d, nb, 8 * (np : Int)⟩ ⟨bn, bo, bb, bc⟩ = v := ⟨_, rfl⟩
      have HBE := Lib.hid (fun W => betterR_any ⟨nm, d, nb, 8 * (np : Int)⟩ ⟨bn, bo, bb, bc⟩ W ⟨by simp only; omega, by simp only; omega, by simp only; omega, by simp only; omega⟩ ⟨by simp only; omega, by simp only; omega, by simp only; omega, by simp only; omega⟩)
      have HBN : Hid (bt < 0 ↔ bet ⟨nm, d, nb, 8 * (np : Int)⟩ ⟨bn, bo, bb, bc⟩ < 0) := by rw [← hbt]; exact betr_neg _ _
      rw [hbt] at HBE
      simp only [Ht.v] at HBE
      clear hbt hbel hB0 hB1 hB2
      go_wp2_with fail
      refine (HBE.out _).mono ?_
      rintro e w4 ⟨rfl, hb4⟩
      have hB4 := hb4.mono (show w2.heap.size ≤ _ by simp)
      have hI4 := HI2.out.below (HB3.out.trans hB4)
      have q0 : w4.cell? ⟨w2.heap.size, 0, none⟩ = some (.string nm) := by rw [hb4.cell (by simp)]; exact new_cell (cs := [_, _, _, _]) rfl rfl
      have q1 : w4.cell? ⟨w2.heap.size, 1, none⟩ = some (.int .i64 d) := by rw [hb4.cell (by simp)]; exact new_cell (cs := [_, _, _, _]) rfl rfl
      have q2 : w4.cell? ⟨w2.heap.size, 2, none⟩ = some (.int .i64 nb) := by rw [hb4.cell (by simp)]; exact new_cell (cs := [_, _, _, _]) rfl rfl
      have q3 : w4.cell? ⟨w2.heap.size, 3, none⟩ = some (.int .i64 (8 * (np : Int))) := by rw [hb4.cell (by simp)]; exact new_cell (cs := [_, _, _, _]) rfl rfl
      obtain ⟨_, hB0, hB1, hB2⟩ := hI4
      clear f0 f1 f2 f3 z0 z1 z2 z3
      have f0 := hB2.cell 0
      have f1 := hB2.cell 1
      have f2 := hB2.cell 2
      have f3 := hB2.cell 3
      simp only [Ht.cs, List.getElem?_cons_zero, List.getElem?_cons_succ] at f0 f1 f2 f3
      have z0 := hB2.frozen 0
      have z1 := hB2.frozen 1
      have z2 := hB2.frozen 2
      have z3 := hB2.frozen 3
      have hne : ¬ w2.heap.size = w.heap.size + 1 + 1 := by omega
      have HI4 : Hid (HitI w nm (.slice A xs.length ca) ⟨bn, bo, bb, bc⟩ w4) := ⟨by assumption, hB0, hB1, hB2⟩
      clear hb4 hB4 hB0 hB1 hB2 k00 k01
      by_cases hbt : bt < 0
      · have HR := Lib.hid (HBT.out (by first | exact HLS.out | exact Int.not_lt.1 HLS.out) (HBN.out.1 hbt))
        have hbt' : decide (bt < 0) = true := by simpa using hbt
        clear hbt
        go_wp2_with fail
        go_roundw
        case rel => exact ⟨j + 1, d + 1, true, ⟨nm, d, nb, 8 * (np : Int)⟩, by omega, HJ.out, by go_num, rfl, HR.out, HI4.out.store nm d nb (8 * (np : Int))⟩
        case measure => simp [intOf]; omega
      · have HR := Lib.hid (HOL.out (by first | exact HLS.out | exact Int.not_lt.1 HLS.out) (by trivial) (by have := HBN.out; omega))
        have hbt' : decide (bt < 0) = false := by simpa using hbt
        clear hbt
        go_wp2_with fail
        go_roundw
        case rel => exact ⟨j + 1, d + 1, true, ⟨bn, bo, bb, bc⟩, by omega, HJ.out, by go_num, rfl, HR.out, HI4.out⟩
        case measure => simp [intOf]; omega
end Go.Proofs.YtgjmjdpddionmaaDoor
