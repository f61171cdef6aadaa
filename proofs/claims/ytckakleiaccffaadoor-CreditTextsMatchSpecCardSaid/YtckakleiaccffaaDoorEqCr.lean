/- The contract of the reference's SameCredits, where both read alike. -/
import Derived.Test.YtckakleiaccffaaDoorEqS
import Derived.Test.YtckakleiaccffaaDoorRdW
import Derived.Deep.RegionHeld3
namespace Go.Proofs.YtckakleiaccffaaDoor
open Go.RowKit Go.Dw

set_option maxRecDepth 100000 in
set_option maxHeartbeats 4000000 in
theorem sameCr_any (A B : Option Addr) (c d : Nat) (xs ys : List Crd) (w : World) (he : xs.map Crd.x = ys.map Crd.x) (ha : Crs w ⟨A, c, xs⟩) (hb : Crs w ⟨B, d, ys⟩) :
    Calls Tryd.prog 8 #[.slice A xs.length c, .slice B ys.length d] w fun e w' => e = .returned (.bool true) ∧ Below w.heap.size w w' := by
  have hl : xs.length = ys.length := by have := congrArg List.length he; simpa using this
  have hl1 : ((xs.length : Int) != (ys.length : Int)) = false := by simp; omega
  have hl2 : (xs.length != ys.length) = false := by simp; omega
  have hxm : xs.length ≤ 9223372036854775807 := ha.1
  have HA := Lib.hid ha
  have HB := Lib.hid hb
  have HEQ : Hid (∀ k (h1 : k < xs.length) (h2 : k < ys.length), xs[k].x = ys[k].x) := fun k h1 h2 => by
    have h3 := congrArg (fun l => l[k]?) he
    simpa [h1, h2] using h3
  have HL := Lib.hid hl
  clear ha hb he hl
  go_enter Tryd.func8, Tryd.ntmps8
  go_wp2_with fail
  go_loopw [15] (fun i wr => ∃ k : Nat, k ≤ xs.length ∧ i = .int .i64 k ∧ Hid (Below w.heap.size w wr)) (fun i _ => xs.length - (intOf i).toNat)
  case atStart => exact ⟨0, Nat.zero_le _, rfl, Below.refl _ _⟩
  case round =>
    obtain ⟨k, hk, rfl, HBW⟩ := hrel
    by_cases hlt : k < xs.length
    case neg =>
      have hd1 : decide (k < xs.length) = false := by simpa using hlt
      go_wp2_with fail
      go_ret
      exact ⟨rfl, HBW.out⟩
    have hd1 : decide (k < xs.length) = true := by simpa using hlt
    have hlt2 : k < ys.length := by have := HL.out; omega
    have HE := Lib.hid (HEQ.out k hlt hlt2)
    obtain ⟨b, off, hA, hbb, hc⟩ := HA.out.at_ (by show 0 < xs.length; omega)
    obtain rfl : A = some ⟨b, off, none⟩ := hA
    obtain ⟨b2, off2, hB, hbb2, hc2⟩ := HB.out.at_ (by show 0 < ys.length; omega)
    obtain rfl : B = some ⟨b2, off2, none⟩ := hB
    obtain ⟨p0, p1, p2, p3, p4⟩ := hc k hlt
    obtain ⟨q0, q1, q2, q3, q4⟩ := hc2 k hlt2
    rw [← HBW.out.cell (by exact hbb)] at p0 p1 p2 p3 p4
    rw [← HBW.out.cell (by exact hbb2)] at q0 q1 q2 q3 q4
    obtain ⟨_, _, _, o4, o5, _, _⟩ := HA.out.2.2 xs[k] (List.getElem_mem hlt)
    obtain ⟨_, _, _, _, o5', _, _⟩ := HB.out.2.2 ys[k] (List.getElem_mem hlt2)
    have HRA := Lib.hid (o5.below HBW.out)
    have HRB := Lib.hid (o5'.below HBW.out)
    have hbr : b < wr.heap.size := Nat.lt_of_lt_of_le hbb HBW.out.size
    have hbr2 : b2 < wr.heap.size := Nat.lt_of_lt_of_le hbb2 HBW.out.size
    simp only at p0 p1 p2 p3 p4 q0 q1 q2 q3 q4 o4
    generalize xs[k] = x at *
    generalize ys[k] = y at *
    obtain ⟨r, p, nm, ⟨sa, sc, sl⟩, m⟩ := x
    obtain ⟨r', p', nm', ⟨sa', sc', sl'⟩, m'⟩ := y
    have hE := HE.out
    unfold Crd.x at hE
    injection hE with e1 e2 e3 e4 e5
    simp only at e1 e2 e3 e4 e5
    subst e1 e2 e3 e4 e5
    simp only at p0 p1 p2 p3 p4 q0 q1 q2 q3 q4 HRA HRB o4
    have HEQS : Hid (∀ W, Gq wr W → Calls Tryd.prog 18 #[.slice sa sl.length sc, .slice sa' sl.length sc'] W fun e w' => e = .returned (.bool true) ∧ Gq wr w') := fun W hW =>
      (equalS_any sa sa' sc sc' sl sl W (HRA.out.below hW) (HRB.out.below hW) o4).mono fun e w' h => ⟨by rw [h.1]; simp, by obtain ⟨n, hn⟩ := h.2; rw [hn]; exact below_drewN hW n⟩
    clear o5 o5' hc hc2 HE
    have HS : Hid (∀ W, Gq wr W → W.cell? ⟨b, off + k * 5, none⟩ = some (.string r) ∧ W.cell? ⟨b, off + k * 5 + 1, none⟩ = some (.string p) ∧ W.cell? ⟨b, off + k * 5 + 2, none⟩ = some (.string nm) ∧ W.cell? ⟨b, off + k * 5 + 3, none⟩ = some (.slice sa sl.length sc) ∧ W.cell? ⟨b, off + k * 5 + 4, none⟩ = some (.int .i64 m)
      ∧ W.cell? ⟨b2, off2 + k * 5, none⟩ = some (.string r) ∧ W.cell? ⟨b2, off2 + k * 5 + 1, none⟩ = some (.string p) ∧ W.cell? ⟨b2, off2 + k * 5 + 2, none⟩ = some (.string nm) ∧ W.cell? ⟨b2, off2 + k * 5 + 3, none⟩ = some (.slice sa' sl.length sc') ∧ W.cell? ⟨b2, off2 + k * 5 + 4, none⟩ = some (.int .i64 m) ∧ Gq wr W) := fun W hW => by
      rw [Below.cell hW (by exact hbr), Below.cell hW (by exact hbr), Below.cell hW (by exact hbr), Below.cell hW (by exact hbr), Below.cell hW (by exact hbr), Below.cell hW (by exact hbr2), Below.cell hW (by exact hbr2), Below.cell hW (by exact hbr2), Below.cell hW (by exact hbr2), Below.cell hW (by exact hbr2)]
      exact ⟨p0, p1, p2, p3, p4, q0, q1, q2, q3, q4, hW⟩
    have hBD : Gq wr wr.drew := (Gq.refl _).drew
    have hBR : Gq wr wr := Gq.refl _
    go_wp2_with fail
    go_region_held3 (fun W => W.cell? ⟨b, off + k * 5, none⟩ = some (.string r) ∧ W.cell? ⟨b, off + k * 5 + 1, none⟩ = some (.string p) ∧ W.cell? ⟨b, off + k * 5 + 2, none⟩ = some (.string nm) ∧ W.cell? ⟨b, off + k * 5 + 3, none⟩ = some (.slice sa sl.length sc) ∧ W.cell? ⟨b, off + k * 5 + 4, none⟩ = some (.int .i64 m)
      ∧ W.cell? ⟨b2, off2 + k * 5, none⟩ = some (.string r) ∧ W.cell? ⟨b2, off2 + k * 5 + 1, none⟩ = some (.string p) ∧ W.cell? ⟨b2, off2 + k * 5 + 2, none⟩ = some (.string nm) ∧ W.cell? ⟨b2, off2 + k * 5 + 3, none⟩ = some (.slice sa' sl.length sc') ∧ W.cell? ⟨b2, off2 + k * 5 + 4, none⟩ = some (.int .i64 m) ∧ Gq wr W)
      (first | exact HS.out _ hBD | (refine HS.out _ ?_; repeat (first | exact hBD | exact hBR | refine Gq.alloc ?_ _ | refine Gq.drew ?_ | refine Gq.set ?_ (by simp) _))) (fail)
    all_goals
      clear p0 p1 p2 p3 p4 q0 q1 q2 q3 q4 HS
      have hm1 : (m != m) = false := by simp
      go_wp2_with fail
      refine (HEQS.out _ (((Gq.refl _).alloc _).alloc _).drew).mono ?_
      rintro e w2 ⟨rfl, hq2⟩
      have HB2 : Hid (Below w.heap.size w w2) := HBW.out.trans (Below.mono hq2 HBW.out.size)
      clear hq2
      go_wp2_with fail
      go_roundw
      case rel => exact ⟨k + 1, by omega, by go_num, HB2⟩
      case measure => simp [intOf]; omega
end Go.Proofs.YtckakleiaccffaaDoor
