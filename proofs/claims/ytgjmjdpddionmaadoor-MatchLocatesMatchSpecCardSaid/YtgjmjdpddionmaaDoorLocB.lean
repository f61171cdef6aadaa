/- The contracts of match.checkFind and, at one name, of match.CheckStore. -/
import Derived.Test.YtgjmjdpddionmaaDoorName
import Derived.Test.YtgjmjdpddionmaaDoorMatchT
import Derived.Test.YtgjmjdpddionmaaDoorLocA
namespace Go.Proofs.YtgjmjdpddionmaaDoor
open Go.RowKit Go.Dw

def fdF (least percent : Int) : Int := if 1 ≤ least ∧ least ≤ 500 ∧ 0 ≤ percent ∧ percent ≤ 100 then 0 else 1
set_option maxHeartbeats 400000 in
theorem checkFind_any (least percent : Int) (w : World) :
    Calls Tryd.prog 14 #[.int .i64 least, .int .i64 percent] w fun e w' => e = .returned (.int .i64 (fdF least percent)) ∧ w = w' := by
  have HF : Hid (fdF least percent = if 1 ≤ least ∧ least ≤ 500 ∧ 0 ≤ percent ∧ percent ≤ 100 then 0 else 1) := rfl
  by_cases h1 : least < 1
  · go_enter Tryd.func14, Tryd.ntmps14
    go_wp2
    go_ret
    exact ⟨ret_int (by rw [HF.out, if_neg (by omega)]), rfl⟩
  · by_cases h2 : 500 < least
    · go_enter Tryd.func14, Tryd.ntmps14
      go_wp2
      go_ret
      exact ⟨ret_int (by rw [HF.out, if_neg (by omega)]), rfl⟩
    · by_cases h3 : percent < 0
      · go_enter Tryd.func14, Tryd.ntmps14
        go_wp2
        go_ret
        exact ⟨ret_int (by rw [HF.out, if_neg (by omega)]), rfl⟩
      · by_cases h4 : 100 < percent
        · go_enter Tryd.func14, Tryd.ntmps14
          go_wp2
          go_ret
          exact ⟨ret_int (by rw [HF.out, if_neg (by omega)]), rfl⟩
        · go_enter Tryd.func14, Tryd.ntmps14
          go_wp2
          go_ret
          exact ⟨ret_int (by rw [HF.out, if_pos (by omega)]), rfl⟩

theorem checkMarks1 (A : Option Addr) (g c c2 : Nat) (xs : List Int) (w : World) (h0 : w.cell? ⟨g, 0, none⟩ = some (.slice A xs.length c)) (h : Rd w A (ic xs)) (hn : xs.length ≤ 9223372036854775807) :
    Calls Tryd.prog 13 #[.slice (some ⟨g, 0, none⟩) 1 c2] w fun e w' => e = .returned (.int .i64 (chk xs)) ∧ w = w' := by
  have hr : Rd w (some ⟨g, 0, none⟩) ([(⟨A, c, xs⟩ : Sl)].map Sl.v) := by
    refine .inr ⟨g, 0, rfl, World.block_lt_of_cell? w _ h0, ?_⟩
    intro j u hu
    cases j with
    | zero => simp at hu; subst hu; exact h0
    | succ j => simp at hu
  have := checkMarks_any (some ⟨g, 0, none⟩) c2 [⟨A, c, xs⟩] w hr (by simp) (by intro s hs; simp at hs; subst hs; exact ⟨h, hn⟩)
  rw [chks_one] at this
  exact this
set_option maxHeartbeats 1000000 in
theorem store1_any (A : Option Addr) (g c c2 : Nat) (xs : List Int) (w : World) (h0 : w.cell? ⟨g, 0, none⟩ = some (.string ⟨#[97]⟩)) (h1 : w.cell? ⟨g, 1, none⟩ = some (.slice A xs.length c)) (h : Rd w A (ic xs)) (hn : xs.length ≤ 9223372036854775807) (hz : chk xs = 0) :
    Calls Tryd.prog 6 #[.slice (some ⟨g, 0, none⟩) 1 c2] w fun e w' => e = .returned (.int .i64 0) ∧ Below w.heap.size w w' := by
  have hg := World.block_lt_of_cell? w _ h0
  simp only at hg
  have hnm : isNm ⟨#[97]⟩ = true := by decide
  have HN := Lib.hid (fun W => isName_any ⟨#[97]⟩ W (by decide))
  rw [hnm] at HN
  have HR := Lib.hid h
  have HZ := Lib.hid hz
  have H0 := Lib.hid h0
  have H1 := Lib.hid h1
  clear hnm h hz h0 h1
  go_enter Tryd.func6, Tryd.ntmps6
  go_wp2_with fail
  go_loopw [11] (fun iv wr => ∃ k : Nat, k ≤ 1 ∧ iv = .int .i64 (k : Int) ∧ Hid (Below w.heap.size w wr)) (fun iv _ => 1 - (intOf iv).toNat)
  case atStart => exact ⟨0, by omega, rfl, Below.refl _ _⟩
  case round =>
    obtain ⟨k, hk, rfl, HB⟩ := hrel
    rcases (by omega : k = 0 ∨ k = 1) with rfl | rfl
    · have c0 : wr.cell? ⟨g, 0, none⟩ = some (.string ⟨#[97]⟩) := by rw [HB.out.cell (by exact hg)]; exact H0.out
      have c1 : wr.cell? ⟨g, 1, none⟩ = some (.slice A xs.length c) := by rw [HB.out.cell (by exact hg)]; exact H1.out
      have HB2 : Hid (Below w.heap.size w (wr.alloc (.cells #[.string ⟨#[97]⟩, .slice A xs.length c] 41))) := HB.out.alloc HB.out.size _
      have hsz := HB.out.size
      go_wp2_with fail
      refine (HN.out _).mono ?_
      rintro e w2 ⟨rfl, hb2⟩
      have q0 : w2.cell? ⟨wr.heap.size, 0, none⟩ = some (.string ⟨#[97]⟩) := by rw [hb2.cell (by simp)]; exact new_cell (cs := [_, _]) rfl rfl
      have q1 : w2.cell? ⟨wr.heap.size, 1, none⟩ = some (.slice A xs.length c) := by rw [hb2.cell (by simp)]; exact new_cell (cs := [_, _]) rfl rfl
      have HB3 := Lib.hid (HB2.out.trans (hb2.mono (by simp; omega)))
      clear hb2 c0 c1
      go_wp2_with fail
      go_quiet (fail)
      go_wp2_with fail
      have hB4 : Below w.heap.size w ((w2.drewN nq).alloc (.cells #[.slice A xs.length c] 23)) := (below_drewN HB3.out nq).alloc HB3.out.size _
      have hc4 : ((w2.drewN nq).alloc (.cells #[.slice A xs.length c] 23)).cell? ⟨w2.heap.size, 0, none⟩ = some (.slice A xs.length c) := new_cell (W := w2.drewN nq) (cs := [_]) rfl rfl
      generalize (w2.drewN nq).alloc (.cells #[.slice A xs.length c] 23) = w4 at *
      have HB4 := Lib.hid hB4
      refine (checkMarks1 A w2.heap.size c 1 xs w4 hc4 (HR.out.below hB4) hn).mono ?_
      rintro e w5 ⟨rfl, rfl⟩
      rw [HZ.out]
      clear hB4 hc4 q0 q1
      go_wp2_with fail
      go_roundw
      case rel => exact ⟨1, by omega, by go_num, HB4.out⟩
      case measure => simp [intOf]
    · go_wp2_with fail
      go_ret
      exact ⟨rfl, HB.out⟩
end Go.Proofs.YtgjmjdpddionmaaDoor
