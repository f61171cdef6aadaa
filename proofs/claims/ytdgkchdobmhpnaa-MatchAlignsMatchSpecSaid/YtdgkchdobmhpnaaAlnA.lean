/- The contracts of score.before and of (*aligner).link. -/
import Derived.Test.YtdgkchdobmhpnaaOnes
import Derived.Deep.RegionHeld3
import Derived.Deep.DrawnRows
import Derived.Test.YtdgkchdobmhpnaaTab
namespace Go.Proofs.Ytdgkchdobmhpnaa
open Go.RowKit Go.Dw
attribute [local go_sem ↓] Go.wp_at_zero Go.wp_at_succ

/-- a score as a value -/
def scv (s : Scr) : Value := .agg #[.int .i64 s.1, .int .i64 s.2]
set_option maxHeartbeats 1000000 in
theorem before_any (x y : Scr) (w : World) :
    Calls Try.prog 51 #[scv x, scv y] w fun e w' => e = .returned (.bool (bfr x y)) ∧ Below w.heap.size w w' := by
  obtain ⟨a, b⟩ := x
  obtain ⟨c, d⟩ := y
  simp only [scv, bfr]
  have hbel : Below w.heap.size w ((w.alloc (.cells #[.int .i64 a, .int .i64 b] 72)).alloc (.cells #[.int .i64 c, .int .i64 d] 72)) := ((Below.refl _ _).alloc (Nat.le_refl _) _).alloc (by simp) _
  have HB := Lib.hid hbel
  clear hbel
  by_cases h1 : a < c
  · go_enter Try.func51, Try.ntmps51
    go_wp2
    go_ret
    exact ⟨ret_bool (by simp [h1]), HB.out⟩
  · have h1' : ¬ a < c := h1
    by_cases h2 : a = c
    · have h2' : (a == c) = true := by simpa using h2
      have H2 := Lib.hid h2
      clear h2
      go_enter Try.func51, Try.ntmps51
      go_wp2
      all_goals
        go_ret
        exact ⟨ret_bool (by simp [H2.out, *]), HB.out⟩
    · have h2' : (a == c) = false := by simpa using h2
      have H2 := Lib.hid h2
      clear h2
      go_enter Try.func51, Try.ntmps51
      go_wp2
      go_ret
      exact ⟨ret_bool (by simp [H2.out, h1]), HB.out⟩

set_option maxHeartbeats 1000000 in
set_option maxRecDepth 100000 in
/-- link: the table's outer row lies in block H, its row i + 1 in block g -/
theorem link_any (KB H g go la lb c0 c1 c2 cH : Nat) (A B : Addr) (i j : Nat) (a b : Nat) (s : Scr) (w : World)
    (k0 : w.cell? ⟨KB, 0, none⟩ = some (.slice (some ⟨A.block, A.off, none⟩) la c0)) (k1 : w.cell? ⟨KB, 1, none⟩ = some (.slice (some ⟨B.block, B.off, none⟩) lb c1))
    (k3 : w.cell? ⟨KB, 3, none⟩ = some (.slice (some ⟨H, 0, none⟩) (la + 1) cH))
    (hr : w.cell? ⟨H, i + 1, none⟩ = some (.slice (some ⟨g, go, none⟩) (lb + 1) c2))
    (hs1 : w.cell? ⟨g, go + (j + 1) * 2, none⟩ = some (.int .i64 s.1)) (hs2 : w.cell? ⟨g, go + (j + 1) * 2 + 1, none⟩ = some (.int .i64 s.2))
    (ha : w.cell? ⟨A.block, A.off + i, none⟩ = some (.int .i64 (a : Int))) (hb : w.cell? ⟨B.block, B.off + j, none⟩ = some (.int .i64 (b : Int)))
    (hi : i < la) (hj : j < lb) (hla : la ≤ 1000) (hlb : lb ≤ 1000) (ha2 : a < 256) (hb2 : b < 256) (h1 : 0 ≤ s.1) (h2 : s.1 ≤ 1000000) (h3 : 0 ≤ s.2) (h4 : s.2 ≤ 1000000) :
    Calls Try.prog 50 #[.pointer (some ⟨KB, 0, none⟩), .int .i64 (i : Int), .int .i64 (j : Int)] w fun e w' => e = .returned (scv (lnk s (bd (a : Int) (b : Int)))) ∧ Below w.heap.size w w' := by
  obtain ⟨s1, s2⟩ := s
  have hKz := World.block_lt_of_cell? w _ k0
  have hHz := World.block_lt_of_cell? w _ hr
  have hgz := World.block_lt_of_cell? w _ hs1
  have hAz := World.block_lt_of_cell? w _ ha
  have hBz := World.block_lt_of_cell? w _ hb
  simp only at hKz hHz hgz hAz hBz
  have HX := xor_nat a b ha2 hb2
  have hlt := xor_lt a b ha2 hb2
  have HBD : Hid (bd (a : Int) (b : Int) = (popN 8 (a ^^^ b) : Int)) := by show _ = _; unfold bd; rw [Int.toNat_natCast, Int.toNat_natCast]
  generalize a ^^^ b = x0 at *
  have hbd := popN_le 8 x0
  have HO := Lib.hid (fun W => ones_any x0 W hlt)
  simp only at h1 h2 h3 h4 hs1 hs2
  have hi1 : (i : Int) + 1 < (la : Int) + 1 := by omega
  have hj1 : (j : Int) + 1 < (lb : Int) + 1 := by omega
  have hi2 : (i : Int) < (la : Int) := by omega
  have hj2 : (j : Int) < (lb : Int) := by omega
  go_enter Try.func50, Try.ntmps50
  go_wp2
  have hw1 : IntKind.i64.wrap (s1 + (popN 8 x0 : Int)) = s1 + (popN 8 x0 : Int) := IntWalk.i64_in _ (by omega)
  have hw2 : IntKind.i64.wrap (s2 + 1) = s2 + 1 := IntWalk.i64_in _ (by omega)
  have hw3 : IntKind.u64.wrap (x0 : Int) = (x0 : Int) := by
    show (x0 : Int) % 18446744073709551616 = _
    omega
  have hi0 : (0 : Int) ≤ (i : Int) := by omega
  have hj0 : (0 : Int) ≤ (j : Int) := by omega
  go_region_held3 (fun W => W.cell? ⟨w.heap.size + 1, 0, none⟩ = some (.int .i64 s1) ∧ W.cell? ⟨w.heap.size + 1, 1, none⟩ = some (.int .i64 s2) ∧ W.cell? ⟨KB, 0, none⟩ = some (.slice (some ⟨A.block, A.off, none⟩) la c0) ∧ W.cell? ⟨KB, 1, none⟩ = some (.slice (some ⟨B.block, B.off, none⟩) lb c1) ∧ W.cell? ⟨A.block, A.off + i, none⟩ = some (.int .i64 (a : Int)) ∧ W.cell? ⟨B.block, B.off + j, none⟩ = some (.int .i64 (b : Int)))
    (first | assumption | go_keep)
    (first | (go_at_call 41; refine (HO.out _).mono ?_; rintro e w' ⟨rfl, rfl⟩))
  all_goals
    go_wp2
    refine bodyPost_ret (v := .agg #[.int .i64 (s1 + (popN 8 x0 : Int)), .int .i64 (s2 + 1)]) (by simp [results, Try.results50, go_sem]) rfl ⟨?_, (((Below.refl _ _).alloc (Nat.le_refl _) _).alloc (by simp) _).drew⟩
    unfold scv lnk
    rw [HBD.out]
end Go.Proofs.Ytdgkchdobmhpnaa
