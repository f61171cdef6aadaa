/- The contract of clock.Append. -/
import Derived.Test.YtlmgdofhmgpljaaSwpP
import Derived.Test.YtlmgdofhmgpljaaTab
import Derived.Test.YtlmgdofhmgpljaaProg
import Derived.StillTailTactics
import Derived.Deep.RegionHeld3
import Derived.Deep.DrawnRows
namespace Go.Proofs.Ytlmgdofhmgpljaa
open Go.RowKit Go.Dw
attribute [local go_sem ↓] Go.wp_at_zero Go.wp_at_succ

theorem info_spn : (Try.prog.info? 35).map (fun i => (i.zero, i.size, i.bytes)) = some (some (.agg #[.int .i64 0, .int .i64 0]), 2, 16) := by kernel_rfl
theorem own_set {w : World} {base e size g n cap : Nat} {xs : List Value} (h : w.ownsRow base e size (.slice (some ⟨g, 0, none⟩) n cap) n xs) (i : Nat) (u : Value) :
    (w.setCell ⟨g, i, none⟩ u).ownsRow base e size (.slice (some ⟨g, 0, none⟩) n cap) n (xs.set i u) := by
  obtain ⟨h1, h2⟩ := h
  refine ⟨by rw [List.length_set]; exact h1, ?_⟩
  rcases h2 with ⟨h2, _⟩ | ⟨g', cap', cur, hv, hb, hg, hn, hm, hs, ht⟩
  · cases h2
  · injection hv with hv1 hv2 hv3
    injection hv1 with hv1
    injection hv1 with hv1
    subst hv1 hv3
    refine .inr ⟨g, cap, cur.setIfInBounds i u, rfl, hb, ?_, hn, hm, by simpa using hs, ?_⟩
    · simp [World.setCell, Array.getElem?_modify, hg]
    · rw [← ht]; simp [List.take_set]
theorem own_some {w : World} {base e size n : Nat} {v : Value} {xs : List Value} (h : w.ownsRow base e size v n xs) (hn : 0 < n) : ∃ g cap, v = .slice (some ⟨g, 0, none⟩) n cap ∧ base ≤ g ∧ g < w.heap.size ∧ (∀ i, w.frozen? ⟨g, i, none⟩ = false) ∧ (∀ i u, xs[i]? = some u → w.cell? ⟨g, i, none⟩ = some u) := by
  rcases h.2 with ⟨_, rfl⟩ | ⟨g, cap, cur, rfl, hb, hg, _⟩
  · omega
  · refine ⟨g, cap, rfl, hb, (Array.getElem?_eq_some_iff.1 hg).1, fun i => by simp [World.frozen?, hg], fun i u hu => ?_⟩
    have := h.cells (g := g) rfl i u hu
    have hadd : (⟨g, 0, none⟩ : Addr).add i = ⟨g, i, none⟩ := by unfold Addr.add; split <;> simp_all
    rw [← hadd]; exact this
theorem pc_set_last (l : List Sp) (a b c : Int) : (pc (l ++ [(a, b)])).set (l.length * 2 + 1) (.int .i64 c) = pc (l ++ [(a, c)]) := by
  rw [pc_append, pc_append, List.set_append_right _ _ (by rw [pc_length]; omega), pc_length, show l.length * 2 + 1 - l.length * 2 = 1 by omega]
  rfl
theorem appS_join {l : List Sp} {a b : Int} {s : Sp} (h : s.1 ≤ b) : appS (l ++ [(a, b)]) s = l ++ [(a, max b s.2)] := by
  unfold appS; simp [h]
theorem appS_sep {l : List Sp} {a b : Int} {s : Sp} (h : ¬ s.1 ≤ b) : appS (l ++ [(a, b)]) s = l ++ [(a, b)] ++ [s] := by
  unfold appS; simp [h]
theorem pc_snoc1 (a : List (Int × Int)) (x y : Int) : pc (a ++ [(x, y)]) = pc a ++ [.int .i64 x, .int .i64 y] := by simp [pc]
/-- what Append leaves -/
def AppPost (base : Nat) (l : List Sp) (w : World) (e : Ending) (w' : World) : Prop :=
  ∃ v, e = .returned v ∧ w'.ownsRow base 35 2 v l.length (pc l) ∧ Below base w w'
theorem appPost_eq {base n : Nat} {l : List Sp} {w w' : World} {v : Value} (hn : n = l.length) (h : w'.ownsRow base 35 2 v n (pc l)) (hb : Below base w w') : AppPost base l w (.returned v) w' := by
  subst hn; exact ⟨v, rfl, h, hb⟩
set_option maxHeartbeats 2000000 in
theorem append_any (base : Nat) (v : Value) (l : List Sp) (s : Sp) (w : World) (hbase : base ≤ w.heap.size) (hl : l.length ≤ 1000000) (hown : w.ownsRow base 35 2 v l.length (pc l)) :
    Calls Try.prog 29 #[v, .agg #[.int .i64 s.1, .int .i64 s.2]] w (AppPost base (appS l s) w) := by
  obtain ⟨s1, s2⟩ := s
  simp only at *
  have hb0 : Below base w (w.alloc (.cells #[.int .i64 s1, .int .i64 s2] 35)) := (Below.refl _ _).alloc hbase _
  have hc0 : (w.alloc (.cells #[.int .i64 s1, .int .i64 s2] 35)).cell? ⟨w.heap.size, 0, none⟩ = some (.int .i64 s1) := new_cell (cs := [_, _]) rfl rfl
  have hc1 : (w.alloc (.cells #[.int .i64 s1, .int .i64 s2] 35)).cell? ⟨w.heap.size, 1, none⟩ = some (.int .i64 s2) := new_cell (cs := [_, _]) rfl rfl
  have HO0 := Lib.hid (hown.alloc (.cells #[.int .i64 s1, .int .i64 s2] 35))
  have hws : w.heap.size < (w.alloc (.cells #[.int .i64 s1, .int .i64 s2] 35)).heap.size := by simp
  obtain ⟨ii, hii, hzi0, hzi1, hzi2⟩ := info_parts info_spn
  have HII := Lib.hid (And.intro hii (And.intro hzi0 (And.intro hzi1 hzi2)))
  have HB0 := Lib.hid hb0
  clear hii hzi0 hzi1 hzi2 hb0
  obtain ⟨W0, hW0⟩ : ∃ W0, W0 = w.alloc (.cells #[.int .i64 s1, .int .i64 s2] 35) := ⟨_, rfl⟩
  rw [← hW0] at hc0 hc1 HO0 hws HB0
  have HW0 := Lib.hid hW0
  clear hW0 hown
  rcases List.eq_nil_or_concat l with rfl | ⟨l, ⟨a, b⟩, rfl⟩
  · have HAP : Hid (appS [] (s1, s2) = [(s1, s2)]) := rfl
    have j0 : decide ((0 : Int) ≤ -1) = false := by decide
    obtain ⟨A3, c3, rfl⟩ := slice_of_own HO0.out
    simp only [List.length_nil] at HO0 hl ⊢
    go_enter Try.func29, Try.ntmps29
    go_wp2_with fail
    rw [← HW0.out]
    go_quiet (fail)
    obtain ⟨W1, hW1⟩ : ∃ W1, W1 = W0.drewN nq := ⟨_, rfl⟩
    have HO1 : Hid (W1.ownsRow base 35 2 (.slice A3 0 c3) 0 (pc [])) := by rw [hW1]; exact own_drewN HO0.out nq
    have HB1 : Hid (Below base w W1) := by rw [hW1]; exact below_drewN HB0.out nq
    have d0 : W1.cell? ⟨w.heap.size, 0, none⟩ = some (.int .i64 s1) := by rw [hW1]; exact hc0
    have d1 : W1.cell? ⟨w.heap.size, 1, none⟩ = some (.int .i64 s2) := by rw [hW1]; exact hc1
    rw [← hW1]
    clear hW1 hc0 hc1 HO0
    go_wp2_with (at_builtin; refine wpList_append_own _ rfl _ _ 30 rfl base 35 ii _ 2 16 Try.underlying30 HII.out.1 HII.out.2.1 HII.out.2.2.1 HII.out.2.2.2 rfl (by decide) _ _ _ rfl (HO1.out.alloc _) ⟨W1.heap.size, 0, none⟩ 1 1 [.int .i64 s1, .int .i64 s2] (by rfl) (by rfl) (World.news_of_block (cs := #[.int .i64 s1, .int .i64 s2]) (t := 35) (fr := (0, 0)) (by exact heap_alloc_new W1 _)) (by simp [Value.oneCell']) (by unfold maxLen; omega) (by omega) (by have := HB1.out.size; simp; omega) ?_; intro v1 w5 hown5 hgrow5 _)
    have hB5 : Hid (Below base w w5) := below_app' HB1.out (Nat.le_trans hbase HB1.out.size) HO1.out hgrow5
    have hO5 : Hid (w5.ownsRow base 35 2 v1 1 (pc [(s1, s2)])) := hown5
    clear hown5 hgrow5
    go_wp2_with fail
    go_ret
    exact appPost_eq (n := 1) (by rw [HAP.out]; rfl) (by rw [HAP.out]; exact hO5.out) hB5.out
  · simp only [List.concat_eq_append] at *
    have hn : (l ++ [(a, b)]).length = l.length + 1 := by simp
    rw [hn] at HO0 hl
    obtain ⟨g, cap, rfl, hg1, hg2, hfz, hcl⟩ := own_some HO0.out (by omega)
    have hca := hcl (l.length * 2) (.int .i64 a) (by rw [pc_snoc1, List.getElem?_append_right (by rw [pc_length]; omega), pc_length]; simp)
    have hcb := hcl (l.length * 2 + 1) (.int .i64 b) (by rw [pc_snoc1, List.getElem?_append_right (by rw [pc_length]; omega), pc_length]; simp)
    have hfb := hfz (l.length * 2 + 1)
    clear hcl hfz hn
    have j0 : decide ((0 : Int) ≤ (l.length : Int)) = true := by simp
    have j1 : (l.length : Int) < ((l.length + 1 : Nat) : Int) := by omega
    have j2 : (l.length : Int) < (l.length : Int) + 1 := by omega
    have j3 : (0 : Int) ≤ (l.length : Int) := by omega
    by_cases hle : s1 ≤ b
    · have HAP : Hid (appS (l ++ [(a, b)]) (s1, s2) = l ++ [(a, max b s2)]) := appS_join hle
      have hd : decide (s1 ≤ b) = true := by simpa using hle
      go_enter Try.func29, Try.ntmps29
      go_wp2_with fail
      rw [← HW0.out]
      go_quiet (fail)
      obtain ⟨W1, hW1⟩ : ∃ W1, W1 = W0.drewN nq := ⟨_, rfl⟩
      have HO1 : Hid (W1.ownsRow base 35 2 (.slice (some ⟨g, 0, none⟩) (l.length + 1) cap) (l.length + 1) (pc (l ++ [(a, b)]))) := by rw [hW1]; exact own_drewN HO0.out nq
      have HB1 : Hid (Below base w W1) := by rw [hW1]; exact below_drewN HB0.out nq
      have d1 : W1.cell? ⟨w.heap.size, 1, none⟩ = some (.int .i64 s2) := by rw [hW1]; exact hc1
      have db : W1.cell? ⟨g, l.length * 2 + 1, none⟩ = some (.int .i64 b) := by rw [hW1]; exact hcb
      have df : W1.frozen? ⟨g, l.length * 2 + 1, none⟩ = false := by rw [hW1]; exact hfb
      rw [← hW1]
      clear hW1 hc0 hc1 hca hcb hfb HO0 HB0
      obtain ⟨z, hz⟩ : ∃ z, max b s2 = z := ⟨_, rfl⟩
      have HZ := Lib.hid hz
      clear hz
      by_cases hbs : b < s2
      · have hmx : max b s2 = s2 := by omega
        have HZ2 : Hid (z = s2) := by rw [← HZ.out]; exact hmx
        go_wp2_with fail
        go_still_tail 12, (by kernel_rfl)
        change wpList _ _ _ _ _ W1.drew
        go_wp2_with fail
        go_ret
        refine appPost_eq (n := l.length + 1) (by rw [HAP.out]; simp) ?_ ((HB1.out.setCell (p := ⟨g, l.length * 2 + 1, none⟩) hg1 _).drew)
        rw [HAP.out, ← pc_set_last l a b, HZ.out, HZ2.out]
        exact own_drewN (own_set HO1.out (l.length * 2 + 1) (.int .i64 s2)) 1
      · have hmx : max b s2 = b := by omega
        have HZ2 : Hid (z = b) := by rw [← HZ.out]; exact hmx
        go_wp2_with fail
        go_still_tail 12, (by kernel_rfl)
        change wpList _ _ _ _ _ W1.drew
        go_wp2_with fail
        go_ret
        refine appPost_eq (n := l.length + 1) (by rw [HAP.out]; simp) ?_ ((HB1.out.setCell (p := ⟨g, l.length * 2 + 1, none⟩) hg1 _).drew)
        rw [HAP.out, ← pc_set_last l a b, HZ.out, HZ2.out]
        exact own_drewN (own_set HO1.out (l.length * 2 + 1) (.int .i64 b)) 1
    · have HAP : Hid (appS (l ++ [(a, b)]) (s1, s2) = l ++ [(a, b)] ++ [(s1, s2)]) := appS_sep hle
      have hd : decide (s1 ≤ b) = false := by simpa using hle
      go_enter Try.func29, Try.ntmps29
      go_wp2_with fail
      rw [← HW0.out]
      go_quiet (fail)
      obtain ⟨W1, hW1⟩ : ∃ W1, W1 = W0.drewN nq := ⟨_, rfl⟩
      have HO1 : Hid (W1.ownsRow base 35 2 (.slice (some ⟨g, 0, none⟩) (l.length + 1) cap) (l.length + 1) (pc (l ++ [(a, b)]))) := by rw [hW1]; exact own_drewN HO0.out nq
      have HB1 : Hid (Below base w W1) := by rw [hW1]; exact below_drewN HB0.out nq
      have d0 : W1.cell? ⟨w.heap.size, 0, none⟩ = some (.int .i64 s1) := by rw [hW1]; exact hc0
      have d1 : W1.cell? ⟨w.heap.size, 1, none⟩ = some (.int .i64 s2) := by rw [hW1]; exact hc1
      rw [← hW1]
      clear hW1 hc0 hc1 hca hcb hfb HO0 HB0
      go_wp2_with (at_builtin; refine wpList_append_own _ rfl _ _ 30 rfl base 35 ii _ 2 16 Try.underlying30 HII.out.1 HII.out.2.1 HII.out.2.2.1 HII.out.2.2.2 rfl (by decide) _ _ _ rfl (HO1.out.alloc _) ⟨W1.heap.size, 0, none⟩ 1 1 [.int .i64 s1, .int .i64 s2] (by rfl) (by rfl) (World.news_of_block (cs := #[.int .i64 s1, .int .i64 s2]) (t := 35) (fr := (0, 0)) (by exact heap_alloc_new W1 _)) (by simp [Value.oneCell']) (by unfold maxLen; omega) (by omega) (by have := HB1.out.size; simp; omega) ?_; intro v1 w5 hown5 hgrow5 _)
      have hB5 : Hid (Below base w w5) := below_app' HB1.out (Nat.le_trans hbase HB1.out.size) HO1.out hgrow5
      have hO5 : Hid (w5.ownsRow base 35 2 v1 (l.length + 1 + 1) (pc (l ++ [(a, b)] ++ [(s1, s2)]))) := by
        show World.ownsRow _ _ _ _ _ _ _
        rw [pc_snoc1 (l ++ [(a, b)])]
        exact hown5
      clear hown5 hgrow5
      go_wp2_with fail
      go_ret
      exact appPost_eq (n := l.length + 1 + 1) (by rw [HAP.out]; simp) (by rw [HAP.out]; exact hO5.out) hB5.out
end Go.Proofs.Ytlmgdofhmgpljaa
