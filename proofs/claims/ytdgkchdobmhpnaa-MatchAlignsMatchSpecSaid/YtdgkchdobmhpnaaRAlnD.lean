/- The contract of the reference's Align. -/
import Derived.Test.YtdgkchdobmhpnaaRAlnC
namespace Go.Proofs.Ytdgkchdobmhpnaa
open Go.RowKit Go.Dw
attribute [local go_sem ↓] Go.wp_at_zero Go.wp_at_succ

set_option maxRecDepth 100000 in
set_option maxHeartbeats 2000000 in
theorem ralign_any (Aa Ab : Option Addr) (ca cb : Nat) (a b : List Int) (g : Int) (w : World) (ha : Rd w Aa (ic a)) (hb : Rd w Ab (ic b)) (hna : a.length ≤ 9223372036854775807) (hnb : b.length ≤ 9223372036854775807) :
    Calls Try.prog 26 #[.slice Aa a.length ca, .slice Ab b.length cb, .int .i64 g] w (ARes w a b g) := by
  have HCK := Lib.hid (rlists_any Aa Ab ca cb a b g w ha hb hna hnb)
  go_enter Try.func26, Try.ntmps26
  go_wp2_with fail
  refine HCK.out.mono ?_
  rintro e w1 ⟨rfl, rfl⟩
  by_cases hz : chA a b g = 0
  case neg =>
    have hzb : (chA a b g != 0) = true := by simpa using hz
    have HZ := Lib.hid hz
    clear hz
    go_wp2_with fail
    go_ret3
    exact ⟨none, 0, [], 0, chA a b g, .inl ⟨HZ.out, rfl, rfl, rfl⟩, rfl, .inl rfl, Below.refl _ _⟩
  have hzb : (chA a b g != 0) = false := by simpa using hz
  obtain ⟨hz1, hz2, hl1, hl2, hg1, hg2⟩ := chA_zero hz
  have HZ := Lib.hid hz
  have HFINE : Hid (Two.Fine ⟨Aa, ca, a, Ab, cb, b, g⟩) := ⟨hl1, hl2, hg1, hg2, (chkA_zero hz1).2, (chkA_zero hz2).2⟩
  have HFILL := Lib.hid (rtable_any ⟨Aa, ca, a, Ab, cb, b, g⟩ w ha hb HFINE.out)
  have HA := Lib.hid ha
  have HB := Lib.hid hb
  obtain ⟨ii, hii, hzi0, hzi1, hzi2⟩ := info_parts info_l
  have HII := Lib.hid (And.intro hii (And.intro hzi0 (And.intro hzi1 hzi2)))
  clear hz hz1 hz2 ha hb hii hzi0 hzi1 hzi2 HCK
  go_wp2_with fail
  refine HFILL.out.mono ?_
  rintro e w3 ⟨rfl, B, arr, hinv⟩
  have HB3 := Lib.hid hinv.1
  have HINV : Hid (∀ W, Below w3.heap.size w3 W → TInv w ⟨Aa, ca, a, Ab, cb, b, g⟩ 0 B arr W) := fun W hW => hinv.below (hW.mono hinv.2.2.1)
  clear hinv HFILL
  go_wp2_with fail
  go_loopw [11, 12, 13] (fun v iv jv wr => ∃ (l : List (Int × Int)) (i j : Nat), i ≤ a.length ∧ j ≤ b.length ∧ iv = .int .i64 (i : Int) ∧ jv = .int .i64 (j : Int) ∧ l.length ≤ i ∧ Hid (Sofar g a b i j l) ∧ wr.ownsRow w3.heap.size 52 2 v l.length (pc l) ∧ Below w3.heap.size w3 wr) (fun _ iv _ _ => a.length - (intOf iv).toNat)
  case atStart => exact ⟨[], 0, 0, Nat.zero_le _, Nat.zero_le _, rfl, rfl, Nat.le_refl _, Sofar.start, ⟨rfl, .inl ⟨rfl, rfl⟩⟩, Below.refl _ _⟩
  case round =>
    obtain ⟨l, i, j, hi, hj, rfl, rfl, hll, HSO, hown, hB⟩ := hrel
    have hAI := HINV.out wr hB
    obtain ⟨b3, off3, cc3, e1, e2⟩ := hAI.entry (s := i) (j := j) (Nat.zero_le _) hi hj
    have hte := te_none HFINE.out i j hi hj
    have hr0 := rc0_bd HFINE.out i j hi hj
    simp only [rc0] at hr0 hte
    simp only at e1 e2 hr0 hte
    have hB2 : Below w.heap.size w wr := HB3.out.trans (hB.mono HB3.out.size)
    by_cases h0 : 0 < (bst g a b i j).2
    · have HNX := Lib.hid (rfirst_any ⟨Aa, ca, a, Ab, cb, b, g⟩ w wr B arr i j hAI (HA.out.below hB2) (HB.out.below hB2) HFINE.out hi hj h0)
      have H0 := Lib.hid h0
      have HOWN := Lib.hid hown
      have HB := Lib.hid hB
      have hne : (te ⟨Aa, ca, a, Ab, cb, b, g⟩ i j == g * 1000 * ((a.length : Int) - i + b.length - j)) = false := by
        rw [beq_eq_false_iff_ne]
        intro hh
        have := hte.1 hh
        omega
      generalize te ⟨Aa, ca, a, Ab, cb, b, g⟩ i j = t at *
      clear hown hB hAI hte hB2
      go_wp2_with fail
      refine HNX.out.mono ?_
      rintro e w4 ⟨p, q, hnx, rfl, hb4⟩
      simp only at hnx
      obtain ⟨n1, n2, n3, n4, _⟩ := id hnx
      have HSO2 := Lib.hid (HSO.out.step H0.out hnx)
      have hown4 := own_below HOWN.out hb4
      have hB4 : Below w3.heap.size w3 w4 := HB.out.trans (hb4.mono HB.out.size)
      have hsz4 : w3.heap.size ≤ w4.heap.size := hB4.size
      obtain ⟨hii, hzi0, hzi1, hzi2⟩ := HII.out
      clear hnx hb4 e1 e2
      go_wp2_with (at_builtin; refine wpList_append_own _ rfl _ _ 31 rfl w3.heap.size 52 ii _ 2 16 Try.underlying31 hii hzi0 hzi1 hzi2 rfl (by decide) _ _ _ rfl ((hown4.alloc _).alloc _) ⟨w4.heap.size + 1, 0, none⟩ 1 1 [.int .i64 (p : Int), .int .i64 (q : Int)] (by rfl) (by rfl) (World.news_of_block (cs := #[.int .i64 (p : Int), .int .i64 (q : Int)]) (t := 52) (fr := (0, 0)) (by simpa using heap_alloc_new (w4.alloc _) _)) (by simp [Value.oneCell']) (by unfold maxLen; omega) (by omega) (by simp; omega) ?_; intro v1 w5 hown5 hgrow5 _)
      have hB5 := below_app2 hB4 hsz4 hown4 hgrow5
      have hbk : Blk w5 w4.heap.size 52 [.int .i64 (p : Int), .int .i64 (q : Int)] :=
        box_after (cs := [.int .i64 (p : Int), .int .i64 (q : Int)]) hown4 hgrow5
      have y0 := hbk.cell 0
      have y1 := hbk.cell 1
      simp only [List.getElem?_cons_zero, List.getElem?_cons_succ] at y0 y1
      have HOWN5 := Lib.hid hown5
      have HB5 := Lib.hid hB5
      clear hgrow5 hown5 hB5 hbk hown4 hB4 hii hzi0 hzi1 hzi2
      have hw1 : IntKind.i64.wrap ((p : Int) + 1) = (p : Int) + 1 := IntWalk.i64_in _ (by omega)
      have hw2 : IntKind.i64.wrap ((q : Int) + 1) = (q : Int) + 1 := IntWalk.i64_in _ (by omega)
      go_quiet (fail)
      clear hw1 hw2
      go_wp2_with fail
      go_roundw
      case rel => exact ⟨l ++ [((p : Int), (q : Int))], p + 1, q + 1, by omega, by omega, by go_num, by go_num, by simp; omega, HSO2.out, owns_eq HOWN5.out (by simp) (by rw [pc_append]; rfl), below_drewN HB5.out _⟩
      case measure => simp [intOf]; omega
    · have hfit := HFINE.out.bd i j
      simp only at hfit
      have hL0 : (bst g a b i j).2 = 0 := by omega
      have hpath := HSO.out.fin hL0
      have hlen := hpath.len
      have HP := Lib.hid hpath
      have heq : (te ⟨Aa, ca, a, Ab, cb, b, g⟩ i j == g * 1000 * ((a.length : Int) - i + b.length - j)) = true := by
        rw [beq_iff_eq]; exact hte.2 hL0
      obtain ⟨b4, off4, cc4, q1, q2⟩ := hAI.entry (s := 0) (j := 0) (Nat.zero_le _) (Nat.zero_le _) (Nat.zero_le _)
      simp only [Nat.add_zero] at q1 q2
      have hfit0 := HFINE.out.bd 0 0
      simp only at hfit0
      have hte0 : te ⟨Aa, ca, a, Ab, cb, b, g⟩ 0 0 + (l.length : Int) = 1000 * (bst g a b 0 0).1 := by
        unfold te enc1; simp only; omega
      have htb := te_bd HFINE.out 0 0
      have hdiv : (te ⟨Aa, ca, a, Ab, cb, b, g⟩ 0 0 + (l.length : Int)) / 1000 = (bst g a b 0 0).1 := by rw [hte0]; omega
      have HD := Lib.hid hdiv
      have HBF := Lib.hid hB2
      obtain ⟨A2, c2, rfl⟩ := slice_of_own hown
      have HRD := Lib.hid (Rd.of_own hown)
      have hge : 0 ≤ te ⟨Aa, ca, a, Ab, cb, b, g⟩ 0 0 + (l.length : Int) := by omega
      generalize te ⟨Aa, ca, a, Ab, cb, b, g⟩ i j = t at *
      generalize te ⟨Aa, ca, a, Ab, cb, b, g⟩ 0 0 = t0 at *
      have hw1 : IntKind.i64.wrap (t0 + (l.length : Int)) = t0 + (l.length : Int) := IntWalk.i64_in _ (by omega)
      clear hL0 hAI hown hB hB2 hte hpath hlen hte0 hdiv
      go_wp2_with fail
      go_quiet (fail)
      go_wp2_with fail
      go_ret3
      exact ⟨A2, c2, l, _, 0, .inr ⟨HZ.out, HP.out, HD.out, rfl⟩, rfl, HRD.out, below_drewN HBF.out _⟩
end Go.Proofs.Ytdgkchdobmhpnaa
