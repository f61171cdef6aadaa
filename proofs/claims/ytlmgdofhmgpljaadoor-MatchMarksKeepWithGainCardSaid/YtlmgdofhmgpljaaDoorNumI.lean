/- The contract of the reference's Int; numbers out of ratios' texts. -/
import Derived.Test.YtlmgdofhmgpljaaDoorLow
import Derived.Test.YtlmgdofhmgpljaaDoorFmt
import Derived.Test.YtlmgdofhmgpljaaDoorValP
namespace Go.Proofs.YtlmgdofhmgpljaaDoor
open Go.RowKit Go.Dw
attribute [local go_sem ↓] Go.wp_at_zero Go.wp_at_succ

theorem wrap_ng1 {n : Int} (h : -9223372036854775808 ≤ n ∧ n < 0) : IntKind.u64.wrap n = n + 18446744073709551616 := by
  unfold IntKind.wrap
  simp [IntKind.signed, IntKind.bits]
  omega
theorem wrap_ng2 {n : Int} (h : -9223372036854775808 ≤ n ∧ n < 0) : IntKind.u64.wrap (-(n + 18446744073709551616)) = -n := by
  unfold IntKind.wrap
  simp [IntKind.signed, IntKind.bits]
  omega
set_option maxRecDepth 100000 in
set_option maxHeartbeats 8000000 in
theorem intQ_any (n : Int) (w : World) (hn : inI64 n) (hp : HasPow w) :
    Calls Tryd.prog 18 #[.int .i64 n] w (NumRes (mkRat n 1) w) := by
  obtain ⟨hn1, hn2⟩ := hn
  obtain ⟨w1, hw1⟩ : ∃ w1, w1 = w.alloc (.cells #[.bool false, .slice none 0 0, .slice none 0 0] 48) := ⟨_, rfl⟩
  have HE : Hid (NumE w w1 w.heap.size) := by rw [hw1]; exact numE_new w
  have HW1 := Lib.hid hw1
  clear hw1
  obtain ⟨u, hu⟩ : ∃ u : Nat, u = n.natAbs := ⟨_, rfl⟩
  obtain ⟨d1, d2, d3, d4⟩ := dec_facts u
  have dl := dec_len 20 u (by omega) (by omega)
  obtain ⟨s, hs⟩ : ∃ s : ByteArray, s = ⟨(Lib.decDigits u).toArray⟩ := ⟨_, rfl⟩
  have hsl : s.data.toList = Lib.decDigits u := by rw [hs]
  have hsz : s.size ≤ 20 := by
    have : s.data.toList.length = s.size := by rw [Array.length_toList]; rfl
    rw [← this, hsl]; exact dl
  have HFU : Hid (Calls Tryd.prog 33 #[.int .u64 (u : Int), .int .i64 10] w1 fun e w' => e = .returned (.string s) ∧ Gq w1 w') := by
    rw [hs]; exact fmtU_any u w1 (by omega) (hp.below HE.out.bel)
  have HLM : Hid (∀ W, Calls Tryd.prog 28 #[.string s] W (LimF u W)) := fun W => by
    have := limbsR_any s W (by rw [hsl]; exact d1) (by omega)
    rw [hsl, d2] at this
    exact this
  have hl2 : Lim 2 u := by
    unfold Lim
    have : W32 ^ 2 = 18446744073709551616 := by decide
    omega
  have h11 : Lim 2 1 := by
    unfold Lim
    have : W32 ^ 2 = 18446744073709551616 := by decide
    omega
  have HLW : Hid (∀ W va, LimV W va u → Calls Tryd.prog 31 #[.bool (decide (n < 0)), va, .slice (some ⟨W.heap.size, 0, none⟩) 1 1] (W.alloc (.cells #[.int .i64 1] 3)) (NumRes (mkRat n 1) (W.alloc (.cells #[.int .i64 1] 3)))) := fun W va h =>
    lowestR_any (decide (n < 0)) va _ u 1 n _ (h.below ((Gq.refl _).alloc _)) (lim_one W) (by omega) hu.symm (fun _ => rfl) 2 hl2 h11 (by omega)
  obtain ⟨x0, x1, x2, q0, q1, q2, q3, q4, q5⟩ := HE.out.cells (Gq.refl _)
  have hmain : (∃ b, decide (n < 0) = b ∧ ((b = true ∧ IntKind.u64.wrap n = n + 18446744073709551616 ∧ IntKind.u64.wrap (-(n + 18446744073709551616)) = (u : Int)) ∨ (b = false ∧ IntKind.u64.wrap n = (u : Int)))) := by
    by_cases h0 : n < 0
    · exact ⟨true, decide_eq_true h0, .inl ⟨rfl, wrap_ng1 ⟨hn1, h0⟩, by rw [wrap_ng2 ⟨hn1, h0⟩]; omega⟩⟩
    · refine ⟨false, decide_eq_false h0, .inr ⟨rfl, ?_⟩⟩
      rw [show n = (u : Int) by omega]; exact IntWalk.u64_in _ (by omega)
  obtain ⟨b, hb, hbw⟩ := hmain
  rw [hb] at HLW
  clear hs hsl hsz hl2 h11 d1 d2 d3 d4 dl hp hu
  rcases hbw with ⟨rfl, hv1, hv2⟩ | ⟨rfl, hv1⟩
  all_goals
    go_enter Tryd.func18, Tryd.ntmps18
    go_upto_region 1 with (fail)
    rw [← HW1.out]
    go_wp2_with fail
    refine HFU.out.mono ?_
    rintro e w2 ⟨rfl, hg2⟩
    have HG2 : Hid (Gq w1 w2) := hg2
    clear hg2
    go_wp2_with fail
    refine (HLM.out w2).mono ?_
    rintro e w3 ⟨v, rfl, hv, -, hb3⟩
    have HG3 : Hid (Gq w1 w3) := HG2.out.trans hb3
    have HLX := Lib.hid (HLW.out w3 v hv)
    clear hv hb3
    go_wp2_with fail
    refine HLX.out.mono ?_
    rintro e w4 ⟨v4, rfl, hv4, hb4⟩
    obtain ⟨A, L, c, B, M, d, rfl, -, -⟩ := num_agg hv4
    have HG4 : Hid (Gq w1 w4) := HG3.out.trans (((Gq.refl _).alloc _).trans hb4)
    obtain ⟨y0, y1, y2, r0, r1, r2, r3, r4, r5⟩ := HE.out.cells HG4.out
    obtain ⟨k2, k3, k4⟩ := HE.out.stored HG4.out (.bool (decide ((mkRat n 1).num < 0))) (.slice A L c) (.slice B M d)
    have HQ := Lib.hid (HE.out.end_ HG4.out _ _ _ hv4)
    clear hv4 hb4 HLX
    generalize decide ((mkRat n 1).num < 0) = sg at *
    go_wp2_with fail
    exact bodyPost_ret (v := .agg #[.bool sg, .slice A L c, .slice B M d]) (by simp [results, Tryd.results18, go_sem, k2, k3, k4]) rfl HQ.out
theorem numQ_of {w : World} {v : Value} {n d : ByteArray} (hf : ratF n d = 0) (h : NumR w v (sgT n) (valD (boT n)) (valD d.data.toList)) : NumQ w v (mkRat (numZ n) (valD d.data.toList)) := by
  obtain ⟨h1, h2, _⟩ := ratQ_low hf
  unfold NumQ
  rw [h1, h2, numZ_abs, numZ_neg]
  have hr := ratR_of hf
  have e : (sgT n && decide (0 < valD (boT n))) = sgT n := by
    cases hs : sgT n
    · rfl
    · rw [decide_eq_true (hr.z hs)]; rfl
  rw [e]; exact h
theorem mk_int (n : Int) : (mkRat n 1).num = n ∧ (mkRat n 1).den = 1 := mk_id (by omega) (by simp)
end Go.Proofs.YtlmgdofhmgpljaaDoor
