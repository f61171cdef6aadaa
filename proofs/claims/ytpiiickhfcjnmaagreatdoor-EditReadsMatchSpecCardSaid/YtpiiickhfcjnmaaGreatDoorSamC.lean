/- The contract of the reference's sameClip. -/
import Derived.Test.YtpiiickhfcjnmaaGreatDoorOrdR
import Derived.Test.YtpiiickhfcjnmaaGreatDoorPlnA
import Derived.Test.YtpiiickhfcjnmaaGreatDoorNumB
namespace Go.Proofs.YtpiiickhfcjnmaaGreatDoor
open Go.RowKit Go.Dw

theorem runNeP (pa qa : Int) (pn pd qn qd : ByteArray) (b : Bool) (hb : b = true ↔ pa = qa ∧ pn = qn ∧ pd = qd) (w : World) :
    Sem.run Tryz.prog (binOp .neq 70 (.agg #[.int .i64 pa, .string pn, .string pd]) (.agg #[.int .i64 qa, .string qn, .string qd])) w = .ok (.bool (!b)) w := by
  by_cases h1 : pa = qa
  · by_cases h2 : pn = qn
    · by_cases h3 : pd = qd
      · have : b = true := hb.2 ⟨h1, h2, h3⟩
        subst h1 h2 h3 this
        clear hb
        go_simp
      · have hf : b = false := by rw [Bool.eq_false_iff]; exact fun h => h3 (hb.1 h).2.2
        have s3 := seq_f h3
        subst h1 h2 hf
        clear hb h3
        go_simp
    · have hf : b = false := by rw [Bool.eq_false_iff]; exact fun h => h2 (hb.1 h).2.1
      have s2 := seq_f h2
      subst h1 hf
      clear hb h2
      go_simp
  · have hf : b = false := by rw [Bool.eq_false_iff]; exact fun h => h1 (hb.1 h).1
    subst hf
    clear hb
    have s1 : (pa == qa) = false := by simpa using h1
    go_simp
theorem cli_eq {a b : Cli} (h : cmpK a b = 0) (he : a.e = b.e) : a = b := by
  obtain ⟨h1, h2, h3, h4, h5, h6⟩ := cmpK_zero h
  cases a; cases b
  simp only at h1 h2 h3 h4 h5 h6 he
  subst h1 h2 h3 h4 h5 h6 he
  rfl
set_option maxRecDepth 100000 in
set_option maxHeartbeats 8000000 in
theorem sameClip_any (x y : CliM) (q : Bool) (hq : q = true ↔ x.x = y.x) (w : World) (hx : CliOk w x) (hy : CliOk w y) :
    Calls Tryz.prog 138 #[x.v, y.v] w fun e w' => e = .returned (.bool q) ∧ Gq w w' := by
  have HO : Hid (∀ W : World, Calls Tryz.prog 80 #[x.v, y.v] W fun e w' => e = .returned (.int .i64 (cmpK x.x y.x)) ∧ Below W.heap.size W w') := fun W => order_any x y W
  obtain ⟨r, hr⟩ : ∃ r, cmpK x.x y.x = r := ⟨_, rfl⟩
  rw [hr] at HO
  have HQ1 : Hid (r ≠ 0 → q = false) := fun h => by
    rw [Bool.eq_false_iff]; intro hh
    have := hq.1 hh
    rw [this, cmpK_refl] at hr
    exact h hr.symm
  have HQ2 : Hid (∀ k (h1 : k < x.e.xs.length) (h2 : k < y.e.xs.length), x.e.xs[k] ≠ y.e.xs[k] → q = false) := fun k h1 h2 h => by
    rw [Bool.eq_false_iff]; intro hh
    have h3 : x.e.xs = y.e.xs := congrArg Cli.e (hq.1 hh)
    exact h (by simp only [h3])
  have HQ3 : Hid (x.e.xs.length ≠ y.e.xs.length → q = false) := fun h => by
    rw [Bool.eq_false_iff]; intro hh
    have h3 : x.e.xs = y.e.xs := congrArg Cli.e (hq.1 hh)
    exact h (by rw [h3])
  have HQ4 : Hid (r = 0 → x.e.xs = y.e.xs → q = true) := fun h he => hq.2 (cli_eq (by rw [hr]; exact h) he)
  have HRX := Lib.hid hx.er
  have HRY := Lib.hid hy.er
  have hlx := hx.el
  have hly := hy.el
  clear hq hr hx hy
  obtain ⟨xm, xc, xf, xt, xa, xl, ⟨xA, xk, xe⟩⟩ := x
  obtain ⟨ym, yc, yf, yt, ya, yl, ⟨yA, yk, ye⟩⟩ := y
  simp only [CliM.v, Slc.v] at *
  obtain ⟨w1, hw1⟩ : ∃ w1, w1 = (w.alloc (.cells #[.string xm, .int .i64 xc, .int .i64 xf, .int .i64 xt, .int .i64 xa, .int .i64 xl, .slice xA xe.length xk] 36)).alloc (.cells #[.string ym, .int .i64 yc, .int .i64 yf, .int .i64 yt, .int .i64 ya, .int .i64 yl, .slice yA ye.length yk] 36) := ⟨_, rfl⟩
  have HB : Hid (Gq w w1) := by rw [hw1]; exact ((Gq.refl _).alloc _).alloc _
  have HK : Hid (Blk w1 w.heap.size 36 [.string xm, .int .i64 xc, .int .i64 xf, .int .i64 xt, .int .i64 xa, .int .i64 xl, .slice xA xe.length xk] ∧ Blk w1 (w.heap.size + 1) 36 [.string ym, .int .i64 yc, .int .i64 yf, .int .i64 yt, .int .i64 ya, .int .i64 yl, .slice yA ye.length yk]) := by
    have k1 := Blk.new w 36 [.string xm, .int .i64 xc, .int .i64 xf, .int .i64 xt, .int .i64 xa, .int .i64 xl, .slice xA xe.length xk]
    have k2 := Blk.new (w.alloc (.cells #[.string xm, .int .i64 xc, .int .i64 xf, .int .i64 xt, .int .i64 xa, .int .i64 xl, .slice xA xe.length xk] 36)) 36 [.string ym, .int .i64 yc, .int .i64 yf, .int .i64 yt, .int .i64 ya, .int .i64 yl, .slice yA ye.length yk]
    have e2 : (w.alloc (.cells #[.string xm, .int .i64 xc, .int .i64 xf, .int .i64 xt, .int .i64 xa, .int .i64 xl, .slice xA xe.length xk] 36)).heap.size = w.heap.size + 1 := by simp
    rw [e2] at k2
    rw [hw1]
    exact ⟨k1.same (Same.alloc (S := fun _ => True) _ _) trivial, k2⟩
  have HW := Lib.hid hw1
  have HS : Hid (∀ W, Gq w1 W → W.cell? ⟨w.heap.size, 0, none⟩ = some (.string xm) ∧ W.cell? ⟨w.heap.size, 1, none⟩ = some (.int .i64 xc) ∧ W.cell? ⟨w.heap.size, 2, none⟩ = some (.int .i64 xf) ∧ W.cell? ⟨w.heap.size, 3, none⟩ = some (.int .i64 xt) ∧ W.cell? ⟨w.heap.size, 4, none⟩ = some (.int .i64 xa) ∧ W.cell? ⟨w.heap.size, 5, none⟩ = some (.int .i64 xl) ∧ W.cell? ⟨w.heap.size, 6, none⟩ = some (.slice xA xe.length xk)
    ∧ W.cell? ⟨w.heap.size + 1, 0, none⟩ = some (.string ym) ∧ W.cell? ⟨w.heap.size + 1, 1, none⟩ = some (.int .i64 yc) ∧ W.cell? ⟨w.heap.size + 1, 2, none⟩ = some (.int .i64 yf) ∧ W.cell? ⟨w.heap.size + 1, 3, none⟩ = some (.int .i64 yt) ∧ W.cell? ⟨w.heap.size + 1, 4, none⟩ = some (.int .i64 ya) ∧ W.cell? ⟨w.heap.size + 1, 5, none⟩ = some (.int .i64 yl) ∧ W.cell? ⟨w.heap.size + 1, 6, none⟩ = some (.slice yA ye.length yk)) := fun W hW => by
    have k1 := HK.out.1.same (Same.of_below (S := fun _ => True) hW) trivial
    have k2 := HK.out.2.same (Same.of_below (S := fun _ => True) hW) trivial
    exact ⟨k1.cell 0, k1.cell 1, k1.cell 2, k1.cell 3, k1.cell 4, k1.cell 5, k1.cell 6, k2.cell 0, k2.cell 1, k2.cell 2, k2.cell 3, k2.cell 4, k2.cell 5, k2.cell 6⟩
  obtain ⟨a0, a1, a2, a3, a4, a5, a6, b0, b1, b2, b3, b4, b5, b6⟩ := HS.out w1 (Gq.refl _)
  clear hw1
  go_enter Tryz.func138, Tryz.ntmps138
  go_upto_region 1 with (fail)
  rw [← HW.out]
  go_wp2_with fail
  refine (HO.out w1).mono ?_
  rintro e w2 ⟨rfl, hb2⟩
  have HG2 : Hid (Gq w1 w2) := hb2
  have HGW : Hid (Gq w w2) := HB.out.trans hb2
  clear hb2 a0 a1 a2 a3 a4 a5 a6 b0 b1 b2 b3 b4 b5 b6
  obtain ⟨a0, a1, a2, a3, a4, a5, a6, b0, b1, b2, b3, b4, b5, b6⟩ := HS.out w2 HG2.out
  clear a0 a1 a2 a3 a4 a5 b0 b1 b2 b3 b4 b5
  by_cases h0 : r = 0
  case neg =>
    have HE := Lib.hid (HQ1.out h0)
    have hd : (r != 0) = true := by simpa using h0
    clear h0
    go_wp2_with fail
    go_ret
    exact ⟨ret_bool HE.out.symm, HGW.out⟩
  subst h0
  by_cases hl : xe.length = ye.length
  case neg =>
    have HE := Lib.hid (HQ3.out hl)
    have hd : ((xe.length : Int) != (ye.length : Int)) = true := by simp; omega
    clear hl
    go_wp2_with fail
    go_ret
    exact ⟨ret_bool HE.out.symm, HGW.out⟩
  have hd : ((xe.length : Int) != (ye.length : Int)) = false := by simp; omega
  have HL : Hid (xe.length = ye.length) := hl
  clear hl
  go_wp2_with fail
  go_loopw [5] (fun iv wr => ∃ k : Nat, k ≤ xe.length ∧ iv = .int .i64 (k : Int) ∧ Hid (xe.take k = ye.take k) ∧ Hid (Gq w2 wr)) (fun iv _ => xe.length - (intOf iv).toNat)
  case atStart => exact ⟨0, Nat.zero_le _, rfl, rfl, Gq.refl _⟩
  case round =>
    obtain ⟨k, hk, rfl, HT, HGR⟩ := hrel
    clear a6 b6
    obtain ⟨-, -, -, -, -, -, a6, -, -, -, -, -, -, b6⟩ := HS.out wr (HG2.out.trans HGR.out)
    by_cases hlt : k < xe.length
    case neg =>
      have hd1 : decide (k < xe.length) = false := by simpa using hlt
      have HE : Hid (q = true) := HQ4.out (by first | trivial | rfl) (by
        have := HT.out
        rwa [List.take_of_length_le (by omega), List.take_of_length_le (by have := HL.out; omega)] at this)
      go_wp2_with fail
      go_ret
      exact ⟨ret_bool HE.out.symm, HGW.out.trans HGR.out⟩
    have hd1 : decide (k < xe.length) = true := by simpa using hlt
    have hlt2 : k < ye.length := by have := HL.out; omega
    obtain ⟨b, off, hA, hbb, hc⟩ := pnt_at (HRX.out.below (HGW.out.trans HGR.out)) (by omega)
    obtain rfl : xA = some ⟨b, off, none⟩ := hA
    obtain ⟨b2, off2, hA2, hbb2, hc2⟩ := pnt_at (HRY.out.below (HGW.out.trans HGR.out)) (by omega)
    obtain rfl : yA = some ⟨b2, off2, none⟩ := hA2
    obtain ⟨p0, p1, p2⟩ := hc k hlt
    obtain ⟨q0, q1, q2⟩ := hc2 k hlt2
    obtain ⟨eq, heq⟩ : ∃ eq : Bool, eq = true ↔ xe[k].at_ = ye[k].at_ ∧ xe[k].n = ye[k].n ∧ xe[k].d = ye[k].d := by
      refine ⟨decide (xe[k].at_ = ye[k].at_) && decide (xe[k].n = ye[k].n) && decide (xe[k].d = ye[k].d), ?_⟩
      simp [and_assoc]
    have hne := runNeP _ _ _ _ _ _ eq heq
    have HN := Lib.hid (HQ2.out k hlt hlt2)
    have HEQ : Hid (eq = true → xe[k] = ye[k]) := fun h => by
      obtain ⟨h1, h2, h3⟩ := heq.1 h
      generalize xe[k] = u at *
      generalize ye[k] = v at *
      cases u; cases v; simp only at h1 h2 h3; subst h1 h2 h3; rfl
    have HNE : Hid (eq = false → xe[k] ≠ ye[k]) := fun h e => by
      have : eq = true := heq.2 ⟨by rw [e], by rw [e], by rw [e]⟩
      rw [h] at this; cases this
    have HTK : Hid (xe[k] = ye[k] → xe.take (k + 1) = ye.take (k + 1)) := fun h => by
      rw [List.take_succ_eq_append_getElem hlt, List.take_succ_eq_append_getElem hlt2, HT.out, h]
    have hik : (0 : Int) ≤ (k : Int) := by omega
    have hik1 : (k : Int) < (xe.length : Int) := by omega
    have hik2 : (k : Int) < (ye.length : Int) := by omega
    clear heq hc hc2
    generalize xe[k] = u at *
    generalize ye[k] = v at *
    cases eq with
    | false =>
      have HE := Lib.hid (HN.out (HNE.out rfl))
      go_wp2_with fail
      go_quiet (fail)
      go_wp2
      go_ret
      exact ⟨ret_bool HE.out.symm, below_drewN (HGW.out.trans HGR.out) _⟩
    | true =>
      have HE := Lib.hid (HTK.out (HEQ.out rfl))
      go_wp2_with fail
      go_quiet (fail)
      go_wp2
      go_roundw
      case rel => exact ⟨k + 1, by omega, by go_num, HE, below_drewN HGR.out _⟩
      case measure => simp [intOf]; omega
end Go.Proofs.YtpiiickhfcjnmaaGreatDoor
