/- The contract of the reference's first. -/
import Derived.Test.YtdgkchdobmhpnaaRAlnB
namespace Go.Proofs.Ytdgkchdobmhpnaa
open Go.RowKit Go.Dw
attribute [local go_sem ↓] Go.wp_at_zero Go.wp_at_succ

def FRes (w : World) (x : Two) (i j : Nat) (e : Ending) (w' : World) : Prop :=
  ∃ p q : Nat, Nxt x.g x.a x.b i j p q ∧ e = .returned (.tuple #[.agg #[.int .i64 (p : Int), .int .i64 (q : Int)], .bool true]) ∧ Below w.heap.size w w'

theorem marks_at {w : World} {A : Option Addr} {xs : List Int} (h : Rd w A (ic xs)) (hn : 0 < xs.length) : ∃ b off, A = some ⟨b, off, none⟩ ∧ b < w.heap.size ∧ ∀ i, i < xs.length → w.cell? ⟨b, off + i, none⟩ = some (.int .i64 (xs.getD i 0)) := by
  obtain ⟨b, off, rfl, hb, hc⟩ := h.at_ (by rw [ic_length]; omega)
  refine ⟨b, off, rfl, hb, fun i hi => ?_⟩
  rw [hc i _ (ic_at _ i hi), List.getD_eq_getElem?_getD, List.getElem?_eq_getElem hi]; rfl
set_option maxRecDepth 100000 in
set_option maxHeartbeats 2000000 in
theorem rfirst_any (x : Two) (w0 w : World) (B : Nat) (arr : List Value) (i j : Nat) (hinv : TInv w0 x 0 B arr w) (ha : Rd w x.Aa (ic x.a)) (hb : Rd w x.Ab (ic x.b)) (hf : x.Fine) (hi : i ≤ x.a.length) (hj : j ≤ x.b.length) (hl : 0 < (bst x.g x.a x.b i j).2) :
    Calls Try.prog 45 #[.slice x.Aa x.a.length x.ca, .slice x.Ab x.b.length x.cb, .slice (some ⟨w0.heap.size, 0, none⟩) (x.a.length + 1) (x.a.length + 1), .int .i64 x.g, .int .i64 (i : Int), .int .i64 (j : Int)] w (FRes w x i j) := by
  obtain ⟨f1, f2, f3, f4, hma, hmb⟩ := id hf
  have HEX := Lib.hid (hit_some (g := x.g) (a := x.a) (b := x.b) hl)
  have HF := Lib.hid hf
  have HMA := Lib.hid hma
  have HMB := Lib.hid hmb
  have hbw : Below w.heap.size w (w.alloc (.cells #[.int .i64 0, .int .i64 0] 52)) := (Below.refl _ _).alloc (Nat.le_refl _) _
  have HINV := Lib.hid (hinv.below (hbw.mono hinv.2.2.1))
  have hpos : 0 < x.a.length ∧ 0 < x.b.length := by
    obtain ⟨p, q, h1, h2, h3, h4, _⟩ := HEX.out
    omega
  obtain ⟨ba, oa, hAa, _, hac0⟩ := marks_at (ha.below hbw) hpos.1
  obtain ⟨bb, ob, hAb, _, hbc0⟩ := marks_at (hb.below hbw) hpos.2
  have HA := Lib.hid hac0
  have HB := Lib.hid hbc0
  rw [hAa, hAb]
  have hbk : Blk (w.alloc (.cells #[.int .i64 0, .int .i64 0] 52)) w.heap.size 52 [.int .i64 0, .int .i64 0] := Blk.new w _ _
  have HBW := Lib.hid hbw
  have HBK := Lib.hid hbk
  clear hinv ha hb hf hma hmb hbw hbk hl hac0 hbc0 hAa hAb hpos
  go_enter Try.func45, Try.ntmps45
  go_wp2_with fail
  have HSZ : Hid ((w.alloc (.cells #[.int .i64 0, .int .i64 0] 52)).heap.size = w.heap.size + 1) := by show _ = _; simp
  generalize w.alloc (.cells #[.int .i64 0, .int .i64 0] 52) = w1 at *
  go_loopw [14] (fun pv wr => ∃ p n : Nat, i ≤ p ∧ p ≤ x.a.length ∧ pv = .int .i64 (p : Int) ∧ Hid (∀ p' q', i ≤ p' → p' < p → j ≤ q' → q' < x.b.length → hitB x.g x.a x.b i j p' q' = false) ∧ wr = w1.drewN n) (fun pv _ => x.a.length - (intOf pv).toNat)
  case atStart => exact ⟨i, 0, Nat.le_refl _, hi, rfl, fun p' q' h1 h2 => by omega, rfl⟩
  case round =>
    obtain ⟨p, n, hp1, hp2, rfl, HNO, rfl⟩ := hrel
    have hpl : p < x.a.length := by
      rcases Nat.lt_or_ge p x.a.length with h | h
      · exact h
      · exfalso
        obtain ⟨p', q', h1, h2, h3, h4, h5⟩ := HEX.out
        rw [HNO.out p' q' h1 (by omega) h3 h4] at h5
        cases h5
    have h20 : decide (p < x.a.length) = true := by simpa using hpl
    go_wp2_with fail
    go_loopw [15] (fun qv wr => ∃ q n : Nat, j ≤ q ∧ q ≤ x.b.length ∧ qv = .int .i64 (q : Int) ∧ Hid (∀ q', j ≤ q' → q' < q → hitB x.g x.a x.b i j p q' = false) ∧ wr = w1.drewN n) (fun qv _ => x.b.length - (intOf qv).toNat)
    case atStart => exact ⟨j, n, Nat.le_refl _, hj, rfl, fun q' h1 h2 => by omega, rfl⟩
    case round =>
      obtain ⟨q, n, hq1, hq2, rfl, HNQ, hwr⟩ := hrel
      by_cases hql : q < x.b.length
      case neg =>
        subst hwr
        have hqn : ¬ q < x.b.length := hql
        go_wp2_with fail
        go_roundw
        case rel =>
          refine ⟨p + 1, n, by omega, by omega, by go_num, fun p' q' h1 h2 h3 h4 => ?_, rfl⟩
          by_cases he : p' = p
          · subst he; exact HNQ.out q' h3 (by omega)
          · exact HNO.out p' q' h1 (by omega) h3 h4
        case measure => simp [intOf]; omega
      have h27 : decide (q < x.b.length) = true := by simpa using hql
      have hI : TInv w0 x 0 B arr wr := by rw [hwr]; exact HINV.out.below (below_drewN (Below.refl _ _) n)
      have hac : wr.cell? ⟨ba, oa + p, none⟩ = some (.int .i64 (x.a.getD p 0)) := by rw [hwr]; exact HA.out p hpl
      have hbc : wr.cell? ⟨bb, ob + q, none⟩ = some (.int .i64 (x.b.getD q 0)) := by rw [hwr]; exact HB.out q hql
      have hK : Blk wr w.heap.size 52 [.int .i64 0, .int .i64 0] := by rw [hwr]; exact HBK.out
      have HWB : Hid (Below w.heap.size w wr) := by show Below _ _ _; rw [hwr]; exact below_drewN HBW.out n
      have HWR := Lib.hid hwr
      obtain ⟨na, hna, hna2⟩ := HMA.out p
      obtain ⟨nb, hnb, hnb2⟩ := HMB.out q
      obtain ⟨b3, off3, cc3, e1, e2⟩ := hI.entry (s := p + 1) (j := q + 1) (Nat.zero_le _) (by omega) (by omega)
      obtain ⟨b4, off4, cc4, e3, e4⟩ := hI.entry (s := i) (j := j) (Nat.zero_le _) hi hj
      have ht := te_bd HF.out (p + 1) (q + 1)
      have ht2 := te_bd HF.out i j
      have HHQ := Lib.hid (te_hit HF.out i j p q)
      rw [hna] at hac HHQ
      rw [hnb] at hbc HHQ
      have HO := Lib.hid (fun W => rbits_any na nb W hna2 hnb2)
      have hd0 := bd_nn (na : Int) (nb : Int)
      have hd8 := bd_le (na : Int) (nb : Int)
      have hmu : 0 ≤ x.g * 1000 * ((p : Int) - i + q - j) ∧ x.g * 1000 * ((p : Int) - i + q - j) ≤ 60000000 := by
        rw [mul_1000]
        have h1 : x.g * ((p : Int) - i + q - j) ≤ 100 * 600 := Int.mul_le_mul f4 (by omega) (by omega) (by omega)
        have h2 : 0 ≤ x.g * ((p : Int) - i + q - j) := Int.mul_nonneg f3 (by omega)
        omega
      have r0 := hK.cell 0
      have r1 := hK.cell 1
      have r2 := hK.frozen 0
      have r3 := hK.frozen 1
      simp only [List.getElem?_cons_zero, List.getElem?_cons_succ] at r0 r1
      have HK := Lib.hid hK
      clear hna hnb hI hwr hK
      generalize bd (na : Int) (nb : Int) = d at *
      generalize te x (p + 1) (q + 1) = t at *
      generalize te x i j = t2 at *
      have hw1 : IntKind.i64.wrap (x.g * 1000) = x.g * 1000 := IntWalk.i64_in _ (by omega)
      have hw2 : IntKind.i64.wrap ((p : Int) - i) = (p : Int) - i := IntWalk.i64_in _ (by omega)
      have hw3 : IntKind.i64.wrap ((p : Int) - i + q) = (p : Int) - i + q := IntWalk.i64_in _ (by omega)
      have hw4 : IntKind.i64.wrap ((p : Int) - i + q - j) = (p : Int) - i + q - j := IntWalk.i64_in _ (by omega)
      have hw5 : IntKind.i64.wrap (x.g * 1000 * ((p : Int) - i + q - j)) = x.g * 1000 * ((p : Int) - i + q - j) := IntWalk.i64_in _ (by omega)
      have hw6 : IntKind.i64.wrap (d * 1000) = d * 1000 := IntWalk.i64_in _ (by omega)
      have hw7 : IntKind.i64.wrap (x.g * 1000 * ((p : Int) - i + q - j) + d * 1000) = x.g * 1000 * ((p : Int) - i + q - j) + d * 1000 := IntWalk.i64_in _ (by omega)
      have hw8 : IntKind.i64.wrap (x.g * 1000 * ((p : Int) - i + q - j) + d * 1000 - 1) = x.g * 1000 * ((p : Int) - i + q - j) + d * 1000 - 1 := IntWalk.i64_in _ (by omega)
      have hw9 : IntKind.i64.wrap (x.g * 1000 * ((p : Int) - i + q - j) + d * 1000 - 1 + t) = x.g * 1000 * ((p : Int) - i + q - j) + d * 1000 - 1 + t := IntWalk.i64_in _ (by omega)
      have hwa : IntKind.i64.wrap ((p : Int) + 1) = (p : Int) + 1 := IntWalk.i64_in _ (by omega)
      have hwb : IntKind.i64.wrap ((q : Int) + 1) = (q : Int) + 1 := IntWalk.i64_in _ (by omega)
      have i0 : (0 : Int) ≤ (p : Int) := by omega
      have i1 : (0 : Int) ≤ (q : Int) := by omega
      have i2 : (p : Int) < (x.a.length : Int) := by omega
      have i3 : (q : Int) < (x.b.length : Int) := by omega
      have i4 : (p : Int) + 1 < (x.a.length : Int) + 1 := by omega
      have i5 : (q : Int) + 1 < (x.b.length : Int) + 1 := by omega
      have i6 : 0 ≤ (p : Int) + 1 := by omega
      have i7 : 0 ≤ (q : Int) + 1 := by omega
      have i8 : ((p : Int) + 1).toNat = p + 1 := by omega
      have i9 : ((q : Int) + 1).toNat = q + 1 := by omega
      have ia : (i : Int) < (x.a.length : Int) + 1 := by omega
      have ib : (j : Int) < (x.b.length : Int) + 1 := by omega
      have ic0 : (0 : Int) ≤ (i : Int) := by omega
      have id0 : (0 : Int) ≤ (j : Int) := by omega
      obtain ⟨hit, hh⟩ : ∃ v, hitB x.g x.a x.b i j p q = v := ⟨_, rfl⟩
      have HH := Lib.hid hh
      rw [hh] at HHQ
      have HHQ2 : Hid ((x.g * 1000 * ((p : Int) - i + q - j) + d * 1000 - 1 + t == t2) = hit) := by
        show _ = _
        rw [HHQ.out]; rfl
      have hq := HHQ2.out
      clear hh
      go_wp2_with fail
      go_region_held3 (fun W => W.cell? ⟨w0.heap.size, p + 1, none⟩ = some (.slice (some ⟨b3, off3, none⟩) (x.b.length + 1) cc3) ∧ W.cell? ⟨b3, off3 + (q + 1), none⟩ = some (.int .i64 t) ∧ W.cell? ⟨ba, oa + p, none⟩ = some (.int .i64 (na : Int)) ∧ W.cell? ⟨bb, ob + q, none⟩ = some (.int .i64 (nb : Int)) ∧ W.cell? ⟨w0.heap.size, i, none⟩ = some (.slice (some ⟨b4, off4, none⟩) (x.b.length + 1) cc4) ∧ W.cell? ⟨b4, off4 + j, none⟩ = some (.int .i64 t2))
        (first | assumption | go_keep)
        (first | (go_at_call 46; refine (HO.out _).mono ?_; rintro e w' ⟨rfl, rfl⟩))
      clear hw1 hw2 hw3 hw4 hw5 hw6 hw7 hw8 hw9 hwa hwb
      have HEND : Hid (wr.drew = w1.drewN (n + 1)) := by show _ = _; rw [HWR.out]; rfl
      cases hit with
      | true =>
        have HN : Hid (Nxt x.g x.a x.b i j p q) := ⟨hp1, hpl, hq1, hql, HH.out, HNO.out, HNQ.out⟩
        have hq0 : Blk (wr.setCell ⟨w.heap.size, 0, none⟩ (.int .i64 (p : Int))) w.heap.size 52 [.int .i64 (p : Int), .int .i64 0] := HK.out.set_ 0 _
        have g0 := hq0.cell 0
        have g1 := (hq0.set_ 1 (.int .i64 (q : Int))).cell 1
        simp only [List.getElem?_cons_zero, List.getElem?_cons_succ, List.set_cons_succ, List.set_cons_zero] at g0 g1
        have G0 := Lib.hid g0
        have G1 := Lib.hid g1
        clear g0 g1 hq0
        go_wp2_with fail
        refine bodyPost_ret (v := .tuple #[.agg #[.int .i64 (p : Int), .int .i64 (q : Int)], .bool true]) (by simp [results, Try.results45, go_sem, G0.out, G1.out]) rfl ⟨p, q, HN.out, rfl, ?_⟩
        exact (Below.setCell (p := ⟨w.heap.size, 1, none⟩) (Below.setCell (p := ⟨w.heap.size, 0, none⟩) HWB.out (Nat.le_refl _) _) (Nat.le_refl _) _).drew
      | false =>
        go_wp2_with fail
        go_roundw
        case rel =>
          refine ⟨q + 1, n + 1, by omega, by omega, by go_num, fun q' h1 h2 => ?_, HEND.out⟩
          by_cases he : q' = q
          · subst he; exact HH.out
          · exact HNQ.out q' h1 (by omega)
        case measure => simp [intOf]; omega
end Go.Proofs.Ytdgkchdobmhpnaa
