/- The contract of (*aligner).next. -/
import Derived.Test.YtdgkchdobmhpnaaAlnD
import Derived.StillTailTactics
namespace Go.Proofs.Ytdgkchdobmhpnaa
open Go.RowKit Go.Dw
attribute [local go_sem ↓] Go.wp_at_zero Go.wp_at_succ

def NRes (w : World) (x : Two) (i j : Nat) (e : Ending) (w' : World) : Prop :=
  ∃ p q : Nat, Nxt x.g x.a x.b i j p q ∧ e = .returned (.agg #[.int .i64 (p : Int), .int .i64 (q : Int)]) ∧ Below w.heap.size w w'
/-- what is known of the lists that are aligned -/
def Two.Fine (x : Two) : Prop := x.a.length ≤ 300 ∧ x.b.length ≤ 300 ∧ 0 ≤ x.g ∧ x.g ≤ 100 ∧ (∀ i, ∃ n : Nat, x.a.getD i 0 = (n : Int) ∧ n < 256) ∧ ∀ i, ∃ n : Nat, x.b.getD i 0 = (n : Int) ∧ n < 256
theorem Two.Fine.bd {x : Two} (h : x.Fine) (i j : Nat) : 0 ≤ (bst x.g x.a x.b i j).1 ∧ (bst x.g x.a x.b i j).1 ≤ 60000 ∧ 0 ≤ (bst x.g x.a x.b i j).2 ∧ (bst x.g x.a x.b i j).2 ≤ 300 := by
  obtain ⟨h1, h2, h3, h4, _⟩ := h
  obtain ⟨q1, q2, q3, q4, q5, _⟩ := bst_fit (a := x.a) (b := x.b) h3 i j
  have : x.g * (((x.a.length - i : Nat) : Int) + ((x.b.length - j : Nat) : Int)) ≤ 100 * 600 := Int.mul_le_mul h4 (by omega) (by omega) (by omega)
  exact ⟨q1, by omega, q3, by omega⟩
/-- link, where the whole table is there -/
theorem link_inv {w0 W : World} {KB : Nat} {x : Two} {lo B : Nat} {arr : List Value} (h : AInv w0 KB x lo B arr W) (hf : x.Fine) {p q : Nat} (hlo : lo ≤ p + 1) (hp : p < x.a.length) (hq : q < x.b.length) :
    Calls Try.prog 50 #[.pointer (some ⟨KB, 0, none⟩), .int .i64 (p : Int), .int .i64 (q : Int)] W fun e w' => e = .returned (.agg #[.int .i64 (lkS x.g x.a x.b p q).1, .int .i64 (lkS x.g x.a x.b p q).2]) ∧ Below W.heap.size W w' := by
  obtain ⟨na, hna, hna2⟩ := hf.2.2.2.2.1 p
  obtain ⟨nb, hnb, hnb2⟩ := hf.2.2.2.2.2 q
  obtain ⟨b3, off3, cc3, e1, e2, e3⟩ := h.entry (s := p + 1) (j := q + 1) hlo (by omega) (by omega)
  obtain ⟨ba, oa, hAa, hac⟩ := h.mark_a hp
  obtain ⟨bb, ob, hAb, hbc⟩ := h.mark_b hq
  obtain ⟨k0, k1, k2, k3⟩ := h.cells
  rw [hAa] at k0
  rw [hAb] at k1
  rw [hna] at hac
  rw [hnb] at hbc
  obtain ⟨p1, p2, p3, p4⟩ := hf.bd (p + 1) (q + 1)
  obtain ⟨f1, f2, _⟩ := hf
  have hlk := link_any KB w0.heap.size b3 off3 x.a.length x.b.length x.ca x.cb cc3 (x.a.length + 1) ⟨ba, oa, none⟩ ⟨bb, ob, none⟩ p q na nb (bst x.g x.a x.b (p + 1) (q + 1)) W k0 k1 k3 e1 e2 e3 hac hbc hp hq (by omega) (by omega) hna2 hnb2 p1 (by omega) p3 (by omega)
  have hle : lnk (bst x.g x.a x.b (p + 1) (q + 1)) (bd (na : Int) (nb : Int)) = lkS x.g x.a x.b p q := by unfold lkS lnk; rw [hna, hnb]
  rw [hle] at hlk
  exact hlk

set_option maxRecDepth 100000 in
set_option maxHeartbeats 2000000 in
theorem next_any (KB : Nat) (x : Two) (w0 w : World) (B : Nat) (arr : List Value) (i j : Nat) (hinv : AInv w0 KB x 0 B arr w) (hKB : KB < w0.heap.size) (hf : x.Fine) (hi : i ≤ x.a.length) (hj : j ≤ x.b.length) (hl : 0 < (bst x.g x.a x.b i j).2) :
    Calls Try.prog 40 #[.pointer (some ⟨KB, 0, none⟩), .int .i64 (i : Int), .int .i64 (j : Int)] w (NRes w x i j) := by
  obtain ⟨k0, k1, k2, k3⟩ := hinv.cells
  obtain ⟨b3, off3, cc3, e1, e2, e3⟩ := hinv.entry (s := i) (j := j) (Nat.zero_le _) hi hj
  obtain ⟨f1, f2, f3, f4, _⟩ := id hf
  have hBw := hinv.2.2.1
  have HEX := Lib.hid (hit_some (g := x.g) (a := x.a) (b := x.b) hl)
  have HINV : Hid (∀ W, Below w.heap.size w W → AInv w0 KB x 0 B arr W) := fun W hW => hinv.below (hW.mono hBw) hKB
  have hKz : KB < w.heap.size := World.block_lt_of_cell? w _ k3
  have hHz : w0.heap.size < w.heap.size := World.block_lt_of_cell? w _ e1
  have hbz := World.block_lt_of_cell? w _ e2
  simp only at hbz
  have HF := Lib.hid hf
  have HHB : Hid (∀ p q, hitB x.g x.a x.b i j p q = decide ((lkS x.g x.a x.b p q).1 + x.g * ((p : Int) - i + q - j) = (bst x.g x.a x.b i j).1 ∧ (lkS x.g x.a x.b p q).2 = (bst x.g x.a x.b i j).2)) := fun _ _ => rfl
  generalize hs : bst x.g x.a x.b i j = s at *
  obtain ⟨s1, s2⟩ := s
  simp only at e2 e3 HHB
  have HB1 : Hid (Below w.heap.size w ((w.alloc (.cells #[.int .i64 0, .int .i64 0] 52)).alloc (.cells #[.int .i64 s1, .int .i64 s2] 72))) := ((Below.refl _ _).alloc (Nat.le_refl _) _).alloc (by simp) _
  have HSZ : Hid (((w.alloc (.cells #[.int .i64 0, .int .i64 0] 52)).alloc (.cells #[.int .i64 s1, .int .i64 s2] 72)).heap.size = w.heap.size + 2) := by show _ = _; simp
  have HBR : Hid (Blk ((w.alloc (.cells #[.int .i64 0, .int .i64 0] 52)).alloc (.cells #[.int .i64 s1, .int .i64 s2] 72)) w.heap.size 52 [.int .i64 0, .int .i64 0]) := blk_below (Blk.new w _ _) ((Below.refl (w.heap.size + 1) _).alloc (by simp) _) (by omega)
  have HBS : Hid (Bx ((w.alloc (.cells #[.int .i64 0, .int .i64 0] 52)).alloc (.cells #[.int .i64 s1, .int .i64 s2] 72)) (w.heap.size + 1) (s1, s2)) := by
    have := Blk.new (w.alloc (.cells #[.int .i64 0, .int .i64 0] 52)) 72 [.int .i64 s1, .int .i64 s2]
    simpa [Bx, Hid] using this
  clear hs hinv hf
  go_enter Try.func40, Try.ntmps40
  go_wp2_with fail
  clear e1 e2 e3 hbz hHz
  generalize (w.alloc (.cells #[.int .i64 0, .int .i64 0] 52)).alloc (.cells #[.int .i64 s1, .int .i64 s2] 72) = w1 at *
  go_loopw [8] (fun pv wr => ∃ p : Nat, i ≤ p ∧ p ≤ x.a.length ∧ pv = .int .i64 (p : Int) ∧ Hid (∀ p' q', i ≤ p' → p' < p → j ≤ q' → q' < x.b.length → hitB x.g x.a x.b i j p' q' = false) ∧ Below (w.heap.size + 2) w1 wr) (fun pv _ => x.a.length - (intOf pv).toNat)
  case atStart => exact ⟨i, Nat.le_refl _, hi, rfl, fun p' q' h1 h2 => by omega, Below.refl _ _⟩
  case round =>
    obtain ⟨p, hp1, hp2, rfl, HNO, hB⟩ := hrel
    have hpl : p < x.a.length := by
      rcases Nat.lt_or_ge p x.a.length with h | h
      · exact h
      · exfalso
        obtain ⟨p', q', h1, h2, h3, h4, h5⟩ := HEX.out
        rw [HNO.out p' q' h1 (by omega) h3 h4] at h5
        cases h5
    have hBB := HB1.out.trans (hB.mono (by omega))
    obtain ⟨k0, k1, k2, k3⟩ := (HINV.out wr hBB).cells
    have h28 : decide (p < x.a.length) = true := by simpa using hpl
    have HBB := Lib.hid hB
    clear hB hBB
    go_wp2_with fail
    clear k0 k1 k2 k3
    go_loopw [9] (fun qv wr => ∃ q : Nat, j ≤ q ∧ q ≤ x.b.length ∧ qv = .int .i64 (q : Int) ∧ Hid (∀ q', j ≤ q' → q' < q → hitB x.g x.a x.b i j p q' = false) ∧ Below (w.heap.size + 2) w1 wr) (fun qv _ => x.b.length - (intOf qv).toNat)
    case atStart => exact ⟨j, Nat.le_refl _, hj, rfl, fun q' h1 h2 => by omega, HBB.out⟩
    case round =>
      obtain ⟨q, hq1, hq2, rfl, HNQ, hB⟩ := hrel
      have hBB := HB1.out.trans (hB.mono (by omega))
      have hAI := HINV.out wr hBB
      obtain ⟨k0, k1, k2, k3⟩ := hAI.cells
      by_cases hql : q < x.b.length
      case neg =>
        have hqn : ¬ q < x.b.length := hql
        go_wp2_with fail
        go_roundw
        case rel =>
          refine ⟨p + 1, by omega, by omega, by go_num, fun p' q' h1 h2 h3 h4 => ?_, hB⟩
          by_cases he : p' = p
          · subst he; exact HNQ.out q' h3 (by omega)
          · exact HNO.out p' q' h1 (by omega) h3 h4
        case measure => simp [intOf]; omega
      have h38 : decide (q < x.b.length) = true := by simpa using hql
      have HLK := Lib.hid (link_inv hAI HF.out (p := p) (q := q) (Nat.zero_le _) hpl hql)
      have hbd := HF.out.bd (p + 1) (q + 1)
      have hbd2 := bd_nn (x.a.getD p 0) (x.b.getD q 0)
      have hbd3 := bd_le (x.a.getD p 0) (x.b.getD q 0)
      have hlb : 0 ≤ (lkS x.g x.a x.b p q).1 ∧ (lkS x.g x.a x.b p q).1 ≤ 100000 ∧ 0 ≤ (lkS x.g x.a x.b p q).2 ∧ (lkS x.g x.a x.b p q).2 ≤ 301 := by
        unfold lkS; simp only; omega
      have hmu : 0 ≤ x.g * ((p : Int) - i + q - j) ∧ x.g * ((p : Int) - i + q - j) ≤ 60000 := by
        have : x.g * ((p : Int) - i + q - j) ≤ 100 * 600 := Int.mul_le_mul f4 (by omega) (by omega) (by omega)
        exact ⟨Int.mul_nonneg f3 (by omega), by omega⟩
      have HHQ := Lib.hid (HHB.out p q)
      have hkz : KB < wr.heap.size := World.block_lt_of_cell? wr _ k3
      clear hbd hbd2 hbd3 hAI
      generalize lkS x.g x.a x.b p q = t at *
      obtain ⟨t1, t2⟩ := t
      simp only at hlb HHQ HLK
      have HWR := Lib.hid hB
      clear hB hBB k0 k3
      go_wp2_with fail
      refine HLK.out.mono ?_
      rintro e w2 ⟨rfl, hb2⟩
      have hB2 : Below (w.heap.size + 2) w1 w2 := HWR.out.trans (hb2.mono (by have := HWR.out.size; have := HSZ.out; omega))
      have hkz2 : KB < w2.heap.size := by have := hb2.size; omega
      have hk2 : w2.cell? ⟨KB, 2, none⟩ = some (.int .i64 x.g) := by rw [hb2.cell (by exact hkz)]; exact k2
      have hsz2 : w.heap.size + 2 ≤ w2.heap.size := by have := hB2.size; have := HSZ.out; omega
      have HB2 := Lib.hid hB2
      have HK2 := Lib.hid hk2
      clear hb2 hB2 k2 k1 hk2
      go_wp2_with fail
      have hG : Gw w2 (w2.alloc (.cells #[.int .i64 t1, .int .i64 t2] 72)) := (Below.refl _ _).alloc (Nat.le_refl _) _
      have hT : Bx (w2.alloc (.cells #[.int .i64 t1, .int .i64 t2] 72)) w2.heap.size (t1, t2) := Blk.new w2 _ _
      have hSB : w2.heap.size < (w2.alloc (.cells #[.int .i64 t1, .int .i64 t2] 72)).heap.size := by simp
      generalize w2.alloc (.cells #[.int .i64 t1, .int .i64 t2] 72) = wB at *
      have hB3 : Below (w.heap.size + 2) w1 wB := HB2.out.trans (Below.mono hG (by omega))
      obtain ⟨z0, z1, _, _, z4⟩ := (HBS.out.below hB3 (by omega)).cells
      have hr0 := blk_below HBR.out hB3 (by omega)
      have r0 := hr0.cell 0
      have r1 := hr0.cell 1
      have r2 := hr0.frozen 0
      have r3 := hr0.frozen 1
      obtain ⟨y0, y1, y2, y3, _⟩ := hT.cells
      simp only [List.getElem?_cons_zero, List.getElem?_cons_succ] at r0 r1 z0 z1 y0 y1
      have hk3 : wB.cell? ⟨KB, 2, none⟩ = some (.int .i64 x.g) := by rw [Below.cell hG (by exact hkz2)]; exact HK2.out
      have HB3 := Lib.hid hB3
      have HT := Lib.hid hT
      have HR0 := Lib.hid hr0
      clear hG hT hB3 hr0 HB2 HK2
      have hw1 : IntKind.i64.wrap ((p : Int) - i) = (p : Int) - i := IntWalk.i64_in _ (by omega)
      have hw2 : IntKind.i64.wrap ((p : Int) - i + q) = (p : Int) - i + q := IntWalk.i64_in _ (by omega)
      have hw3 : IntKind.i64.wrap ((p : Int) - i + q - j) = (p : Int) - i + q - j := IntWalk.i64_in _ (by omega)
      have hw4 : IntKind.i64.wrap (x.g * ((p : Int) - i + q - j)) = x.g * ((p : Int) - i + q - j) := IntWalk.i64_in _ (by omega)
      have hw5 : IntKind.i64.wrap (t1 + x.g * ((p : Int) - i + q - j)) = t1 + x.g * ((p : Int) - i + q - j) := IntWalk.i64_in _ (by omega)
      go_still_tail 16, (by kernel_rfl)
      change wpList _ _ _ _ _ wB.drew
      clear hw1 hw2 hw3 hw4 hw5
      have hne1 : w2.heap.size ≠ w.heap.size + 1 := by omega
      have hne2 : w2.heap.size ≠ w.heap.size := by omega
      obtain ⟨hit, hh⟩ : ∃ v, hitB x.g x.a x.b i j p q = v := ⟨_, rfl⟩
      rw [hh] at HHQ
      have HH := Lib.hid hh
      clear hh
      generalize x.g * ((p : Int) - i + q - j) = mm at *
      have HST : Hid (Below (w.heap.size + 2) w1 (wB.setCell ⟨w2.heap.size, 0, none⟩ (.int .i64 (t1 + mm))).drew) := (Below.setCell (p := ⟨w2.heap.size, 0, none⟩) HB3.out hsz2 _).drew
      by_cases e1 : t1 + mm = s1
      · have b1 : (t1 + mm == s1) = true := by simpa using e1
        by_cases e2 : t2 = s2
        · have b2 : (t2 == s2) = true := by simpa using e2
          have HN : Hid (Nxt x.g x.a x.b i j p q) := ⟨hp1, hpl, hq1, hql, by rw [HH.out, HHQ.out]; simp [e1, e2], HNO.out, HNQ.out⟩
          clear e1 e2
          have hq0 : Blk ((wB.setCell ⟨w2.heap.size, 0, none⟩ (.int .i64 (t1 + mm))).setCell ⟨w.heap.size, 0, none⟩ (.int .i64 (p : Int))) w.heap.size 52 [.int .i64 (p : Int), .int .i64 0] :=
            Blk.set_ (Blk.same (S := fun b => b = w.heap.size) HR0.out (Same.set _ _ _ (by simp; omega)) rfl) 0 _
          have g0 := hq0.cell 0
          have g1 := (hq0.set_ 1 (.int .i64 (q : Int))).cell 1
          simp only [List.getElem?_cons_zero, List.getElem?_cons_succ, List.set_cons_succ, List.set_cons_zero] at g0 g1
          have G0 := Lib.hid g0
          have G1 := Lib.hid g1
          clear g0 g1 hq0
          go_wp2_with fail
          refine bodyPost_ret (v := .agg #[.int .i64 (p : Int), .int .i64 (q : Int)]) (by simp [results, Try.results40, go_sem, G0.out, G1.out]) rfl ⟨p, q, HN.out, rfl, ?_⟩
          exact (Below.setCell (p := ⟨w.heap.size, 1, none⟩) (Below.setCell (p := ⟨w.heap.size, 0, none⟩) (Below.setCell (p := ⟨w2.heap.size, 0, none⟩) (HB1.out.trans (HB3.out.mono (by omega))) (by simp; omega) _) (Nat.le_refl _) _) (Nat.le_refl _) _).drew
        · have b2 : (t2 == s2) = false := by simpa using e2
          have HN : Hid (hitB x.g x.a x.b i j p q = false) := by show _ = _; rw [HH.out, HHQ.out]; simp [e2]
          clear e1 e2
          go_wp2_with fail
          go_roundw
          case rel =>
            refine ⟨q + 1, by omega, by omega, by go_num, fun q' h1 h2 => ?_, HST.out⟩
            by_cases he : q' = q
            · subst he; exact HN.out
            · exact HNQ.out q' h1 (by omega)
          case measure => simp [intOf]; omega
      · have b1 : (t1 + mm == s1) = false := by simpa using e1
        have HN : Hid (hitB x.g x.a x.b i j p q = false) := by show _ = _; rw [HH.out, HHQ.out]; simp [e1]
        clear e1
        go_wp2_with fail
        go_roundw
        case rel =>
          refine ⟨q + 1, by omega, by omega, by go_num, fun q' h1 h2 => ?_, HST.out⟩
          by_cases he : q' = q
          · subst he; exact HN.out
          · exact HNQ.out q' h1 (by omega)
        case measure => simp [intOf]; omega
end Go.Proofs.Ytdgkchdobmhpnaa
