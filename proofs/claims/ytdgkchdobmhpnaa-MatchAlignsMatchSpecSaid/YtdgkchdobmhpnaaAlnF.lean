/- The contract of match.Align. -/
import Derived.Test.YtdgkchdobmhpnaaAlnE
import Derived.Laws.AppendOwn
namespace Go.Proofs.Ytdgkchdobmhpnaa
open Go.RowKit Go.Dw
attribute [local go_sem ↓] Go.wp_at_zero Go.wp_at_succ

/-- what Align returns: the links, the cost, the fault -/
def ALN (a b : List Int) (g : Int) (out : List (Int × Int)) (n f : Int) : Prop :=
  (chA a b g ≠ 0 ∧ out = [] ∧ n = 0 ∧ f = chA a b g) ∨ (chA a b g = 0 ∧ Path g a b 0 0 out ∧ n = (bst g a b 0 0).1 ∧ f = 0)
theorem ALN.uniq {a b : List Int} {g n f n' f' : Int} {l l' : List (Int × Int)} (h : ALN a b g l n f) (k : ALN a b g l' n' f') : l = l' ∧ n = n' ∧ f = f' := by
  rcases h with ⟨h1, h2, h3, h4⟩ | ⟨h1, h2, h3, h4⟩
  · rcases k with ⟨k1, k2, k3, k4⟩ | ⟨k1, k2, k3, k4⟩
    · exact ⟨by rw [h2, k2], by rw [h3, k3], by rw [h4, k4]⟩
    · exact absurd k1 h1
  · rcases k with ⟨k1, k2, k3, k4⟩ | ⟨k1, k2, k3, k4⟩
    · exact absurd h1 k1
    · exact ⟨h2.uniq k2, by rw [h3, k3], by rw [h4, k4]⟩
def ARes (w : World) (a b : List Int) (g : Int) (e : Ending) (w' : World) : Prop :=
  ∃ (A : Option Addr) (c : Nat) (out : List (Int × Int)) (n f : Int), ALN a b g out n f ∧ e = .returned (.tuple #[.slice A out.length c, .int .i64 n, .int .i64 f]) ∧ Rd w' A (pc out) ∧ Below w.heap.size w w'
theorem below_of_grown {a b : World} {KB n : Nat} (h : a.grownBy b (some KB)) (hn : n ≤ KB) (hs : n ≤ a.heap.size) : Below n a b := ⟨h.os, h.tape, h.output, h.size, fun i hi => h.block i (by omega) (by simp; omega)⟩
theorem own_below {B : Nat} {e : TypeId} {k : Nat} {v : Value} {n : Nat} {xs : List Value} {w w' : World} (h : w.ownsRow B e k v n xs) (hb : Below w.heap.size w w') : w'.ownsRow B e k v n xs :=
  h.kept (row := none) ⟨hb.os, hb.tape, hb.output, hb.size, fun j hj _ => hb.block j hj⟩ (by cases hv : v.ownBlock <;> simp)
theorem info_l : (Try.prog.info? 52).map (fun i => (i.zero, i.size, i.bytes)) = some (some (.agg #[.int .i64 0, .int .i64 0]), 2, 16) := by kernel_rfl
theorem below_app2 {B e size n : Nat} {w wr w1 : World} {o o2 : Obj} {v : Value} {xs : List Value} (hbel : Below B w wr) (hsz : B ≤ wr.heap.size)
    (hown : wr.ownsRow B e size v n xs) (hg : ((wr.alloc o).alloc o2).grownBy w1 v.ownBlock) : Below B w w1 :=
  ((hbel.alloc hsz o).alloc (by simp; omega) o2).grown hg (by simp; omega) (fun k hk => (hown.lt k hk).1)

/-- a box that lay ahead of an append lies there behind it -/
theorem box_after {B e size n : Nat} {w4 w5 : World} {o2 : Obj} {v : Value} {xs cs : List Value} {t : TypeId} (hown : w4.ownsRow B e size v n xs) (hg : ((w4.alloc (.cells cs.toArray t)).alloc o2).grownBy w5 v.ownBlock) : Blk w5 w4.heap.size t cs := by
  have h1 : Blk ((w4.alloc (.cells cs.toArray t)).alloc o2) w4.heap.size t cs := blk_below (B := w4.heap.size + 1) (Blk.new w4 _ _) ((Below.refl _ _).alloc (by simp) _) (by omega)
  exact (hg.block w4.heap.size (by simp; omega) (fun e => by have := (hown.lt _ e.symm).2; omega)).trans h1

set_option maxRecDepth 100000 in
set_option maxHeartbeats 2000000 in
theorem align_any (Aa Ab : Option Addr) (ca cb : Nat) (a b : List Int) (g : Int) (w : World) (ha : Rd w Aa (ic a)) (hb : Rd w Ab (ic b)) (hna : a.length ≤ 9223372036854775807) (hnb : b.length ≤ 9223372036854775807) :
    Calls Try.prog 20 #[.slice Aa a.length ca, .slice Ab b.length cb, .int .i64 g] w (ARes w a b g) := by
  have HCK := Lib.hid (checkAlign_any Aa Ab ca cb a b g w ha hb hna hnb)
  go_enter Try.func20, Try.ntmps20
  go_wp2_with fail
  refine HCK.out.mono ?_
  rintro e w1 ⟨rfl, hb1⟩
  by_cases hz : chA a b g = 0
  case neg =>
    have hzb : (chA a b g != 0) = true := by simpa using hz
    have HZ := Lib.hid hz
    clear hz
    go_wp2_with fail
    go_ret3
    exact ⟨none, 0, [], 0, chA a b g, .inl ⟨HZ.out, rfl, rfl, rfl⟩, rfl, .inl rfl, hb1⟩
  have hzb : (chA a b g != 0) = false := by simpa using hz
  obtain ⟨hz1, hz2, hl1, hl2, hg1, hg2⟩ := chA_zero hz
  have HZ := Lib.hid hz
  have HFINE : Hid (Two.Fine ⟨Aa, ca, a, Ab, cb, b, g⟩) := ⟨hl1, hl2, hg1, hg2, (chkA_zero hz1).2, (chkA_zero hz2).2⟩
  have HB1 := Lib.hid hb1
  have ha1 := ha.below hb1
  have hb1' := hb.below hb1
  have hW : Below w1.heap.size w1 (w1.alloc (.cells #[.slice Aa a.length ca, .slice Ab b.length cb, .int .i64 g, .slice none 0 0] 70)) := (Below.refl _ _).alloc (Nat.le_refl _) _
  have hsW : (w1.alloc (.cells #[.slice Aa a.length ca, .slice Ab b.length cb, .int .i64 g, .slice none 0 0] 70)).heap.size = w1.heap.size + 1 := by simp
  have hfill := afill_any w1.heap.size ⟨Aa, ca, a, Ab, cb, b, g⟩ (w1.alloc (.cells #[.slice Aa a.length ca, .slice Ab b.length cb, .int .i64 g, .slice none 0 0] 70)) (Blk.new w1 _ _)
    ((ha1.rds.same (Same.alloc _ _)).mono (fun b hb1 hb2 => ⟨hb1, by omega⟩)) ((hb1'.rds.same (Same.alloc _ _)).mono (fun b hb1 hb2 => ⟨hb1, by omega⟩)) hl1 hl2 hg1 hg2 (chkA_zero hz1).2 (chkA_zero hz2).2
  have HFILL := Lib.hid hfill
  have HSW := Lib.hid hsW
  have HW := Lib.hid hW
  obtain ⟨ii, hii, hzi0, hzi1, hzi2⟩ := info_parts info_l
  have HII := Lib.hid (And.intro hii (And.intro hzi0 (And.intro hzi1 hzi2)))
  clear hz hz1 hz2 hb1 ha1 hb1' hfill ha hb hW hsW hii hzi0 hzi1 hzi2 HCK
  go_wp2_with fail
  refine HFILL.out.mono ?_
  rintro e w3 ⟨rfl, B, arr, hinv⟩
  have hKB : w1.heap.size < (w1.alloc (.cells #[.slice Aa a.length ca, .slice Ab b.length cb, .int .i64 g, .slice none 0 0] 70)).heap.size := by rw [HSW.out]; omega
  have hB3 : Below w.heap.size w w3 := HB1.out.trans ((HW.out.trans (below_of_grown hinv.1 (Nat.le_refl _) (by omega))).mono HB1.out.size)
  have HB3 := Lib.hid hB3
  have HINV : Hid (∀ W, Below w3.heap.size w3 W → AInv (w1.alloc (.cells #[.slice Aa a.length ca, .slice Ab b.length cb, .int .i64 g, .slice none 0 0] 70)) w1.heap.size ⟨Aa, ca, a, Ab, cb, b, g⟩ 0 B arr W) := fun W hW => hinv.below (hW.mono hinv.2.2.1) hKB
  clear hB3 hinv HFILL HW HB1
  generalize w1.alloc (.cells #[.slice Aa a.length ca, .slice Ab b.length cb, .int .i64 g, .slice none 0 0] 70) = wz at *
  go_wp2_with fail
  go_loopw [11, 12, 13] (fun v iv jv wr => ∃ (l : List (Int × Int)) (i j : Nat), i ≤ a.length ∧ j ≤ b.length ∧ iv = .int .i64 (i : Int) ∧ jv = .int .i64 (j : Int) ∧ l.length ≤ i ∧ Hid (Sofar g a b i j l) ∧ wr.ownsRow w3.heap.size 52 2 v l.length (pc l) ∧ Below w3.heap.size w3 wr) (fun _ iv _ _ => a.length - (intOf iv).toNat)
  case atStart => exact ⟨[], 0, 0, Nat.zero_le _, Nat.zero_le _, rfl, rfl, Nat.le_refl _, Sofar.start, ⟨rfl, .inl ⟨rfl, rfl⟩⟩, Below.refl _ _⟩
  case round =>
    obtain ⟨l, i, j, hi, hj, rfl, rfl, hll, HSO, hown, hB⟩ := hrel
    have hAI := HINV.out wr hB
    obtain ⟨k0, k1, k2, k3⟩ := hAI.cells
    obtain ⟨b3, off3, cc3, e1, e2, e3⟩ := hAI.entry (s := i) (j := j) (Nat.zero_le _) hi hj
    simp only at e1 e2 e3 k0 k1 k2 k3
    have hfit := (HFINE.out.bd i j)
    simp only at hfit
    by_cases h0 : 0 < (bst g a b i j).2
    · have HNX := Lib.hid (next_any w1.heap.size ⟨Aa, ca, a, Ab, cb, b, g⟩ wz wr B arr i j hAI hKB HFINE.out hi hj h0)
      have H0 := Lib.hid h0
      have HOWN := Lib.hid hown
      have HB := Lib.hid hB
      clear hown hB hAI
      go_wp2_with fail
      refine HNX.out.mono ?_
      rintro e w4 ⟨p, q, hnx, rfl, hb4⟩
      simp only at hnx
      obtain ⟨n1, n2, n3, n4, _⟩ := id hnx
      have HSO2 := Lib.hid (HSO.out.step H0.out hnx)
      have hown4 := own_below HOWN.out hb4
      have hB4 : Below w3.heap.size w3 w4 := HB.out.trans (hb4.mono HB.out.size)
      have hsz4 : w3.heap.size ≤ w4.heap.size := hB4.size
      obtain ⟨hii, hzi0, hzi1, hzi2⟩ := HII.out
      clear hnx hb4 e1 e2 e3 k0 k1 k2 k3
      go_wp2_with (at_builtin; refine wpList_append_own _ rfl _ _ 31 rfl w3.heap.size 52 ii _ 2 16 Try.underlying31 hii hzi0 hzi1 hzi2 rfl (by decide) _ _ _ rfl ((hown4.alloc _).alloc _) ⟨w4.heap.size + 1, 0, none⟩ 1 1 [.int .i64 (p : Int), .int .i64 (q : Int)] (by rfl) (by rfl) (World.news_of_block (cs := #[.int .i64 (p : Int), .int .i64 (q : Int)]) (t := 52) (fr := (0, 0)) (by simpa using heap_alloc_new (w4.alloc _) _)) (by simp [Value.oneCell']) (by unfold maxLen; omega) (by omega) (by simp; omega) ?_; intro v1 w5 hown5 hgrow5 _)
      have hB5 := below_app2 hB4 hsz4 hown4 hgrow5
      have hbk : Blk w5 w4.heap.size 52 [.int .i64 (p : Int), .int .i64 (q : Int)] :=
        box_after (cs := [.int .i64 (p : Int), .int .i64 (q : Int)]) hown4 hgrow5
      have y0 := hbk.cell 0
      have y1 := hbk.cell 1
      simp only [List.getElem?_cons_zero, List.getElem?_cons_succ] at y0 y1
      have HOWN5 := Lib.hid hown5
      have HB5 := Lib.hid hB5
      clear hgrow5 hown5 hB5 hbk hown4 hB4 hii hzi0 hzi1 hzi2
      have hw1 : IntKind.i64.wrap ((p : Int) + 1) = (p : Int) + 1 := IntWalk.i64_in _ (by omega)
      have hw2 : IntKind.i64.wrap ((q : Int) + 1) = (q : Int) + 1 := IntWalk.i64_in _ (by omega)
      go_quiet (fail)
      clear hw1 hw2
      go_wp2_with fail
      go_roundw
      case rel => exact ⟨l ++ [((p : Int), (q : Int))], p + 1, q + 1, by omega, by omega, by go_num, by go_num, by simp; omega, HSO2.out, owns_eq HOWN5.out (by simp) (by rw [pc_append]; rfl), below_drewN HB5.out _⟩
      case measure => simp [intOf]; omega
    · have hL0 : (bst g a b i j).2 = 0 := by omega
      have HP := Lib.hid (HSO.out.fin hL0)
      have hn0 : ¬ (0 < (bst g a b i j).2) := h0
      obtain ⟨b4, off4, cc4, q1, q2, q3⟩ := hAI.entry (s := 0) (j := 0) (Nat.zero_le _) (Nat.zero_le _) (Nat.zero_le _)
      simp only [Nat.zero_mul, Nat.add_zero] at q1 q2
      have HBF := Lib.hid (HB3.out.trans (hB.mono HB3.out.size))
      obtain ⟨A2, c2, rfl⟩ := slice_of_own hown
      have HRD := Lib.hid (Rd.of_own hown)
      clear hL0 hAI hown hB
      go_wp2_with fail
      go_quiet (fail)
      go_wp2_with fail
      go_ret3
      exact ⟨A2, c2, l, _, 0, .inr ⟨HZ.out, HP.out, rfl, rfl⟩, rfl, HRD.out, below_drewN HBF.out _⟩
end Go.Proofs.Ytdgkchdobmhpnaa
