/- The contract of the reference's add. -/
import Derived.Test.YtlmgdofhmgpljaaDoorLmbI
namespace Go.Proofs.YtlmgdofhmgpljaaDoor
open Go.RowKit Go.Dw

/-- i limbs of a sum are done -/
def AdsI (w wr : World) (l m : List Nat) (A : Option Addr) (c i o : Nat) (p : List Nat) : Prop :=
  (p.length = i ∧ Ds L4 p ∧ val L4 p + L4 ^ i * o = val L4 (l.take i) + val L4 (m.take i)) ∧ wr.ownsRow w.heap.size 3 1 (.slice A p.length c) p.length (nc p) ∧ Below w.heap.size w wr
theorem sum_nm {l m p : List Nat} (hl : Nm L4 l) (hm : Nm L4 m) (hp : Ds L4 p) (hn : p.length = l.length ∨ p.length = m.length) (h : val L4 p = val L4 l + val L4 m) : Nm L4 p := by
  refine Nm.of_ge (by decide) hp fun h0 => ?_
  rcases hn with e | e
  · have := val_ge hl (by omega)
    rw [e]; omega
  · have := val_ge hm (by omega)
    rw [e]; omega
theorem nm_snoc {p : List Nat} (hp : Ds L4 p) : Nm L4 (p ++ [1]) := by
  refine Nm.mk' (hp.app (by intro x hx; simp at hx; subst hx; decide)) fun h0 => ?_
  simp
set_option maxRecDepth 100000 in
set_option maxHeartbeats 8000000 in
theorem addR_any (va vb : Value) (a b : Nat) (w : World) (h : LimV w va a) (g : LimV w vb b) (k : Nat) (hk : Lim k a) (gk : Lim k b) (hk2 : k ≤ 1000000000) :
    Calls Tryd.prog 49 #[va, vb] w (LimF (a + b) w) := by
  obtain ⟨A, c, l, rfl, hr, hn, rfl⟩ := h
  obtain ⟨B, d, m, rfl, gr, gn, rfl⟩ := g
  have hL := Lim.len4 hn hk
  have gL := Lim.len4 gn gk
  have HNl := Lib.hid hn
  have HNm := Lib.hid gn
  have HRl := Lib.hid hr
  have HRm := Lib.hid gr
  have hw : L4 = 10000 := rfl
  have HW := Lib.hid hw
  clear hr gr hn gn hk gk hw
  obtain ⟨ii, hii, hzi0, hzi1, hzi2⟩ := info_parts infoI
  go_enter Tryd.func49, Tryd.ntmps49
  go_wp2_with fail
  go_loopw [5, 6, 7] (fun ov cv iv wr => ∃ (i o : Nat) (p : List Nat) (A5 : Option Addr) (c5 : Nat), (i ≤ l.length ∨ i ≤ m.length) ∧ iv = .int .i64 (i : Int) ∧ ov = .slice A5 p.length c5 ∧ cv = .int .i64 (o : Int) ∧ o ≤ 1 ∧ Hid (AdsI w wr l m A5 c5 i o p)) (fun _ _ iv _ => l.length + m.length - (intOf iv).toNat)
  case atStart => exact ⟨0, 0, [], none, 0, .inl (Nat.zero_le _), rfl, rfl, rfl, by omega, ⟨rfl, Ds.nil, by simp [val]⟩, World.ownsRow_nil _ _ _ _, Below.refl _ _⟩
  case round =>
    obtain ⟨i, o, p, A5, c5, hi, rfl, rfl, rfl, ho, HI⟩ := hrel
    have HO := Lib.hid HI.out.2.1
    have HB := Lib.hid HI.out.2.2
    have hpl : p.length ≤ 3000000000 := by have := HI.out.1.1; omega
    have hi2 : i ≤ 3000000000 := by omega
    by_cases hex : i < l.length ∨ i < m.length
    case neg =>
      have hd0 : decide (i < l.length) = false := decide_eq_false (by omega)
      have hd1 : decide (i < m.length) = false := decide_eq_false (by omega)
      have HV : Hid (val L4 p + L4 ^ i * o = val L4 l + val L4 m ∧ Ds L4 p ∧ p.length = i ∧ (p.length = l.length ∨ p.length = m.length)) := by
        obtain ⟨q1, q3, q4⟩ := HI.out.1
        rw [List.take_of_length_le (by omega), List.take_of_length_le (by omega)] at q4
        exact ⟨q4, q3, q1, by omega⟩
      have HFR : Hid (∀ tl, FrB w.heap.size (.slice A5 tl c5)) := fun tl => ⟨fun b hb => (HO.out.lt b (by cases A5 <;> exact hb)).1, fun n c h => by injection h with h1 h2 h3; subst h3; exact (own_capL HO.out).2.2 h1⟩
      have hszr := HB.out.size
      rcases (by omega : o = 0 ∨ o = 1) with h0 | h0
      · subst h0
        have HLM : Hid (LimV wr (.slice A5 p.length c5) (val L4 l + val L4 m)) := by
          obtain ⟨q1, q2, q3, q4⟩ := HV.out
          rw [Nat.mul_zero, Nat.add_zero] at q1
          exact ⟨A5, c5, p, rfl, Rd.of_own HO.out, sum_nm HNl.out HNm.out q2 q4 q1, q1⟩
        clear hex hi HI
        go_wp2_with fail
        go_ret
        exact ⟨_, rfl, HLM.out, HFR.out _, HB.out⟩
      · subst h0
        have HNX : Hid (∀ (g8 cap8 : Nat) (w8 : World) (ob : Obj), w8.ownsRow w.heap.size 3 1 (.slice (some ⟨g8, 0, none⟩) (p.length + 1) cap8) (p.length + 1) (nc p ++ [.int .i64 (1 : Int)]) → (wr.alloc ob).grownBy w8 (Value.slice A5 p.length c5).ownBlock →
            LimV w8 (.slice (some ⟨g8, 0, none⟩) (p.length + 1) cap8) (val L4 l + val L4 m) ∧ FrB w.heap.size (.slice (some ⟨g8, 0, none⟩) (p.length + 1) cap8) ∧ Below w.heap.size w w8) := fun g8 cap8 w8 ob h1 h2 => by
          obtain ⟨q1, q2, q3, q4⟩ := HV.out
          have e1 : nc p ++ [.int .i64 (1 : Int)] = nc (p ++ [1]) := by rw [nc_append]; rfl
          rw [e1] at h1
          have e2 : p.length + 1 = (p ++ [1]).length := by simp
          rw [e2] at h1 ⊢
          refine ⟨⟨_, cap8, p ++ [1], rfl, Rd.of_own h1, nm_snoc q2, ?_⟩, ⟨fun b hb => (h1.lt b hb).1, fun n c h => by injection h with h; cases h⟩, ?_⟩
          · rw [val_snoc, q3]; exact q1
          · exact Below.grown (HB.out.alloc HB.out.size ob) h2 (by simp; have := HB.out.size; omega) (fun b hb => (HO.out.lt b hb).1)
        clear hex hi HI
        go_wp2_with (at_builtin; refine wpList_append_lies _ rfl _ _ 25 rfl w.heap.size 3 ii _ 1 8 Tryd.underlying25 hii hzi0 hzi1 hzi2 rfl (by decide) _ _ _ rfl (World.ownsRow.alloc HO.out _) ⟨wr.heap.size, 0, none⟩ 1 1 [.int .i64 (1 : Int)] (by rfl) (by rfl) (World.news_of_block (cs := #[.int .i64 (1 : Int)]) (t := 3) (fr := (0, 0)) (heap_alloc_new wr _)) (by simp [Value.oneCell']) (by decide) (by unfold maxLen; omega) (by omega) (by simp; omega) (wr.heap.size + 1) (by simp) ?_; intro g8 cap8 w8 hown8 hgrow8 hat8 hlt8; have HF8 := Lib.hid (HNX.out _ _ _ _ hown8 hgrow8); clear hown8 hgrow8 hat8 hlt8)
        go_ret
        exact ⟨_, rfl, HF8.out⟩
    have x1 : l.getD i 0 < L4 := HNl.out.1.getD (by decide) i
    have y1 : m.getD i 0 < L4 := HNm.out.1.getD (by decide) i
    have i0 : (0 : Int) ≤ (i : Int) := by omega
    have hcy := carry_le (B := L4) (i := i) (by decide) HNl.out.1 HNm.out.1 ho
    have hst := fun (hp : p.length = i) h => add_step (B := L4) (a := l) (b := m) (p := p) (i := i) (c := o) hp h
    obtain ⟨s, hs⟩ : ∃ s, s = o + l.getD i 0 + m.getD i 0 := ⟨_, rfl⟩
    rw [← hs] at hcy
    have HNX : Hid (∀ (g8 cap8 : Nat) (w8 : World) (ob : Obj), w8.ownsRow w.heap.size 3 1 (.slice (some ⟨g8, 0, none⟩) (p.length + 1) cap8) (p.length + 1) (nc p ++ [.int .i64 ((s % L4 : Nat) : Int)]) → (wr.alloc ob).grownBy w8 (Value.slice A5 p.length c5).ownBlock →
        AdsI w w8 l m (some ⟨g8, 0, none⟩) cap8 (i + 1) (s / L4) (p ++ [s % L4])) := fun g8 cap8 w8 ob h1 h2 => by
      obtain ⟨q1, q3, q4⟩ := HI.out.1
      refine ⟨⟨by simp [q1], q3.app (by intro x hx; simp at hx; subst hx; exact Nat.mod_lt _ (by decide)), by rw [hs]; exact hst q1 q4⟩, ?_, ?_⟩
      · rw [nc_append, List.length_append]; exact h1
      · exact Below.grown (HB.out.alloc HB.out.size ob) h2 (by simp; have := HB.out.size; omega) (fun b hb => (HO.out.lt b hb).1)
    have hszr := HB.out.size
    have hm1 : (s : Int).tmod 10000 = ((s % L4 : Nat) : Int) := tmod4 s
    have hm2 : (s : Int).tdiv 10000 = ((s / L4 : Nat) : Int) := tdiv4 s
    rw [HW.out] at x1 y1 hcy
    obtain ⟨r, hr⟩ : ∃ r, s % L4 = r := ⟨_, rfl⟩
    obtain ⟨t, ht⟩ : ∃ t, s / L4 = t := ⟨_, rfl⟩
    have hrl : r < 10000 := by rw [← hr]; exact Nat.mod_lt _ (by decide)
    have htl : t ≤ 1 := by rw [← ht, HW.out]; exact hcy.2
    rw [hr] at hm1 HNX
    rw [ht] at hm2 HNX
    have W5 : IntKind.i64.wrap (r : Int) = (r : Int) := IntWalk.i64_in _ (by omega)
    have W6 : IntKind.i64.wrap (t : Int) = (t : Int) := IntWalk.i64_in _ (by omega)
    have hs2 := hcy.1
    clear hst hcy hr ht
    by_cases hil : i < l.length
    · have hd0 : decide (i < l.length) = true := by simpa using hil
      obtain ⟨b1, o1, rfl, hb1, hc1⟩ := nc_cell (HRl.out.below HB.out) (by omega)
      have d1 := hc1 i hil
      have i1 : (i : Int) < (l.length : Int) := by omega
      clear hc1
      by_cases him : i < m.length
      · have hd1 : decide (i < m.length) = true := by simpa using him
        obtain ⟨b2, o2, rfl, hb2, hc2⟩ := nc_cell (HRm.out.below HB.out) (by omega)
        have d2 := hc2 i him
        have m1 : (i : Int) < (m.length : Int) := by omega
        clear hc2 HI
        generalize l.getD i 0 = x at *
        generalize m.getD i 0 = y at *
        have W1 : IntKind.i64.wrap ((o : Int) + (x : Int)) = (o : Int) + (x : Int) := IntWalk.i64_in _ (by omega)
        have W2 : IntKind.i64.wrap ((o : Int) + (x : Int) + (y : Int)) = (s : Int) := by rw [show (o : Int) + (x : Int) + (y : Int) = (s : Int) by omega]; exact IntWalk.i64_in _ (by omega)
        clear hs hex
        go_wp2_with (at_builtin; refine wpList_append_lies _ rfl _ _ 25 rfl w.heap.size 3 ii _ 1 8 Tryd.underlying25 hii hzi0 hzi1 hzi2 rfl (by decide) _ _ _ rfl (World.ownsRow.alloc HO.out _) ⟨wr.heap.size, 0, none⟩ 1 1 [.int .i64 (r : Int)] (by rfl) (by rfl) (World.news_of_block (cs := #[.int .i64 (r : Int)]) (t := 3) (fr := (0, 0)) (heap_alloc_new wr _)) (by simp [Value.oneCell']) (by decide) (by unfold maxLen; omega) (by omega) (by simp; omega) (wr.heap.size + 1) (by simp) ?_; intro g8 cap8 w8 hown8 hgrow8 hat8 hlt8; have HF8 := Lib.hid (HNX.out _ _ _ _ hown8 hgrow8); clear hown8 hgrow8 hat8 hlt8)
        go_roundw
        case rel => exact ⟨i + 1, t, p ++ [r], _, _, by omega, by go_num, by rw [List.length_append]; rfl, rfl, htl, HF8⟩
        case measure => simp [intOf]; omega
      · have hd1 : decide (i < m.length) = false := by simpa using him
        have hy : m.getD i 0 = 0 := by rw [List.getD_eq_getElem?_getD, List.getElem?_eq_none (by omega)]; rfl
        rw [hy] at hs
        clear HI y1 hy
        generalize l.getD i 0 = x at *
        have W1 : IntKind.i64.wrap ((o : Int) + (x : Int)) = (s : Int) := by rw [show (o : Int) + (x : Int) = (s : Int) by omega]; exact IntWalk.i64_in _ (by omega)
        clear hs hex
        go_wp2_with (at_builtin; refine wpList_append_lies _ rfl _ _ 25 rfl w.heap.size 3 ii _ 1 8 Tryd.underlying25 hii hzi0 hzi1 hzi2 rfl (by decide) _ _ _ rfl (World.ownsRow.alloc HO.out _) ⟨wr.heap.size, 0, none⟩ 1 1 [.int .i64 (r : Int)] (by rfl) (by rfl) (World.news_of_block (cs := #[.int .i64 (r : Int)]) (t := 3) (fr := (0, 0)) (heap_alloc_new wr _)) (by simp [Value.oneCell']) (by decide) (by unfold maxLen; omega) (by omega) (by simp; omega) (wr.heap.size + 1) (by simp) ?_; intro g8 cap8 w8 hown8 hgrow8 hat8 hlt8; have HF8 := Lib.hid (HNX.out _ _ _ _ hown8 hgrow8); clear hown8 hgrow8 hat8 hlt8)
        go_roundw
        case rel => exact ⟨i + 1, t, p ++ [r], _, _, by omega, by go_num, by rw [List.length_append]; rfl, rfl, htl, HF8⟩
        case measure => simp [intOf]; omega
    · have hd0 : decide (i < l.length) = false := by simpa using hil
      have him : i < m.length := by omega
      have hd1 : decide (i < m.length) = true := by simpa using him
      have hx : l.getD i 0 = 0 := by rw [List.getD_eq_getElem?_getD, List.getElem?_eq_none (by omega)]; rfl
      rw [hx] at hs
      obtain ⟨b2, o2, rfl, hb2, hc2⟩ := nc_cell (HRm.out.below HB.out) (by omega)
      have d2 := hc2 i him
      have m1 : (i : Int) < (m.length : Int) := by omega
      clear hc2 HI x1 hx
      generalize m.getD i 0 = y at *
      have W2 : IntKind.i64.wrap ((o : Int) + (y : Int)) = (s : Int) := by rw [show (o : Int) + (y : Int) = (s : Int) by omega]; exact IntWalk.i64_in _ (by omega)
      clear hs hex
      go_wp2_with (at_builtin; refine wpList_append_lies _ rfl _ _ 25 rfl w.heap.size 3 ii _ 1 8 Tryd.underlying25 hii hzi0 hzi1 hzi2 rfl (by decide) _ _ _ rfl (World.ownsRow.alloc HO.out _) ⟨wr.heap.size, 0, none⟩ 1 1 [.int .i64 (r : Int)] (by rfl) (by rfl) (World.news_of_block (cs := #[.int .i64 (r : Int)]) (t := 3) (fr := (0, 0)) (heap_alloc_new wr _)) (by simp [Value.oneCell']) (by decide) (by unfold maxLen; omega) (by omega) (by simp; omega) (wr.heap.size + 1) (by simp) ?_; intro g8 cap8 w8 hown8 hgrow8 hat8 hlt8; have HF8 := Lib.hid (HNX.out _ _ _ _ hown8 hgrow8); clear hown8 hgrow8 hat8 hlt8)
      go_roundw
      case rel => exact ⟨i + 1, t, p ++ [r], _, _, by omega, by go_num, by rw [List.length_append]; rfl, rfl, htl, HF8⟩
      case measure => simp [intOf]; omega
end Go.Proofs.YtlmgdofhmgpljaaDoor
