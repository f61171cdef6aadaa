/- The contract of the reference's less: a difference. -/
import Derived.Test.YtlmgdofhmgpljaaDoorLmbD
import Derived.Test.YtlmgdofhmgpljaaDoorRdW0
import Derived.Deep.AppendLies
namespace Go.Proofs.YtlmgdofhmgpljaaDoor
open Go.RowKit Go.Dw

def LesR (a b : Nat) (w : World) (e : Ending) (w' : World) : Prop := ∃ v, e = .returned v ∧ LimV w' v (a - b) ∧ FrB w.heap.size v ∧ Below w.heap.size w w'
/-- i limbs of a difference are done -/
def LesI (w wr : World) (l m : List Nat) (A : Option Addr) (c i o : Nat) (p : List Nat) : Prop :=
  (p.length = i ∧ Ds L4 p ∧ val L4 p + val L4 (m.take i) = val L4 (l.take i) + L4 ^ i * o) ∧ wr.ownsRow w.heap.size 3 1 (.slice A p.length c) p.length (nc p) ∧ Below w.heap.size w wr
theorem own_capL {w : World} {base e size n c : Nat} {A : Option Addr} {xs : List Value} (h : w.ownsRow base e size (.slice A n c) n xs) : n ≤ c ∧ c ≤ 9223372036854775807 ∧ (A = none → c = 0) := by
  rcases h.2 with ⟨e, rfl⟩ | ⟨g, cap, cur, hv, _, _, h4, h5, _⟩
  · injection e with e1 e2 e3
    subst e3
    exact ⟨Nat.zero_le _, by omega, fun _ => rfl⟩
  · injection hv with e1 e2 e3
    subst e3
    refine ⟨h4, by unfold maxLen at h5; omega, fun h => ?_⟩
    rw [h] at e1; cases e1
set_option maxRecDepth 100000 in
set_option maxHeartbeats 4000000 in
theorem lessR_any (va vb : Value) (a b : Nat) (w : World) (h : LimV w va a) (g : LimV w vb b) (k : Nat) (hk : Lim k a) (hab : b ≤ a) (hk2 : k ≤ 1000000000) :
    Calls Tryd.prog 46 #[va, vb] w (LesR a b w) := by
  obtain ⟨A, c, l, rfl, hr, hn, rfl⟩ := h
  obtain ⟨B, d, m, rfl, gr, gn, rfl⟩ := g
  have hL := Lim.len4 hn hk
  have hml : m.length ≤ l.length := by
    rcases Nat.lt_or_ge l.length m.length with h1 | h1
    · have := Nm.lt_of_len (by decide) hn.1 gn h1; omega
    · exact h1
  have HDl := Lib.hid hn.1
  have HDm := Lib.hid gn.1
  have HRl := Lib.hid hr
  have HRm := Lib.hid gr
  have hw : L4 = 10000 := rfl
  have HW := Lib.hid hw
  have HAB := Lib.hid hab
  clear hr gr hn gn hk hw hab
  obtain ⟨ii, hii, hzi0, hzi1, hzi2⟩ := info_parts infoI
  go_enter Tryd.func46, Tryd.ntmps46
  go_wp2_with fail
  go_loopw [5, 6, 7] (fun ov cv iv wr => ∃ (i o : Nat) (p : List Nat) (A5 : Option Addr) (c5 : Nat), i ≤ l.length ∧ iv = .int .i64 (i : Int) ∧ ov = .slice A5 p.length c5 ∧ cv = .int .i64 (o : Int) ∧ o ≤ 1 ∧ Hid (LesI w wr l m A5 c5 i o p)) (fun _ _ iv _ => l.length - (intOf iv).toNat)
  case atStart => exact ⟨0, 0, [], none, 0, Nat.zero_le _, rfl, rfl, rfl, by omega, ⟨rfl, Ds.nil, by simp [val]⟩, World.ownsRow_nil _ _ _ _, Below.refl _ _⟩
  case round =>
    obtain ⟨i, o, p, A5, c5, hi, rfl, rfl, rfl, ho, HI⟩ := hrel
    have HO := Lib.hid HI.out.2.1
    have HB := Lib.hid HI.out.2.2
    have hpl : p.length ≤ 3000000000 := by have := HI.out.1.1; omega
    by_cases hil : i < l.length
    case neg =>
      have hd0 : decide (i < l.length) = false := by simpa using hil
      have hii2 : i = l.length := by omega
      have HV : Hid (val L4 p = val L4 l - val L4 m ∧ Ds L4 p) := by
        obtain ⟨q1, q3, q4⟩ := HI.out.1
        refine ⟨?_, q3⟩
        rw [List.take_of_length_le (by omega), List.take_of_length_le (by omega)] at q4
        have h1 := val_lt (by decide) q3
        rw [q1] at h1
        have h2 := HAB.out
        have h3 : o = 0 := by
          rcases Nat.eq_zero_or_pos o with e | e
          · exact e
          · have : o = 1 := by omega
            subst this; omega
        subst h3; omega
      have HFR : Hid (∀ tl, FrB w.heap.size (.slice A5 tl c5)) := fun tl => ⟨fun b hb => (HO.out.lt b (by cases A5 <;> exact hb)).1, fun n c h => by injection h with h1 h2 h3; subst h3; exact (own_capL HO.out).2.2 h1⟩
      have HTR := Lib.hid (trimR_any A5 c5 p wr (Rd.of_own HO.out) (by omega) (own_capL HO.out).1 (own_capL HO.out).2.1 (own_capL HO.out).2.2)
      subst hii2
      clear hi hil
      go_wp2_with fail
      refine HTR.out.mono ?_
      rintro e w' ⟨rfl, rfl⟩
      go_wp2_with fail
      go_ret
      refine ⟨_, rfl, ?_, HFR.out _, HB.out⟩
      have := lim_of_trim (c := c5) (Rd.of_own HO.out) HV.out.2
      rw [HV.out.1] at this
      exact this
    have hd0 : decide (i < l.length) = true := by simpa using hil
    obtain ⟨b1, o1, rfl, hb1, hc1⟩ := nc_cell (HRl.out.below HB.out) (by omega)
    have d1 := hc1 i hil
    have x1 := HDl.out.getD (by decide) i
    have y1 := HDm.out.getD (by decide) i
    rw [HW.out] at x1 y1
    have i0 : (0 : Int) ≤ (i : Int) := by omega
    have i1 : (i : Int) < (l.length : Int) := by omega
    have HNX : Hid (∀ (d o' : Nat), d < 10000 → d + m.getD i 0 + o = l.getD i 0 + 10000 * o' → ∀ (g8 cap8 : Nat) (w8 : World) (ob : Obj), w8.ownsRow w.heap.size 3 1 (.slice (some ⟨g8, 0, none⟩) (p.length + 1) cap8) (p.length + 1) (nc p ++ [.int .i64 (d : Int)]) → (wr.alloc ob).grownBy w8 (Value.slice A5 p.length c5).ownBlock →
        LesI w w8 l m (some ⟨g8, 0, none⟩) cap8 (i + 1) o' (p ++ [d])) := fun d o' hd hs g8 cap8 w8 ob h1 h2 => by
      obtain ⟨q1, q3, q4⟩ := HI.out.1
      refine ⟨⟨by simp [q1], q3.app (by intro x hx; simp at hx; subst hx; exact hd), sub_step q1 q4 (by rw [HW.out]; exact hs)⟩, ?_, ?_⟩
      · rw [nc_append, List.length_append]; exact h1
      · exact Below.grown (HB.out.alloc HB.out.size ob) h2 (by simp; have := HB.out.size; omega) (fun b hb => (HO.out.lt b hb).1)
    have hzr := HB.out.size
    clear hc1
    generalize l.getD i 0 = x at *
    by_cases him : i < m.length
    · have hdm : decide (i < m.length) = true := by simpa using him
      obtain ⟨b2, o2, rfl, hb2, hc2⟩ := nc_cell (HRm.out.below HB.out) (by omega)
      have d2 := hc2 i him
      have m1 : (i : Int) < (m.length : Int) := by omega
      clear hc2 HI
      generalize m.getD i 0 = y at *
      have W1 : IntKind.i64.wrap ((x : Int) - (o : Int)) = (x : Int) - (o : Int) := IntWalk.i64_in _ (by omega)
      by_cases hlt : x < o + y
      · obtain ⟨d, hd⟩ : ∃ d : Nat, d = x + 10000 - o - y := ⟨_, rfl⟩
        have W2 : IntKind.i64.wrap ((x : Int) - (o : Int) - (y : Int)) = (x : Int) - (o : Int) - (y : Int) := IntWalk.i64_in _ (by omega)
        have W3 : IntKind.i64.wrap ((x : Int) - (o : Int) - (y : Int) + 10000) = (d : Int) := by rw [show (x : Int) - (o : Int) - (y : Int) + 10000 = (d : Int) by omega]; exact IntWalk.i64_in _ (by omega)
        have hneg : decide ((x : Int) - (o : Int) - (y : Int) < 0) = true := decide_eq_true (by omega)
        have HNX := Lib.hid (HNX.out d 1 (by omega) (by omega))
        clear hd hlt
        go_wp2_with (at_builtin; refine wpList_append_lies _ rfl _ _ 25 rfl w.heap.size 3 ii _ 1 8 Tryd.underlying25 hii hzi0 hzi1 hzi2 rfl (by decide) _ _ _ rfl (World.ownsRow.alloc HO.out _) ⟨wr.heap.size, 0, none⟩ 1 1 [.int .i64 (d : Int)] (by rfl) (by rfl) (World.news_of_block (cs := #[.int .i64 (d : Int)]) (t := 3) (fr := (0, 0)) (heap_alloc_new wr _)) (by simp [Value.oneCell']) (by decide) (by unfold maxLen; omega) (by omega) (by simp; omega) (wr.heap.size + 1) (by simp) ?_; intro g8 cap8 w8 hown8 hgrow8 hat8 hlt8; have HF8 := Lib.hid (HNX.out _ _ _ _ hown8 hgrow8); clear hown8 hgrow8 hat8 hlt8)
        go_roundw
        case rel => exact ⟨i + 1, 1, p ++ [d], _, _, by omega, by go_num, by rw [List.length_append]; rfl, rfl, by omega, HF8⟩
        case measure => simp [intOf]; omega
      · obtain ⟨d, hd⟩ : ∃ d : Nat, d = x - o - y := ⟨_, rfl⟩
        have W2 : IntKind.i64.wrap ((x : Int) - (o : Int) - (y : Int)) = (d : Int) := by rw [show (x : Int) - (o : Int) - (y : Int) = (d : Int) by omega]; exact IntWalk.i64_in _ (by omega)
        have hneg : decide ((d : Int) < 0) = false := decide_eq_false (by omega)
        have HNX := Lib.hid (HNX.out d 0 (by omega) (by omega))
        clear hd hlt
        go_wp2_with (at_builtin; refine wpList_append_lies _ rfl _ _ 25 rfl w.heap.size 3 ii _ 1 8 Tryd.underlying25 hii hzi0 hzi1 hzi2 rfl (by decide) _ _ _ rfl (World.ownsRow.alloc HO.out _) ⟨wr.heap.size, 0, none⟩ 1 1 [.int .i64 (d : Int)] (by rfl) (by rfl) (World.news_of_block (cs := #[.int .i64 (d : Int)]) (t := 3) (fr := (0, 0)) (heap_alloc_new wr _)) (by simp [Value.oneCell']) (by decide) (by unfold maxLen; omega) (by omega) (by simp; omega) (wr.heap.size + 1) (by simp) ?_; intro g8 cap8 w8 hown8 hgrow8 hat8 hlt8; have HF8 := Lib.hid (HNX.out _ _ _ _ hown8 hgrow8); clear hown8 hgrow8 hat8 hlt8)
        go_roundw
        case rel => exact ⟨i + 1, 0, p ++ [d], _, _, by omega, by go_num, by rw [List.length_append]; rfl, rfl, by omega, HF8⟩
        case measure => simp [intOf]; omega
    · have hdm : decide (i < m.length) = false := by simpa using him
      have hy : m.getD i 0 = 0 := by rw [List.getD_eq_getElem?_getD, List.getElem?_eq_none (by omega)]; rfl
      rw [hy] at HNX
      clear HI hy y1
      by_cases hlt : x < o
      · obtain ⟨d, hd⟩ : ∃ d : Nat, d = x + 10000 - o := ⟨_, rfl⟩
        have W1 : IntKind.i64.wrap ((x : Int) - (o : Int)) = (x : Int) - (o : Int) := IntWalk.i64_in _ (by omega)
        have W3 : IntKind.i64.wrap ((x : Int) - (o : Int) + 10000) = (d : Int) := by rw [show (x : Int) - (o : Int) + 10000 = (d : Int) by omega]; exact IntWalk.i64_in _ (by omega)
        have hneg : decide ((x : Int) - (o : Int) < 0) = true := decide_eq_true (by omega)
        have HNX := Lib.hid (HNX.out d 1 (by omega) (by omega))
        clear hd hlt
        go_wp2_with (at_builtin; refine wpList_append_lies _ rfl _ _ 25 rfl w.heap.size 3 ii _ 1 8 Tryd.underlying25 hii hzi0 hzi1 hzi2 rfl (by decide) _ _ _ rfl (World.ownsRow.alloc HO.out _) ⟨wr.heap.size, 0, none⟩ 1 1 [.int .i64 (d : Int)] (by rfl) (by rfl) (World.news_of_block (cs := #[.int .i64 (d : Int)]) (t := 3) (fr := (0, 0)) (heap_alloc_new wr _)) (by simp [Value.oneCell']) (by decide) (by unfold maxLen; omega) (by omega) (by simp; omega) (wr.heap.size + 1) (by simp) ?_; intro g8 cap8 w8 hown8 hgrow8 hat8 hlt8; have HF8 := Lib.hid (HNX.out _ _ _ _ hown8 hgrow8); clear hown8 hgrow8 hat8 hlt8)
        go_roundw
        case rel => exact ⟨i + 1, 1, p ++ [d], _, _, by omega, by go_num, by rw [List.length_append]; rfl, rfl, by omega, HF8⟩
        case measure => simp [intOf]; omega
      · obtain ⟨d, hd⟩ : ∃ d : Nat, d = x - o := ⟨_, rfl⟩
        have W1 : IntKind.i64.wrap ((x : Int) - (o : Int)) = (d : Int) := by rw [show (x : Int) - (o : Int) = (d : Int) by omega]; exact IntWalk.i64_in _ (by omega)
        have hneg : decide ((d : Int) < 0) = false := decide_eq_false (by omega)
        have HNX := Lib.hid (HNX.out d 0 (by omega) (by omega))
        clear hd hlt
        go_wp2_with (at_builtin; refine wpList_append_lies _ rfl _ _ 25 rfl w.heap.size 3 ii _ 1 8 Tryd.underlying25 hii hzi0 hzi1 hzi2 rfl (by decide) _ _ _ rfl (World.ownsRow.alloc HO.out _) ⟨wr.heap.size, 0, none⟩ 1 1 [.int .i64 (d : Int)] (by rfl) (by rfl) (World.news_of_block (cs := #[.int .i64 (d : Int)]) (t := 3) (fr := (0, 0)) (heap_alloc_new wr _)) (by simp [Value.oneCell']) (by decide) (by unfold maxLen; omega) (by omega) (by simp; omega) (wr.heap.size + 1) (by simp) ?_; intro g8 cap8 w8 hown8 hgrow8 hat8 hlt8; have HF8 := Lib.hid (HNX.out _ _ _ _ hown8 hgrow8); clear hown8 hgrow8 hat8 hlt8)
        go_roundw
        case rel => exact ⟨i + 1, 0, p ++ [d], _, _, by omega, by go_num, by rw [List.length_append]; rfl, rfl, by omega, HF8⟩
        case measure => simp [intOf]; omega
end Go.Proofs.YtlmgdofhmgpljaaDoor
