/- Generated (gen/numr.py): the contract of the reference's Times. -/
import Derived.Test.YtlmgdofhmgpljaaDoorLow
namespace Go.Proofs.YtlmgdofhmgpljaaDoor
open Go.RowKit Go.Dw
attribute [local go_sem ↓] Go.wp_at_zero Go.wp_at_succ
attribute [local go_sem] Go.Dw.Oper.tame

theorem sign_mul {p q : Rat} {sa sb : Bool} (ha : decide (p.num < 0) = sa) (hb : decide (q.num < 0) = sb) (h : 0 < p.num.natAbs * q.num.natAbs) : (sa != sb) = decide (p.num * q.num < 0) := by
  have hp : p.num ≠ 0 := fun e => by rw [e] at h; simp at h
  have hq : q.num ≠ 0 := fun e => by rw [e] at h; simp at h
  rw [← ha, ← hb]
  rcases Int.lt_or_gt_of_ne hp with h1 | h1 <;> rcases Int.lt_or_gt_of_ne hq with h2 | h2
  · rw [decide_eq_true h1, decide_eq_true h2, decide_eq_false (by have := Int.mul_pos_of_neg_of_neg h1 h2; omega)]; rfl
  · rw [decide_eq_true h1, decide_eq_false (by omega), decide_eq_true (Int.mul_neg_of_neg_of_pos h1 h2)]; rfl
  · rw [decide_eq_false (by omega), decide_eq_true h2, decide_eq_true (Int.mul_neg_of_pos_of_neg h1 h2)]; rfl
  · rw [decide_eq_false (by omega), decide_eq_false (by omega), decide_eq_false (by have := Int.mul_pos h1 h2; omega)]; rfl
/-- what holds of the world all through -/
structure timB (w0 : World) (sa sb : Bool) (A : Option Addr) (L c : Nat) (A' : Option Addr) (L' c' : Nat) (B : Option Addr) (M d : Nat) (B' : Option Addr) (M' d' : Nat) (p q : Rat) (W : World) : Prop where
  g : Gq w0 W
  nb : NB 48 W (w0.heap.size + 1 + 1)
  ka : Blk W w0.heap.size 48 [.bool sa, .slice A L c, .slice A' L' c']
  kb : Blk W (w0.heap.size + 1) 48 [.bool sb, .slice B M d, .slice B' M' d']
  v : LimV W (.slice A L c) p.num.natAbs ∧ LimV W (.slice A' L' c') p.den ∧ LimV W (.slice B M d) q.num.natAbs ∧ LimV W (.slice B' M' d') q.den
theorem timB.gq {w0 : World} {sa sb : Bool} {A : Option Addr} {L c : Nat} {A' : Option Addr} {L' c' : Nat} {B : Option Addr} {M d : Nat} {B' : Option Addr} {M' d' : Nat} {p q : Rat} {w w' : World} (h : timB w0 sa sb A L c A' L' c' B M d B' M' d' p q w) (hg : Gq w w') : timB w0 sa sb A L c A' L' c' B M d B' M' d' p q w' :=
  ⟨h.g.trans hg, h.nb.gq hg, blk_gqr h.ka hg, blk_gqr h.kb hg, h.v.1.below hg, h.v.2.1.below hg, h.v.2.2.1.below hg, h.v.2.2.2.below hg⟩
theorem timB.store {w0 : World} {sa sb : Bool} {A : Option Addr} {L c : Nat} {A' : Option Addr} {L' c' : Nat} {B : Option Addr} {M d : Nat} {B' : Option Addr} {M' d' : Nat} {p q : Rat} {w : World} (h : timB w0 sa sb A L c A' L' c' B M d B' M' d' p q w) {x y z : Value} (hx : NoI x) (hy : NoI y) (hz : NoI z) :
    timB w0 sa sb A L c A' L' c' B M d B' M' d' p q (((w.setCell ⟨w0.heap.size + 1 + 1, 0, none⟩ x).setCell ⟨w0.heap.size + 1 + 1, 1, none⟩ y).setCell ⟨w0.heap.size + 1 + 1, 2, none⟩ z) := by
  have ho := otr3 w (w0.heap.size + 1 + 1) x y z
  exact ⟨gq_set3r h.g (by omega) _ _ _, h.nb.stored hx hy hz, ho.blk h.ka (by omega), ho.blk h.kb (by omega), h.nb.lim ho h.v.1, h.nb.lim ho h.v.2.1, h.nb.lim ho h.v.2.2.1, h.nb.lim ho h.v.2.2.2⟩
def timF (w0 : World) (sa sb : Bool) (A : Option Addr) (L c : Nat) (A' : Option Addr) (L' c' : Nat) (B : Option Addr) (M d : Nat) (B' : Option Addr) (M' d' : Nat) (p q : Rat) : List Fact := [
  ⟨[], fun _ W => timB w0 sa sb A L c A' L' c' B M d B' M' d' p q W⟩,
  ⟨[0], fun vs _ => vs 0 = .pointer (some ⟨w0.heap.size, 0, none⟩)⟩,
  ⟨[1], fun vs _ => vs 1 = .bool sa⟩,
  ⟨[2], fun vs _ => vs 2 = .pointer (some ⟨w0.heap.size + 1, 0, none⟩)⟩,
  ⟨[3], fun vs _ => vs 3 = .bool sb⟩,
  ⟨[4], fun vs _ => vs 4 = .bool (sa != sb)⟩,
  ⟨[5], fun vs _ => vs 5 = .pointer (some ⟨w0.heap.size, 1, none⟩)⟩,
  ⟨[6], fun vs _ => vs 6 = .slice A L c⟩,
  ⟨[7], fun vs _ => vs 7 = .pointer (some ⟨w0.heap.size + 1, 1, none⟩)⟩,
  ⟨[8], fun vs _ => vs 8 = .slice B M d⟩,
  ⟨[9], fun vs W => ∃ X N f, vs 9 = .slice X N f ∧ LimV W (.slice X N f) (p.num.natAbs * q.num.natAbs)⟩,
  ⟨[10], fun vs _ => vs 10 = .pointer (some ⟨w0.heap.size, 2, none⟩)⟩,
  ⟨[11], fun vs _ => vs 11 = .slice A' L' c'⟩,
  ⟨[12], fun vs _ => vs 12 = .pointer (some ⟨w0.heap.size + 1, 2, none⟩)⟩,
  ⟨[13], fun vs _ => vs 13 = .slice B' M' d'⟩,
  ⟨[14], fun vs W => ∃ X N f, vs 14 = .slice X N f ∧ LimV W (.slice X N f) (p.den * q.den)⟩,
  ⟨[15], fun vs W => ∃ s X N f Y O t, vs 15 = .agg #[.bool s, .slice X N f, .slice Y O t] ∧ NumQ W (.agg #[.bool s, .slice X N f, .slice Y O t]) (mkRat (p.num * q.num) (p.den * q.den))⟩,
  ⟨[16], fun _ W => ∃ s X N f Y O t, Blk W (w0.heap.size + 1 + 1) 48 [.bool s, .slice X N f, .slice Y O t] ∧ NumQ W (.agg #[.bool s, .slice X N f, .slice Y O t]) (mkRat (p.num * q.num) (p.den * q.den))⟩]
theorem timK (w0 : World) (sa sb : Bool) (A : Option Addr) (L c : Nat) (A' : Option Addr) (L' c' : Nat) (B : Option Addr) (M d : Nat) (B' : Option Addr) (M' d' : Nat) (p q : Rat) : ∀ f ∈ timF w0 sa sb A L c A' L' c' B M d B' M' d' p q, ∀ vs w w', Gq w w' → f.says vs w → f.says vs w' :=
  fa_cons (fun _ _ _ hg h => h.gq hg) <|
  fa_cons (fun _ _ _ _ h => h) <|
  fa_cons (fun _ _ _ _ h => h) <|
  fa_cons (fun _ _ _ _ h => h) <|
  fa_cons (fun _ _ _ _ h => h) <|
  fa_cons (fun _ _ _ _ h => h) <|
  fa_cons (fun _ _ _ _ h => h) <|
  fa_cons (fun _ _ _ _ h => h) <|
  fa_cons (fun _ _ _ _ h => h) <|
  fa_cons (fun _ _ _ _ h => h) <|
  fa_cons (fun _ _ _ hg h => (by obtain ⟨X, N, f, h1, h2⟩ := h; exact ⟨X, N, f, h1, h2.below hg⟩)) <|
  fa_cons (fun _ _ _ _ h => h) <|
  fa_cons (fun _ _ _ _ h => h) <|
  fa_cons (fun _ _ _ _ h => h) <|
  fa_cons (fun _ _ _ _ h => h) <|
  fa_cons (fun _ _ _ hg h => (by obtain ⟨X, N, f, h1, h2⟩ := h; exact ⟨X, N, f, h1, h2.below hg⟩)) <|
  fa_cons (fun _ _ _ hg h => (by obtain ⟨s, X, N, f, Y, O, t, h1, h2⟩ := h; exact ⟨s, X, N, f, Y, O, t, h1, NumR.gq h2 hg⟩)) <|
  fa_cons (fun _ _ _ hg h => (by obtain ⟨s, X, N, f, Y, O, t, h1, h2⟩ := h; exact ⟨s, X, N, f, Y, O, t, blk_gqr h1 hg, NumR.gq h2 hg⟩)) <|
  fa_nil _
set_option maxRecDepth 100000 in
set_option maxHeartbeats 16000000 in
theorem timesQ_any (va vb : Value) (p q : Rat) (w : World) (h : NumQ w va p) (g : NumQ w vb q) (k : Nat) (hk : RLim k p) (gk : RLim k q) (hk2 : k + k ≤ 1000000) :
    Calls Tryd.prog 17 #[va, vb] w (NumRes (p * q) w) := by
  obtain ⟨R, hR⟩ : ∃ R, p * q = R := ⟨_, rfl⟩
  rw [hR]
  have HR : Hid (mkRat (p.num * q.num) (p.den * q.den) = R) := by show _ = _; rw [← hR]; exact by rw [← Rat.mkRat_mul_mkRat, mk_self, mk_self]
  clear hR
  obtain ⟨sa, hsa⟩ : ∃ s, decide (p.num < 0) = s := ⟨_, rfl⟩
  obtain ⟨sb, hsb⟩ : ∃ s, decide (q.num < 0) = s := ⟨_, rfl⟩
  have HSA := Lib.hid hsa
  have HSB := Lib.hid hsb
  unfold NumQ at h g
  rw [hsa] at h
  rw [hsb] at g
  clear hsa hsb
  obtain ⟨A, L, c, A', L', c', rfl, hu, hx⟩ := num_agg h
  obtain ⟨B, M, d, B', M', d', rfl, gu, gx⟩ := num_agg g
  obtain ⟨wa, hwa⟩ : ∃ wa, wa = w.alloc (.cells #[.bool sa, .slice A L c, .slice A' L' c'] 48) := ⟨_, rfl⟩
  obtain ⟨wb, hwb⟩ : ∃ wb, wb = wa.alloc (.cells #[.bool sb, .slice B M d, .slice B' M' d'] 48) := ⟨_, rfl⟩
  obtain ⟨w1, hw1⟩ : ∃ w1, w1 = wb.alloc (.cells #[.bool false, .slice none 0 0, .slice none 0 0] 48) := ⟨_, rfl⟩
  have z1 : wa.heap.size = w.heap.size + 1 := by rw [hwa]; simp
  have z2 : wb.heap.size = w.heap.size + 1 + 1 := by rw [hwb]; simp [z1]
  have ba : Gq w wa := by rw [hwa]; exact (Gq.refl _).alloc _
  have bb : Gq wa wb := by rw [hwb]; exact (Gq.refl _).alloc _
  have bc : Gq wb w1 := by rw [hw1]; exact (Gq.refl _).alloc _
  have HBASE : Hid (timB w sa sb A L c A' L' c' B M d B' M' d' p q w1.drew) := by
    have hd : Gq w1 w1.drew := (Gq.refl _).drew
    refine ⟨(ba.trans (bb.trans bc)).trans hd, ?_, ?_, ?_, ?_⟩
    · rw [← z2]; rw [hw1] at hd ⊢; exact NB.gq (NB.new _ _ (noI_bool _) (noI_slice _ _ _) (noI_slice _ _ _)) hd
    · refine blk_gqr (?_ : Blk wa w.heap.size _ _) (bb.trans (bc.trans hd)); rw [hwa]; exact Blk.new w _ _
    · refine blk_gqr (?_ : Blk wb (w.heap.size + 1) _ _) (bc.trans hd); rw [hwb, ← z1]; exact Blk.new wa _ _
    · have hg := (ba.trans (bb.trans bc)).trans hd
      exact ⟨hu.below hg, hx.below hg, gu.below hg, gx.below hg⟩
  have HK := Lib.hid (And.intro hk (And.intro gk hk2))
  rw [hwb, hwa] at hw1
  have HW1 := Lib.hid hw1
  clear hw1 hwa hwb h g hu hx gu gx hk gk hk2 ba bb bc z1 z2
  have HD : Hid (0 < p.den * q.den) := Nat.mul_pos p.den_pos q.den_pos
  have HSG := Lib.hid (fun h => sign_mul (p := p) (q := q) HSA.out HSB.out h)
  obtain ⟨w0, hw0⟩ : ∃ w0, w0 = w := ⟨_, rfl⟩
  subst hw0
  go_enter Tryd.func17, Tryd.ntmps17
  go_upto_region 1 with (fail)
  rw [← HW1.out]
  refine wp_region_factsK _ (by kernel_rfl) (by kernel_rfl) [[], [0], [], [2], [0, 1, 2, 3], [], [5], [], [7], [5, 6, 7, 8], [], [10], [], [12], [10, 11, 12, 13], [0, 1, 2, 3, 4, 5, 6, 7, 8, 9, 10, 11, 12, 13, 14], [0, 1, 2, 3, 4, 5, 6, 7, 8, 9, 10, 11, 12, 13, 14, 15]] (by kernel_rfl) [some 5, some 6, some 7, some 8, some 9, some 10, some 11, some 12, some 13, some 14, some 15, some 16, some 17, some 18, some 19, some 20, none] (by kernel_rfl) (fun vs => by simp only [putA, putL, if_true, Act.put, List.setIfInBounds_toArray, List.set_cons_zero, List.set_cons_succ]; rfl) (timF w0 sa sb A L c A' L' c' B M d B' M' d' p q) (by kernel_rfl) ?_ ⟨?_, ?_, ?_, ?_, ?_, ?_, ?_, ?_, ?_, ?_, ?_, ?_, ?_, ?_, ?_, ?_, ?_, trivial⟩ ?_
  · exact fa_zero [0] (by kernel_rfl) <| fa_cons (HBASE.out) <| fa_nil _
  · -- 0: Op.fieldAddr 84 t2 0
    intro Ls vs w Kk H hu hK
    replace hu : ∀ k ∈ ([] : List Nat), Ls k = true := hu
    have base : timB w0 sa sb A L c A' L' c' B M d B' M' d' p q w := H.up hu 0 rfl rfl
    have hKK := Lib.hid hK
    clear hK H
    go_simp
    refine hKK.out _ _ (fun f _ _ _ h => h) ?_
    exact fa_pick [1] (by kernel_rfl) <| fa_cons (fun _ => rfl) <| fa_nil _
  · -- 1: Op.load 4 t5
    intro Ls vs w Kk H hu hK
    replace hu : ∀ k ∈ ([0] : List Nat), Ls k = true := hu
    have base : timB w0 sa sb A L c A' L' c' B M d B' M' d' p q w := H.up hu 0 rfl rfl
    have f0 : vs 0 = .pointer (some ⟨w0.heap.size, 0, none⟩) := H.up hu 1 rfl rfl
    have d0 : w.cell? ⟨w0.heap.size, 0, none⟩ = _ := base.ka.cell 0
    have d1 : w.cell? ⟨w0.heap.size, 1, none⟩ = _ := base.ka.cell 1
    have d2 : w.cell? ⟨w0.heap.size, 2, none⟩ = _ := base.ka.cell 2
    simp only [List.getElem?_cons_zero, List.getElem?_cons_succ] at d0 d1 d2
    have hKK := Lib.hid hK
    clear hK H
    go_simp
    refine hKK.out _ _ (fun f _ _ _ h => h) ?_
    exact fa_pick [2] (by kernel_rfl) <| fa_cons (fun _ => rfl) <| fa_nil _
  · -- 2: Op.fieldAddr 84 t3 0
    intro Ls vs w Kk H hu hK
    replace hu : ∀ k ∈ ([] : List Nat), Ls k = true := hu
    have base : timB w0 sa sb A L c A' L' c' B M d B' M' d' p q w := H.up hu 0 rfl rfl
    have hKK := Lib.hid hK
    clear hK H
    go_simp
    refine hKK.out _ _ (fun f _ _ _ h => h) ?_
    exact fa_pick [3] (by kernel_rfl) <| fa_cons (fun _ => rfl) <| fa_nil _
  · -- 3: Op.load 4 t7
    intro Ls vs w Kk H hu hK
    replace hu : ∀ k ∈ ([2] : List Nat), Ls k = true := hu
    have base : timB w0 sa sb A L c A' L' c' B M d B' M' d' p q w := H.up hu 0 rfl rfl
    have f2 : vs 2 = .pointer (some ⟨w0.heap.size + 1, 0, none⟩) := H.up hu 3 rfl rfl
    have d0 : w.cell? ⟨w0.heap.size + 1, 0, none⟩ = _ := base.kb.cell 0
    have d1 : w.cell? ⟨w0.heap.size + 1, 1, none⟩ = _ := base.kb.cell 1
    have d2 : w.cell? ⟨w0.heap.size + 1, 2, none⟩ = _ := base.kb.cell 2
    simp only [List.getElem?_cons_zero, List.getElem?_cons_succ] at d0 d1 d2
    have hKK := Lib.hid hK
    clear hK H
    go_simp
    refine hKK.out _ _ (fun f _ _ _ h => h) ?_
    exact fa_pick [4] (by kernel_rfl) <| fa_cons (fun _ => rfl) <| fa_nil _
  · -- 4: Op.binOp BinOp.neq 4 t6 t8 4
    intro Ls vs w Kk H hu hK
    replace hu : ∀ k ∈ ([0, 1, 2, 3] : List Nat), Ls k = true := hu
    have base : timB w0 sa sb A L c A' L' c' B M d B' M' d' p q w := H.up hu 0 rfl rfl
    have f1 : vs 1 = .bool sa := H.up hu 2 rfl rfl
    have f3 : vs 3 = .bool sb := H.up hu 4 rfl rfl
    have hKK := Lib.hid hK
    clear hK H
    go_simp
    refine hKK.out _ _ (fun f _ _ _ h => h) ?_
    exact fa_pick [5] (by kernel_rfl) <| fa_cons (fun _ => rfl) <| fa_nil _
  · -- 5: Op.fieldAddr 84 t2 1
    intro Ls vs w Kk H hu hK
    replace hu : ∀ k ∈ ([] : List Nat), Ls k = true := hu
    have base : timB w0 sa sb A L c A' L' c' B M d B' M' d' p q w := H.up hu 0 rfl rfl
    have hKK := Lib.hid hK
    clear hK H
    go_simp
    refine hKK.out _ _ (fun f _ _ _ h => h) ?_
    exact fa_pick [6] (by kernel_rfl) <| fa_cons (fun _ => rfl) <| fa_nil _
  · -- 6: Op.load 63 t10
    intro Ls vs w Kk H hu hK
    replace hu : ∀ k ∈ ([5] : List Nat), Ls k = true := hu
    have base : timB w0 sa sb A L c A' L' c' B M d B' M' d' p q w := H.up hu 0 rfl rfl
    have f5 : vs 5 = .pointer (some ⟨w0.heap.size, 1, none⟩) := H.up hu 6 rfl rfl
    have d0 : w.cell? ⟨w0.heap.size, 0, none⟩ = _ := base.ka.cell 0
    have d1 : w.cell? ⟨w0.heap.size, 1, none⟩ = _ := base.ka.cell 1
    have d2 : w.cell? ⟨w0.heap.size, 2, none⟩ = _ := base.ka.cell 2
    simp only [List.getElem?_cons_zero, List.getElem?_cons_succ] at d0 d1 d2
    have hKK := Lib.hid hK
    clear hK H
    go_simp
    refine hKK.out _ _ (fun f _ _ _ h => h) ?_
    exact fa_pick [7] (by kernel_rfl) <| fa_cons (fun _ => rfl) <| fa_nil _
  · -- 7: Op.fieldAddr 84 t3 1
    intro Ls vs w Kk H hu hK
    replace hu : ∀ k ∈ ([] : List Nat), Ls k = true := hu
    have base : timB w0 sa sb A L c A' L' c' B M d B' M' d' p q w := H.up hu 0 rfl rfl
    have hKK := Lib.hid hK
    clear hK H
    go_simp
    refine hKK.out _ _ (fun f _ _ _ h => h) ?_
    exact fa_pick [8] (by kernel_rfl) <| fa_cons (fun _ => rfl) <| fa_nil _
  · -- 8: Op.load 63 t12
    intro Ls vs w Kk H hu hK
    replace hu : ∀ k ∈ ([7] : List Nat), Ls k = true := hu
    have base : timB w0 sa sb A L c A' L' c' B M d B' M' d' p q w := H.up hu 0 rfl rfl
    have f7 : vs 7 = .pointer (some ⟨w0.heap.size + 1, 1, none⟩) := H.up hu 8 rfl rfl
    have d0 : w.cell? ⟨w0.heap.size + 1, 0, none⟩ = _ := base.kb.cell 0
    have d1 : w.cell? ⟨w0.heap.size + 1, 1, none⟩ = _ := base.kb.cell 1
    have d2 : w.cell? ⟨w0.heap.size + 1, 2, none⟩ = _ := base.kb.cell 2
    simp only [List.getElem?_cons_zero, List.getElem?_cons_succ] at d0 d1 d2
    have hKK := Lib.hid hK
    clear hK H
    go_simp
    refine hKK.out _ _ (fun f _ _ _ h => h) ?_
    exact fa_pick [9] (by kernel_rfl) <| fa_cons (fun _ => rfl) <| fa_nil _
  · -- 9: Op.call { value (Operand.func 116), args := #[t11, t13], argTypes := #[63, 63] }
    intro Ls vs w Kk H hu hK
    replace hu : ∀ k ∈ ([5, 6, 7, 8] : List Nat), Ls k = true := hu
    have base : timB w0 sa sb A L c A' L' c' B M d B' M' d' p q w := H.up hu 0 rfl rfl
    have f6 : vs 6 = .slice A L c := H.up hu 7 rfl rfl
    have f8 : vs 8 = .slice B M d := H.up hu 9 rfl rfl
    have hKK := Lib.hid hK
    clear hK H
    go_simp
    refine (timesR_any _ _ _ _ w base.v.1 base.v.2.2.1 k k HK.out.1.1 HK.out.2.1.1 (Nat.le_trans HK.out.2.2 (by omega))).mono ?_
    rintro e w' ⟨v, rfl, hv, -, hb⟩
    obtain ⟨X, N, f, rfl⟩ := lim_form hv
    refine ⟨_, rfl, hKK.out _ _ (fun f hf _ _ h => timK w0 sa sb A L c A' L' c' B M d B' M' d' p q f hf _ _ _ hb h) ?_⟩
    exact fa_pick [10] (by kernel_rfl) <| fa_cons (fun _ => ⟨X, N, f, rfl, hv⟩) <| fa_nil _
  · -- 10: Op.fieldAddr 84 t2 2
    intro Ls vs w Kk H hu hK
    replace hu : ∀ k ∈ ([] : List Nat), Ls k = true := hu
    have base : timB w0 sa sb A L c A' L' c' B M d B' M' d' p q w := H.up hu 0 rfl rfl
    have hKK := Lib.hid hK
    clear hK H
    go_simp
    refine hKK.out _ _ (fun f _ _ _ h => h) ?_
    exact fa_pick [11] (by kernel_rfl) <| fa_cons (fun _ => rfl) <| fa_nil _
  · -- 11: Op.load 63 t15
    intro Ls vs w Kk H hu hK
    replace hu : ∀ k ∈ ([10] : List Nat), Ls k = true := hu
    have base : timB w0 sa sb A L c A' L' c' B M d B' M' d' p q w := H.up hu 0 rfl rfl
    have f10 : vs 10 = .pointer (some ⟨w0.heap.size, 2, none⟩) := H.up hu 11 rfl rfl
    have d0 : w.cell? ⟨w0.heap.size, 0, none⟩ = _ := base.ka.cell 0
    have d1 : w.cell? ⟨w0.heap.size, 1, none⟩ = _ := base.ka.cell 1
    have d2 : w.cell? ⟨w0.heap.size, 2, none⟩ = _ := base.ka.cell 2
    simp only [List.getElem?_cons_zero, List.getElem?_cons_succ] at d0 d1 d2
    have hKK := Lib.hid hK
    clear hK H
    go_simp
    refine hKK.out _ _ (fun f _ _ _ h => h) ?_
    exact fa_pick [12] (by kernel_rfl) <| fa_cons (fun _ => rfl) <| fa_nil _
  · -- 12: Op.fieldAddr 84 t3 2
    intro Ls vs w Kk H hu hK
    replace hu : ∀ k ∈ ([] : List Nat), Ls k = true := hu
    have base : timB w0 sa sb A L c A' L' c' B M d B' M' d' p q w := H.up hu 0 rfl rfl
    have hKK := Lib.hid hK
    clear hK H
    go_simp
    refine hKK.out _ _ (fun f _ _ _ h => h) ?_
    exact fa_pick [13] (by kernel_rfl) <| fa_cons (fun _ => rfl) <| fa_nil _
  · -- 13: Op.load 63 t17
    intro Ls vs w Kk H hu hK
    replace hu : ∀ k ∈ ([12] : List Nat), Ls k = true := hu
    have base : timB w0 sa sb A L c A' L' c' B M d B' M' d' p q w := H.up hu 0 rfl rfl
    have f12 : vs 12 = .pointer (some ⟨w0.heap.size + 1, 2, none⟩) := H.up hu 13 rfl rfl
    have d0 : w.cell? ⟨w0.heap.size + 1, 0, none⟩ = _ := base.kb.cell 0
    have d1 : w.cell? ⟨w0.heap.size + 1, 1, none⟩ = _ := base.kb.cell 1
    have d2 : w.cell? ⟨w0.heap.size + 1, 2, none⟩ = _ := base.kb.cell 2
    simp only [List.getElem?_cons_zero, List.getElem?_cons_succ] at d0 d1 d2
    have hKK := Lib.hid hK
    clear hK H
    go_simp
    refine hKK.out _ _ (fun f _ _ _ h => h) ?_
    exact fa_pick [14] (by kernel_rfl) <| fa_cons (fun _ => rfl) <| fa_nil _
  · -- 14: Op.call { value (Operand.func 116), args := #[t16, t18], argTypes := #[63, 63] }
    intro Ls vs w Kk H hu hK
    replace hu : ∀ k ∈ ([10, 11, 12, 13] : List Nat), Ls k = true := hu
    have base : timB w0 sa sb A L c A' L' c' B M d B' M' d' p q w := H.up hu 0 rfl rfl
    have f11 : vs 11 = .slice A' L' c' := H.up hu 12 rfl rfl
    have f13 : vs 13 = .slice B' M' d' := H.up hu 14 rfl rfl
    have hKK := Lib.hid hK
    clear hK H
    go_simp
    refine (timesR_any _ _ _ _ w base.v.2.1 base.v.2.2.2 k k HK.out.1.2 HK.out.2.1.2 (Nat.le_trans HK.out.2.2 (by omega))).mono ?_
    rintro e w' ⟨v, rfl, hv, -, hb⟩
    obtain ⟨X, N, f, rfl⟩ := lim_form hv
    refine ⟨_, rfl, hKK.out _ _ (fun f hf _ _ h => timK w0 sa sb A L c A' L' c' B M d B' M' d' p q f hf _ _ _ hb h) ?_⟩
    exact fa_pick [15] (by kernel_rfl) <| fa_cons (fun _ => ⟨X, N, f, rfl, hv⟩) <| fa_nil _
  · -- 15: Op.call { value (Operand.func 113), args := #[t9, t14, t19], argTypes := #[4, 63, 63] }
    intro Ls vs w Kk H hu hK
    replace hu : ∀ k ∈ ([0, 1, 2, 3, 4, 5, 6, 7, 8, 9, 10, 11, 12, 13, 14] : List Nat), Ls k = true := hu
    have base : timB w0 sa sb A L c A' L' c' B M d B' M' d' p q w := H.up hu 0 rfl rfl
    have f4 : vs 4 = .bool (sa != sb) := H.up hu 5 rfl rfl
    have qx9 : ∃ X N f, vs 9 = .slice X N f ∧ LimV w (.slice X N f) (p.num.natAbs * q.num.natAbs) := H.up hu 10 rfl rfl
    obtain ⟨Xx9, Nx9, fx9, ex9, vx9⟩ := qx9
    have qx14 : ∃ X N f, vs 14 = .slice X N f ∧ LimV w (.slice X N f) (p.den * q.den) := H.up hu 15 rfl rfl
    obtain ⟨Xx14, Nx14, fx14, ex14, vx14⟩ := qx14
    have hKK := Lib.hid hK
    clear hK H
    go_simp
    refine (lowestR_any (sa != sb) _ _ (p.num.natAbs * q.num.natAbs) (p.den * q.den) (p.num * q.num) w vx9 vx14 HD.out (Int.natAbs_mul _ _) HSG.out (k + k) (HK.out.1.1.mul HK.out.2.1.1) (HK.out.1.2.mul HK.out.2.1.2) (Nat.le_trans HK.out.2.2 (by omega))).mono ?_
    rintro e w' ⟨v, rfl, hv, hb⟩
    obtain ⟨X, N, f, Y, O, t, rfl, -, -⟩ := num_agg hv
    refine ⟨_, rfl, hKK.out _ _ (fun f hf _ _ h => timK w0 sa sb A L c A' L' c' B M d B' M' d' p q f hf _ _ _ hb h) ?_⟩
    exact fa_pick [16] (by kernel_rfl) <| fa_cons (fun _ => ⟨_, X, N, f, Y, O, t, rfl, hv⟩) <| fa_nil _
  · -- 16: Op.store 84 t4 t20
    intro Ls vs w Kk H hu hK
    replace hu : ∀ k ∈ ([0, 1, 2, 3, 4, 5, 6, 7, 8, 9, 10, 11, 12, 13, 14, 15] : List Nat), Ls k = true := hu
    have base : timB w0 sa sb A L c A' L' c' B M d B' M' d' p q w := H.up hu 0 rfl rfl
    have qx15 : ∃ s X N f Y O t, vs 15 = .agg #[.bool s, .slice X N f, .slice Y O t] ∧ NumQ w (.agg #[.bool s, .slice X N f, .slice Y O t]) (mkRat (p.num * q.num) (p.den * q.den)) := H.up hu 16 rfl rfl
    obtain ⟨sx15, Xx15, Nx15, fx15, Yx15, Ox15, tx15, ex15, vx15⟩ := qx15
    obtain ⟨x0, x1, x2, c0, c1, c2, d0, d1, d2⟩ := base.nb.cells
    have hKK := Lib.hid hK
    clear hK H
    go_simp
    have ho := otr3 w (w0.heap.size + 1 + 1) (.bool sx15) (.slice Xx15 Nx15 fx15) (.slice Yx15 Ox15 tx15)
    refine hKK.out _ _ (fa_cons (fun _ _ h => h.store (noI_bool _) (noI_slice _ _ _) (noI_slice _ _ _)) <|
      fa_cons (fun _ _ h => h) <|
      fa_cons (fun _ _ h => h) <|
      fa_cons (fun _ _ h => h) <|
      fa_cons (fun _ _ h => h) <|
      fa_cons (fun _ _ h => h) <|
      fa_cons (fun _ _ h => h) <|
      fa_cons (fun _ _ h => h) <|
      fa_cons (fun _ _ h => h) <|
      fa_cons (fun _ _ h => h) <|
      fa_cons (fun _ _ h => (by obtain ⟨X, N, f, h1, h2⟩ := h; exact ⟨X, N, f, h1, base.nb.lim ho h2⟩)) <|
      fa_cons (fun _ _ h => h) <|
      fa_cons (fun _ _ h => h) <|
      fa_cons (fun _ _ h => h) <|
      fa_cons (fun _ _ h => h) <|
      fa_cons (fun _ _ h => (by obtain ⟨X, N, f, h1, h2⟩ := h; exact ⟨X, N, f, h1, base.nb.lim ho h2⟩)) <|
      fa_cons (fun _ _ h => (by obtain ⟨s, X, N, f, Y, O, t, h1, h2⟩ := h; exact ⟨s, X, N, f, Y, O, t, h1, base.nb.num ho h2⟩)) <|
      fa_cons (fun hn => absurd (show (16 : Nat) ∈ ([16] : List Nat) from by decide) hn) <| fa_nil _) ?_
    exact fa_pick [17] (by kernel_rfl) <| fa_cons (fun _ => ⟨sx15, Xx15, Nx15, fx15, Yx15, Ox15, tx15, base.nb.store, base.nb.num ho vx15⟩) <| fa_nil _
  · intro vs w H
    have base : timB w0 sa sb A L c A' L' c' B M d B' M' d' p q w := fa_at H 0 rfl
    have f0 : vs 0 = .pointer (some ⟨w0.heap.size, 0, none⟩) := fa_at H 1 rfl
    have f1 : vs 1 = .bool sa := fa_at H 2 rfl
    have f2 : vs 2 = .pointer (some ⟨w0.heap.size + 1, 0, none⟩) := fa_at H 3 rfl
    have f3 : vs 3 = .bool sb := fa_at H 4 rfl
    have f4 : vs 4 = .bool (sa != sb) := fa_at H 5 rfl
    have f5 : vs 5 = .pointer (some ⟨w0.heap.size, 1, none⟩) := fa_at H 6 rfl
    have f6 : vs 6 = .slice A L c := fa_at H 7 rfl
    have f7 : vs 7 = .pointer (some ⟨w0.heap.size + 1, 1, none⟩) := fa_at H 8 rfl
    have f8 : vs 8 = .slice B M d := fa_at H 9 rfl
    have f10 : vs 10 = .pointer (some ⟨w0.heap.size, 2, none⟩) := fa_at H 11 rfl
    have f11 : vs 11 = .slice A' L' c' := fa_at H 12 rfl
    have f12 : vs 12 = .pointer (some ⟨w0.heap.size + 1, 2, none⟩) := fa_at H 13 rfl
    have f13 : vs 13 = .slice B' M' d' := fa_at H 14 rfl
    have qres : ∃ s X N f Y O t, Blk w (w0.heap.size + 1 + 1) 48 [.bool s, .slice X N f, .slice Y O t] ∧ NumQ w (.agg #[.bool s, .slice X N f, .slice Y O t]) (mkRat (p.num * q.num) (p.den * q.den)) := fa_at H 17 rfl
    obtain ⟨s, X, N, f, Y, O, t, hk, hv⟩ := qres
    clear H
    simp only [Nat.zero_add, Nat.reduceAdd]
    have k2 := hk.cell 0
    have k3 := hk.cell 1
    have k4 := hk.cell 2
    simp only [List.getElem?_cons_zero, List.getElem?_cons_succ] at k2 k3 k4
    have HH : Hid (NumQ w (.agg #[.bool s, .slice X N f, .slice Y O t]) R ∧ Gq w0 w) := ⟨by rw [← HR.out]; exact hv, base.g⟩
    clear hk hv base
    simp only [f0, f1, f2, f3, f4, f5, f6, f7, f8, f10, f11, f12, f13]
    clear f0 f1 f2 f3 f4 f5 f6 f7 f8 f10 f11 f12 f13
    generalize vs 9 = z9
    generalize vs 14 = z14
    generalize vs 15 = z15
    go_wp2_with fail
    exact bodyPost_ret (v := .agg #[.bool s, .slice X N f, .slice Y O t]) (by simp [results, Tryd.results17, go_sem, k2, k3, k4]) rfl ⟨_, rfl, HH.out.1, HH.out.2⟩
end Go.Proofs.YtlmgdofhmgpljaaDoor
