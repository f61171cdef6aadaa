/- The contract of edit.value. -/
import Derived.Test.YtmknpeoflafaoabGreatDoorBsp
import Derived.Test.YtmknpeoflafaoabGreatDoorRatX
import Derived.Test.YtmknpeoflafaoabGreatDoorRatZ
namespace Go.Proofs.YtmknpeoflafaoabGreatDoor
open Go.RowKit Go.Dw
attribute [local go_sem ↓] Go.wp_at_zero Go.wp_at_succ
attribute [local go_sem] Go.Dw.Oper.tame

/-- a right ratio's value -/
theorem fromQ_any (n d : ByteArray) (w : World) (h : ratF n d = 0) (hn : n.size ≤ 1099511627776) (hd : d.size ≤ 1099511627776) :
    Calls Tryz.prog 33 #[.agg #[.string n, .string d]] w (RatRes (mkRat (numZ n) (valD d.data.toList)) w) := by
  have hr := ratR_of h
  obtain ⟨h1, h2, h3⟩ := ratQ_low h
  refine (from_any n d w hn hd ((noZ_iff _).1 hr.nz).1 ((noZ_iff _).1 hr.dz).1 h3).mono fun e W ⟨v, g1, g2, g3⟩ => ⟨v, g1, ?_, g3⟩
  unfold RatV
  rw [h1, h2]
  exact g2
theorem rat_agg {w : World} {v : Value} {q : Rat} (h : RatV w v q) : ∃ s A L c B M d, v = .agg #[.bool s, .slice A L c, .slice B M d] := by
  obtain ⟨x, y, rfl, hx, hy, _⟩ := h
  obtain ⟨A, L, c, rfl⟩ := slice_nat hx
  obtain ⟨B, M, d, rfl⟩ := slice_nat hy
  exact ⟨_, _, _, _, _, _, _, rfl⟩
theorem pnt_lim {ln : Int} {p : Pnt} (h : PntR ln p) : RLim 40 (ratQ p) ∧ p.n.size ≤ 41 ∧ p.d.size ≤ 40 := by
  obtain ⟨h1, h2, h3⟩ := ratQ_low h.r
  have hr := ratR_of h.r
  refine ⟨⟨?_, ?_⟩, ?_, ?_⟩
  · unfold ratQ; rw [h1, numZ_abs]; exact lim_valD ((noZ_iff _).1 hr.nz).1 h.n
  · unfold ratQ; rw [h2]; exact lim_valD ((noZ_iff _).1 hr.dz).1 h.d
  · have := boT_ge p.n; have := h.n; omega
  · rw [← ba_len]; exact h.d
theorem blkTwo (w : World) : Blk ((w.alloc (.cells #[.bool false, .slice none 0 0, .slice none 0 0] 47)).alloc (.cells #[.bool false, .slice none 0 0, .slice none 0 0] 47)) (w.heap.size + 1) 47 [.bool false, .slice none 0 0, .slice none 0 0] := by
  have k2 := Blk.new (w.alloc (.cells #[.bool false, .slice none 0 0, .slice none 0 0] 47)) 47 [.bool false, .slice none 0 0, .slice none 0 0]
  have e2 : (w.alloc (.cells #[.bool false, .slice none 0 0, .slice none 0 0] 47)).heap.size = w.heap.size + 1 := by simp
  rw [e2] at k2
  exact k2
theorem twoPt (w : World) (pa qa : Int) (pn pd qn qd : ByteArray) : Hid (Gq w ((w.alloc (.cells #[.int .i64 pa, .string pn, .string pd] 78)).alloc (.cells #[.int .i64 qa, .string qn, .string qd] 78)).drew ∧
    Blk ((w.alloc (.cells #[.int .i64 pa, .string pn, .string pd] 78)).alloc (.cells #[.int .i64 qa, .string qn, .string qd] 78)).drew w.heap.size 78 [.int .i64 pa, .string pn, .string pd] ∧
    Blk ((w.alloc (.cells #[.int .i64 pa, .string pn, .string pd] 78)).alloc (.cells #[.int .i64 qa, .string qn, .string qd] 78)).drew (w.heap.size + 1) 78 [.int .i64 qa, .string qn, .string qd]) := by
  have k1 := Blk.new w 78 [.int .i64 pa, .string pn, .string pd]
  have k2 := Blk.new (w.alloc (.cells #[.int .i64 pa, .string pn, .string pd] 78)) 78 [.int .i64 qa, .string qn, .string qd]
  have e2 : (w.alloc (.cells #[.int .i64 pa, .string pn, .string pd] 78)).heap.size = w.heap.size + 1 := by simp
  rw [e2] at k2
  exact ⟨(((Gq.refl _).alloc _).alloc _).drew, k1.same (Same.alloc (S := fun _ => True) _ _) trivial, k2⟩
theorem twoQt (w : World) (pa qa : Int) (pn pd qn qd : ByteArray) : Hid (Gq w ((w.alloc (.cells #[.int .i64 qa, .string qn, .string qd] 78)).alloc (.cells #[.int .i64 pa, .string pn, .string pd] 78)).drew ∧
    Blk ((w.alloc (.cells #[.int .i64 qa, .string qn, .string qd] 78)).alloc (.cells #[.int .i64 pa, .string pn, .string pd] 78)).drew (w.heap.size + 1) 78 [.int .i64 pa, .string pn, .string pd] ∧
    Blk ((w.alloc (.cells #[.int .i64 qa, .string qn, .string qd] 78)).alloc (.cells #[.int .i64 pa, .string pn, .string pd] 78)).drew w.heap.size 78 [.int .i64 qa, .string qn, .string qd]) := by
  obtain ⟨h1, h2, h3⟩ := (twoPt w qa pa qn qd pn pd).out
  exact ⟨h1, h3, h2⟩
def v10F (wc : World) (g8 g9 : Nat) (pa qa : Int) (pn pd qn qd : ByteArray) : List Fact := [
  ⟨[], fun _ W => Gq wc W ∧ Blk W g8 78 [.int .i64 pa, .string pn, .string pd] ∧ Blk W g9 78 [.int .i64 qa, .string qn, .string qd] ∧ g8 < wc.heap.size ∧ g9 < wc.heap.size⟩,
  ⟨[0], fun vs _ => vs 0 = .pointer (some ⟨g8, 1, none⟩)⟩,
  ⟨[1], fun vs _ => vs 1 = .agg #[.string pn, .string pd]⟩,
  ⟨[2], fun vs W => ∃ s A1 L1 c1 A2 L2 c2, vs 2 = .agg #[.bool s, .slice A1 L1 c1, .slice A2 L2 c2] ∧ RatV W (.agg #[.bool s, .slice A1 L1 c1, .slice A2 L2 c2]) (ratQ ⟨pa, pn, pd⟩)⟩,
  ⟨[3], fun vs _ => vs 3 = .pointer (some ⟨g9, 1, none⟩)⟩,
  ⟨[4], fun vs _ => vs 4 = .agg #[.string qn, .string qd]⟩,
  ⟨[5], fun vs W => ∃ s A1 L1 c1 A2 L2 c2, vs 5 = .agg #[.bool s, .slice A1 L1 c1, .slice A2 L2 c2] ∧ RatV W (.agg #[.bool s, .slice A1 L1 c1, .slice A2 L2 c2]) (ratQ ⟨qa, qn, qd⟩)⟩,
  ⟨[6], fun vs W => ∃ g, vs 6 = .pointer (some ⟨g, 0, none⟩) ∧ wc.heap.size ≤ g ∧ QB W g⟩,
  ⟨[7], fun vs W => ∃ g, vs 7 = .pointer (some ⟨g, 0, none⟩) ∧ wc.heap.size ≤ g ∧ QB W g⟩,
  ⟨[6, 7], fun vs _ => vs 6 ≠ vs 7⟩,
  ⟨[6, 8], fun vs W => ∃ g, vs 6 = .pointer (some ⟨g, 0, none⟩) ∧ wc.heap.size ≤ g ∧ RatB W g (ratQ ⟨pa, pn, pd⟩)⟩,
  ⟨[7, 9], fun vs W => ∃ g, vs 7 = .pointer (some ⟨g, 0, none⟩) ∧ wc.heap.size ≤ g ∧ RatB W g (ratQ ⟨qa, qn, qd⟩)⟩]
theorem v10K (wc : World) (g8 g9 : Nat) (pa qa : Int) (pn pd qn qd : ByteArray) : ∀ f ∈ v10F wc g8 g9 pa qa pn pd qn qd, ∀ vs w w', Gq w w' → f.says vs w → f.says vs w' :=
  fa_cons (fun _ _ _ hg h => ⟨h.1.trans hg, blk_gq h.2.1 hg, blk_gq h.2.2.1 hg, h.2.2.2⟩) <|
  fa_cons (fun _ _ _ _ h => h) <|
  fa_cons (fun _ _ _ _ h => h) <|
  fa_cons (fun _ _ _ hg h => (by obtain ⟨s, A1, L1, c1, A2, L2, c2, h1, h2⟩ := h; exact ⟨s, A1, L1, c1, A2, L2, c2, h1, h2.gq hg⟩)) <|
  fa_cons (fun _ _ _ _ h => h) <|
  fa_cons (fun _ _ _ _ h => h) <|
  fa_cons (fun _ _ _ hg h => (by obtain ⟨s, A1, L1, c1, A2, L2, c2, h1, h2⟩ := h; exact ⟨s, A1, L1, c1, A2, L2, c2, h1, h2.gq hg⟩)) <|
  fa_cons (fun _ _ _ hg h => (by obtain ⟨g, h1, h2, h3⟩ := h; exact ⟨g, h1, h2, h3.gq hg⟩)) <|
  fa_cons (fun _ _ _ hg h => (by obtain ⟨g, h1, h2, h3⟩ := h; exact ⟨g, h1, h2, h3.gq hg⟩)) <|
  fa_cons (fun _ _ _ _ h => h) <|
  fa_cons (fun _ _ _ hg h => (by obtain ⟨g, h1, h2, h3⟩ := h; exact ⟨g, h1, h2, h3.gq hg⟩)) <|
  fa_cons (fun _ _ _ hg h => (by obtain ⟨g, h1, h2, h3⟩ := h; exact ⟨g, h1, h2, h3.gq hg⟩)) <|
  fa_nil _
def v11F (w0 : World) (g8 g9 ga gb : Nat) (pa qa i : Int) (pn pd qn qd : ByteArray) : List Fact := [
  ⟨[], fun _ W => Gq w0 W ∧ w0.heap.size + 1 < W.heap.size ∧ QB W (w0.heap.size + 1) ∧ Blk W g8 78 [.int .i64 pa, .string pn, .string pd] ∧ Blk W g9 78 [.int .i64 qa, .string qn, .string qd] ∧ RatB W ga (ratQ ⟨pa, pn, pd⟩) ∧ RatB W gb (ratQ ⟨qa, qn, qd⟩)⟩,
  ⟨[0], fun vs W => ∃ s A1 L1 c1 A2 L2 c2, vs 0 = .agg #[.bool s, .slice A1 L1 c1, .slice A2 L2 c2] ∧ RatV W (.agg #[.bool s, .slice A1 L1 c1, .slice A2 L2 c2]) (ratQ ⟨pa, pn, pd⟩)⟩,
  ⟨[1], fun vs W => ∃ s A1 L1 c1 A2 L2 c2, vs 1 = .agg #[.bool s, .slice A1 L1 c1, .slice A2 L2 c2] ∧ RatV W (.agg #[.bool s, .slice A1 L1 c1, .slice A2 L2 c2]) (ratQ ⟨qa, qn, qd⟩)⟩,
  ⟨[2], fun vs W => ∃ s A1 L1 c1 A2 L2 c2, vs 2 = .agg #[.bool s, .slice A1 L1 c1, .slice A2 L2 c2] ∧ RatV W (.agg #[.bool s, .slice A1 L1 c1, .slice A2 L2 c2]) (ratQ ⟨pa, pn, pd⟩)⟩,
  ⟨[3], fun vs W => ∃ s A1 L1 c1 A2 L2 c2, vs 3 = .agg #[.bool s, .slice A1 L1 c1, .slice A2 L2 c2] ∧ RatV W (.agg #[.bool s, .slice A1 L1 c1, .slice A2 L2 c2]) ((ratQ ⟨qa, qn, qd⟩ - ratQ ⟨pa, pn, pd⟩))⟩,
  ⟨[4], fun vs _ => vs 4 = .int .i64 i⟩,
  ⟨[5], fun vs _ => vs 5 = .pointer (some ⟨g8, 0, none⟩)⟩,
  ⟨[6], fun vs _ => vs 6 = .int .i64 pa⟩,
  ⟨[7], fun vs _ => vs 7 = .int .i64 (i - pa)⟩,
  ⟨[8], fun vs _ => vs 8 = .pointer (some ⟨g9, 0, none⟩)⟩,
  ⟨[9], fun vs _ => vs 9 = .int .i64 qa⟩,
  ⟨[10], fun vs _ => vs 10 = .pointer (some ⟨g8, 0, none⟩)⟩,
  ⟨[11], fun vs _ => vs 11 = .int .i64 pa⟩,
  ⟨[12], fun vs _ => vs 12 = .int .i64 (qa - pa)⟩,
  ⟨[13], fun vs W => ∃ s A1 L1 c1 A2 L2 c2, vs 13 = .agg #[.bool s, .slice A1 L1 c1, .slice A2 L2 c2] ∧ RatV W (.agg #[.bool s, .slice A1 L1 c1, .slice A2 L2 c2]) (mkRat (i - pa) (qa - pa).toNat)⟩,
  ⟨[14], fun vs W => ∃ s A1 L1 c1 A2 L2 c2, vs 14 = .agg #[.bool s, .slice A1 L1 c1, .slice A2 L2 c2] ∧ RatV W (.agg #[.bool s, .slice A1 L1 c1, .slice A2 L2 c2]) ((ratQ ⟨qa, qn, qd⟩ - ratQ ⟨pa, pn, pd⟩) * mkRat (i - pa) (qa - pa).toNat)⟩,
  ⟨[15], fun vs W => ∃ s A1 L1 c1 A2 L2 c2, vs 15 = .agg #[.bool s, .slice A1 L1 c1, .slice A2 L2 c2] ∧ RatV W (.agg #[.bool s, .slice A1 L1 c1, .slice A2 L2 c2]) (ratQ ⟨pa, pn, pd⟩ + (ratQ ⟨qa, qn, qd⟩ - ratQ ⟨pa, pn, pd⟩) * mkRat (i - pa) (qa - pa).toNat)⟩,
  ⟨[16], fun _ W => RatB W (w0.heap.size + 1) (ratQ ⟨pa, pn, pd⟩ + (ratQ ⟨qa, qn, qd⟩ - ratQ ⟨pa, pn, pd⟩) * mkRat (i - pa) (qa - pa).toNat)⟩]
theorem v11K (w0 : World) (g8 g9 ga gb : Nat) (pa qa i : Int) (pn pd qn qd : ByteArray) : ∀ f ∈ v11F w0 g8 g9 ga gb pa qa i pn pd qn qd, ∀ vs w w', Gq w w' → f.says vs w → f.says vs w' :=
  fa_cons (fun _ _ _ hg h => ⟨h.1.trans hg, Nat.lt_of_lt_of_le h.2.1 (Below.size hg), h.2.2.1.gq hg, blk_gq h.2.2.2.1 hg, blk_gq h.2.2.2.2.1 hg, h.2.2.2.2.2.1.gq hg, h.2.2.2.2.2.2.gq hg⟩) <|
  fa_cons (fun _ _ _ hg h => (by obtain ⟨s, A1, L1, c1, A2, L2, c2, h1, h2⟩ := h; exact ⟨s, A1, L1, c1, A2, L2, c2, h1, h2.gq hg⟩)) <|
  fa_cons (fun _ _ _ hg h => (by obtain ⟨s, A1, L1, c1, A2, L2, c2, h1, h2⟩ := h; exact ⟨s, A1, L1, c1, A2, L2, c2, h1, h2.gq hg⟩)) <|
  fa_cons (fun _ _ _ hg h => (by obtain ⟨s, A1, L1, c1, A2, L2, c2, h1, h2⟩ := h; exact ⟨s, A1, L1, c1, A2, L2, c2, h1, h2.gq hg⟩)) <|
  fa_cons (fun _ _ _ hg h => (by obtain ⟨s, A1, L1, c1, A2, L2, c2, h1, h2⟩ := h; exact ⟨s, A1, L1, c1, A2, L2, c2, h1, h2.gq hg⟩)) <|
  fa_cons (fun _ _ _ _ h => h) <|
  fa_cons (fun _ _ _ _ h => h) <|
  fa_cons (fun _ _ _ _ h => h) <|
  fa_cons (fun _ _ _ _ h => h) <|
  fa_cons (fun _ _ _ _ h => h) <|
  fa_cons (fun _ _ _ _ h => h) <|
  fa_cons (fun _ _ _ _ h => h) <|
  fa_cons (fun _ _ _ _ h => h) <|
  fa_cons (fun _ _ _ _ h => h) <|
  fa_cons (fun _ _ _ hg h => (by obtain ⟨s, A1, L1, c1, A2, L2, c2, h1, h2⟩ := h; exact ⟨s, A1, L1, c1, A2, L2, c2, h1, h2.gq hg⟩)) <|
  fa_cons (fun _ _ _ hg h => (by obtain ⟨s, A1, L1, c1, A2, L2, c2, h1, h2⟩ := h; exact ⟨s, A1, L1, c1, A2, L2, c2, h1, h2.gq hg⟩)) <|
  fa_cons (fun _ _ _ hg h => (by obtain ⟨s, A1, L1, c1, A2, L2, c2, h1, h2⟩ := h; exact ⟨s, A1, L1, c1, A2, L2, c2, h1, h2.gq hg⟩)) <|
  fa_cons (fun _ _ _ hg h => h.gq hg) <|
  fa_nil _
set_option maxRecDepth 100000 in
set_option maxHeartbeats 8000000 in
theorem valueE_any (x : CliM) (i : Int) (w : World) (h : CliOk w x) (hv : envF x.ln x.e.xs = 0) (hln : x.ln ≤ 100000) (hi : 0 ≤ i ∧ i < 100000) :
    Calls Tryz.prog 11 #[x.v, .int .i64 i] w (RatRes (valQ x.e.xs i) w) := by
  obtain ⟨he1, he2, he3⟩ := envF_ok hv
  have hinc := envF_inc hv
  obtain ⟨xm, xc, xf, xt, xa, xl, ⟨A, d, xs⟩⟩ := x
  have HER : Hid (Rd w A (xs.flatMap Pnt.cs)) := h.er
  have HP : Hid (∀ p ∈ xs, PntR xl p) := he3
  have HINC : Hid (IncP xs) := hinc
  have hl1 : 0 < xs.length := he1
  have hl2 : xs.length ≤ 50 := he2
  have hxl : xl ≤ 100000 := hln
  have HFR : Hid (∀ (k : Nat) (hk : k < xs.length) (W : World), Calls Tryz.prog 33 #[.agg #[.string xs[k].n, .string xs[k].d]] W (RatRes (ratQ xs[k]) W)) := fun k hk W => by
    have hp := HP.out _ (List.getElem_mem hk)
    obtain ⟨_, s1, s2⟩ := pnt_lim hp
    exact fromQ_any _ _ W hp.r (by omega) (by omega)
  have HGD : Hid (∀ (k : Nat) (hk : k < xs.length), xs.getD k dPnt = xs[k]) := fun k hk => by rw [List.getD_eq_getElem?_getD, List.getElem?_eq_getElem hk]; rfl
  clear h hv he1 he2 he3 hinc hln
  simp only [CliM.v, Slc.v]
  obtain ⟨R, hR⟩ : ∃ R, valQ xs i = R := ⟨_, rfl⟩
  rw [hR]
  have HR := Lib.hid hR
  clear hR
  obtain ⟨wa, hwa⟩ : ∃ wa, wa = w.alloc (.cells #[.string xm, .int .i64 xc, .int .i64 xf, .int .i64 xt, .int .i64 xa, .int .i64 xl, .slice A xs.length d] 40) := ⟨_, rfl⟩
  obtain ⟨w1, hw1⟩ : ∃ w1, w1 = wa.alloc (.cells #[.bool false, .slice none 0 0, .slice none 0 0] 47) := ⟨_, rfl⟩
  have z1 : wa.heap.size = w.heap.size + 1 := by rw [hwa]; simp
  have ba : Below w.heap.size w wa := by rw [hwa]; exact (Below.refl _ _).alloc (Nat.le_refl _) _
  have HB : Hid (Box w w1 (w.heap.size + 1) 47 [.bool false, .slice none 0 0, .slice none 0 0]) := by
    rw [hw1]
    refine ⟨ba.alloc ba.size _, by omega, ?_, fun c hc m => by simp at hc; rcases hc with rfl | rfl <;> simp⟩
    rw [← z1]; exact Blk.new wa _ _
  have HKX : Hid (Blk w1 w.heap.size 40 [.string xm, .int .i64 xc, .int .i64 xf, .int .i64 xt, .int .i64 xa, .int .i64 xl, .slice A xs.length d]) := by
    rw [hw1]
    refine Blk.same (w := wa) ?_ (Same.alloc (S := fun _ => True) _ _) trivial
    rw [hwa]; exact Blk.new w _ _
  rw [hwa] at hw1
  have HW1 := Lib.hid hw1
  clear hw1 hwa ba z1
  have c6 : w1.cell? ⟨w.heap.size, 6, none⟩ = some (.slice A xs.length d) := HKX.out.cell 6
  have HBS := Lib.hid (bsp_any A d xs i w1 (HER.out.below HB.out.bel) (by omega) HINC.out)
  obtain ⟨k, hk⟩ : ∃ k, lowP xs i = k := ⟨_, rfl⟩
  rw [hk] at HBS
  have HK := Lib.hid hk
  have hkl : k ≤ xs.length := by rw [← hk]; exact lowP_le _ _
  clear hk
  -- the end of each way: a result in the box
  have HEND : Hid (∀ (W : World) (A1 : Option Addr) (L1 c1 : Nat) (A2 : Option Addr) (L2 c2 : Nat) (s : Bool), Gq w1 W → RatV W (.agg #[.bool s, .slice A1 L1 c1, .slice A2 L2 c2]) R →
      RatRes R w (.returned (.agg #[.bool s, .slice A1 L1 c1, .slice A2 L2 c2])) (((W.setCell ⟨w.heap.size + 1, 0, none⟩ (.bool s)).setCell ⟨w.heap.size + 1, 1, none⟩ (.slice A1 L1 c1)).setCell ⟨w.heap.size + 1, 2, none⟩ (.slice A2 L2 c2))) := fun W A1 L1 c1 A2 L2 c2 s hW hq => by
    obtain ⟨k1, _, k5⟩ := HB.out.store3 (W := W) hW HB.out.bel.size (.bool s) (.slice A1 L1 c1) (.slice A2 L2 c2)
    obtain ⟨u, b, e, h1, h2, h3⟩ := hq
    exact ⟨_, rfl, ⟨u, b, e, by
      injection e with e
      simp only [Array.mk.injEq, List.cons.injEq, and_true] at e
      exact k5 _ _ h1, k5 _ _ h2, h3⟩, k1⟩
  have HCE : Hid (∀ W, Gq w1 W → W.cell? ⟨w.heap.size + 1, 0, none⟩ = some (.bool false) ∧ W.cell? ⟨w.heap.size + 1, 1, none⟩ = some (.slice none 0 0) ∧ W.cell? ⟨w.heap.size + 1, 2, none⟩ = some (.slice none 0 0) ∧ W.frozen? ⟨w.heap.size + 1, 0, none⟩ = false ∧ W.frozen? ⟨w.heap.size + 1, 1, none⟩ = false ∧ W.frozen? ⟨w.heap.size + 1, 2, none⟩ = false) := fun W hW =>
    ⟨(HB.out.at_ hW 0).1, (HB.out.at_ hW 1).1, (HB.out.at_ hW 2).1, (HB.out.at_ hW 0).2, (HB.out.at_ hW 1).2, (HB.out.at_ hW 2).2⟩
  go_enter Tryz.func11, Tryz.ntmps11
  go_upto_region 1 with (fail)
  rw [← HW1.out]
  go_wp2_with fail
  refine HBS.out.mono ?_
  rintro e w2 ⟨rfl, hg2⟩
  have HG2 : Hid (Gq w1 w2) := hg2
  clear hg2 c6
  obtain ⟨b, off, hA, hbb, hc⟩ := pnt_at (HER.out.below (HB.out.bel.trans (Below.mono HG2.out HB.out.bel.size))) hl1
  subst hA
  have HC := Lib.hid hc
  clear hc
  by_cases hat : k < xs.length ∧ (xs.getD k dPnt).at_ = i
  · have hkk := hat.1
    have hq : ratQ xs[k] = R := by
      have h1 := valQ_at HINC.out (i := i) (by rw [HK.out]; exact hkk) (by rw [HK.out]; exact hat.2)
      rw [← HR.out, h1, HK.out, HGD.out k hkk]
    have hd : decide (k < xs.length ∧ (xs.getD k dPnt).at_ = i) = true := decide_eq_true hat
    rw [hd]
    have hx0 : (0 : Int) ≤ (k : Int) := by omega
    have hx1 : (k : Int) < (xs.length : Int) := by omega
    clear hat hd
    obtain ⟨p0, p1, p2⟩ := HC.out k hkk
    have HFQ := Lib.hid (HFR.out k hkk w2)
    rw [show ratQ xs[k] = R from hq] at HFQ
    generalize xs[k] = pt at p0 p1 p2 HFQ
    obtain ⟨pa, pn, pd⟩ := pt
    simp only at p0 p1 p2 HFQ
    go_wp2_with fail
    refine HFQ.out.mono ?_
    rintro e w3 ⟨v, rfl, hv, hb3⟩
    obtain ⟨s, A1, L1, c1, A2, L2, c2, rfl⟩ := rat_agg hv
    have hg3 : Gq w1 w3 := HG2.out.trans hb3
    obtain ⟨q0, q1, q2, q3, q4, q5⟩ := HCE.out w3 hg3
    have HF := Lib.hid (HEND.out w3 A1 L1 c1 A2 L2 c2 s hg3 hv)
    obtain ⟨-, ⟨k2, k3, k4⟩, -⟩ := HB.out.store3 (W := w3) hg3 HB.out.bel.size (.bool s) (.slice A1 L1 c1) (.slice A2 L2 c2)
    clear hv hb3 hg3 p0 p1 p2
    go_wp2_with fail
    exact bodyPost_ret (v := .agg #[.bool s, .slice A1 L1 c1, .slice A2 L2 c2]) (by simp [results, Tryz.results11, go_sem, k2, k3, k4]) rfl HF.out
  · have hd : decide (k < xs.length ∧ (xs.getD k dPnt).at_ = i) = false := decide_eq_false hat
    rw [hd]
    clear hat hd
    by_cases h0 : k = 0
    · have hq : ratQ xs[0] = R := by
        rw [← HR.out, valQ_zero (by rw [HK.out]; exact h0), HGD.out 0 hl1]
      have hx0 : (0 : Int) < (xs.length : Int) := by omega
      subst h0
      obtain ⟨p0, p1, p2⟩ := HC.out 0 hl1
      rw [Nat.zero_mul, Nat.add_zero] at p0 p1 p2
      have HFQ := Lib.hid (HFR.out 0 hl1 w2)
      rw [show ratQ xs[0] = R from hq] at HFQ
      generalize xs[0] = pt at p0 p1 p2 HFQ
      obtain ⟨pa, pn, pd⟩ := pt
      simp only at p0 p1 p2 HFQ
      go_wp2_with fail
      refine HFQ.out.mono ?_
      rintro e w3 ⟨v, rfl, hv, hb3⟩
      obtain ⟨s, A1, L1, c1, A2, L2, c2, rfl⟩ := rat_agg hv
      have hg3 : Gq w1 w3 := HG2.out.trans hb3
      obtain ⟨q0, q1, q2, q3, q4, q5⟩ := HCE.out w3 hg3
      have HF := Lib.hid (HEND.out w3 A1 L1 c1 A2 L2 c2 s hg3 hv)
      obtain ⟨-, ⟨k2, k3, k4⟩, -⟩ := HB.out.store3 (W := w3) hg3 HB.out.bel.size (.bool s) (.slice A1 L1 c1) (.slice A2 L2 c2)
      clear hv hb3 hg3 p0 p1 p2
      go_wp2_with fail
      exact bodyPost_ret (v := .agg #[.bool s, .slice A1 L1 c1, .slice A2 L2 c2]) (by simp [results, Tryz.results11, go_sem, k2, k3, k4]) rfl HF.out
    · have hk0 : ((k : Int) == 0) = false := by simp; omega
      by_cases hkl2 : k = xs.length
      · have hq : ratQ xs[xs.length - 1] = R := by
          rw [← HR.out, valQ_last (by rw [HK.out]; exact h0) (by rw [HK.out]; exact hkl2), HGD.out _ (by omega)]
        have hke : ((k : Int) == (xs.length : Int)) = true := by simp; omega
        obtain ⟨m, hm⟩ : ∃ m, m = xs.length - 1 := ⟨_, rfl⟩
        have hmk : IntKind.i64.wrap ((k : Int) - 1) = (m : Int) := by rw [show (k : Int) - 1 = (m : Int) by omega]; exact IntWalk.i64_in _ (by omega)
        have hml : m < xs.length := by omega
        have hx0 : (0 : Int) ≤ (m : Int) := by omega
        have hx1 : (m : Int) < (xs.length : Int) := by omega
        have hq2 : ratQ xs[m] = R := by simp only [hm]; exact hq
        have HKL : Hid (k = xs.length) := hkl2
        clear hm hq h0 hkl2
        obtain ⟨p0, p1, p2⟩ := HC.out m hml
        have HFQ := Lib.hid (HFR.out m hml w2)
        rw [show ratQ xs[m] = R from hq2] at HFQ
        generalize xs[m] = pt at p0 p1 p2 HFQ
        obtain ⟨pa, pn, pd⟩ := pt
        simp only at p0 p1 p2 HFQ
        go_wp2_with fail
        refine HFQ.out.mono ?_
        rintro e w3 ⟨v, rfl, hv, hb3⟩
        obtain ⟨s, A1, L1, c1, A2, L2, c2, rfl⟩ := rat_agg hv
        have hg3 : Gq w1 w3 := HG2.out.trans hb3
        obtain ⟨q0, q1, q2, q3, q4, q5⟩ := HCE.out w3 hg3
        have HF := Lib.hid (HEND.out w3 A1 L1 c1 A2 L2 c2 s hg3 hv)
        obtain ⟨-, ⟨k2, k3, k4⟩, -⟩ := HB.out.store3 (W := w3) hg3 HB.out.bel.size (.bool s) (.slice A1 L1 c1) (.slice A2 L2 c2)
        clear hv hb3 hg3 p0 p1 p2
        go_wp2_with fail
        exact bodyPost_ret (v := .agg #[.bool s, .slice A1 L1 c1, .slice A2 L2 c2]) (by simp [results, Tryz.results11, go_sem, k2, k3, k4]) rfl HF.out
      · have hke : ((k : Int) == (xs.length : Int)) = false := by simp; omega
        obtain ⟨m, hm⟩ : ∃ m, k = m + 1 := ⟨k - 1, by omega⟩
        subst hm
        have hm1 : m < xs.length := by omega
        have hm2 : m + 1 < xs.length := by omega
        have hmk : IntKind.i64.wrap ((m : Int) + 1 - 1) = (m : Int) := by rw [Int.add_sub_cancel]; exact IntWalk.i64_in _ (by omega)
        have hmk2 : IntKind.i64.wrap (m : Int) = (m : Int) := IntWalk.i64_in _ (by omega)
        have hx0 : (0 : Int) ≤ (m : Int) := by omega
        have hx1 : (m : Int) < (xs.length : Int) := by omega
        have hx2 : (0 : Int) ≤ (m : Int) + 1 := by omega
        have hx3 : (m : Int) + 1 < (xs.length : Int) := by omega
        have hq : segQ xs[m] xs[m + 1] i = R := by
          rw [← HR.out, valQ_seg (by rw [HK.out]; exact h0) (by rw [HK.out]; exact hkl2), HK.out, Nat.add_sub_cancel, HGD.out m hm1, HGD.out (m + 1) hm2]
        have hlt : xs[m].at_ < xs[m + 1].at_ := by
          have := HINC.out m hm2
          rw [HGD.out m hm1, HGD.out (m + 1) hm2] at this
          exact this
        obtain ⟨la, -, -⟩ := pnt_lim (HP.out _ (List.getElem_mem hm1))
        obtain ⟨lb, -, -⟩ := pnt_lim (HP.out _ (List.getElem_mem hm2))
        have ra := (HP.out _ (List.getElem_mem hm1)).a
        have rb := (HP.out _ (List.getElem_mem hm2)).a
        have HF1 := Lib.hid (HFR.out m hm1)
        have HF2 := Lib.hid (HFR.out (m + 1) hm2)
        obtain ⟨p0, p1, p2⟩ := HC.out m hm1
        obtain ⟨r0, r1, r2⟩ := HC.out (m + 1) hm2
        generalize xs[m] = pp at *
        generalize xs[m + 1] = pq at *
        obtain ⟨pa, pn, pd⟩ := pp
        obtain ⟨qa, qn, qd⟩ := pq
        simp only at p0 p1 p2 r0 r1 r2 ra rb hlt HF1 HF2
        have HLA := Lib.hid la
        have HLB := Lib.hid lb
        have HSQ := Lib.hid hq
        clear la lb hq h0 hkl2
        go_upto_region 9 with (fail)
        go_cut [8, 9] (fun v8 v9 wx => ∃ g8 g9 : Nat, v8 = .pointer (some ⟨g8, 0, none⟩) ∧ v9 = .pointer (some ⟨g9, 0, none⟩) ∧ Hid (Gq w2 wx ∧ Blk wx g8 78 [.int .i64 pa, .string pn, .string pd] ∧ Blk wx g9 78 [.int .i64 qa, .string qn, .string qd]))
        case first =>
          go_wp2_with fail
          go_region
          all_goals
            go_wp2_with fail
            go_meet
            case rel => first | exact ⟨_, _, rfl, rfl, twoPt w2 _ _ _ _ _ _⟩ | exact ⟨_, _, rfl, rfl, twoQt w2 _ _ _ _ _ _⟩
        case rest =>
          obtain ⟨g8, g9, rfl, rfl, H8⟩ := hcut
          have HGC : Hid (Gq w1 wc) := HG2.out.trans H8.out.1
          have HS8 : Hid (∀ W, Gq wc W → W.cell? ⟨g8, 0, none⟩ = some (.int .i64 pa) ∧ W.cell? ⟨g8, 1, none⟩ = some (.string pn) ∧ W.cell? ⟨g8, 2, none⟩ = some (.string pd) ∧ W.cell? ⟨g9, 0, none⟩ = some (.int .i64 qa) ∧ W.cell? ⟨g9, 1, none⟩ = some (.string qn) ∧ W.cell? ⟨g9, 2, none⟩ = some (.string qd) ∧ Gq wc W) := fun W hW => by
            have k1 := H8.out.2.1.same (Same.of_below (S := fun _ => True) hW) trivial
            have k2 := H8.out.2.2.same (Same.of_below (S := fun _ => True) hW) trivial
            exact ⟨k1.cell 0, k1.cell 1, k1.cell 2, k2.cell 0, k2.cell 1, k2.cell 2, hW⟩
          have HFA : Hid (∀ W, Gq wc W → Calls Tryz.prog 33 #[.agg #[.string pn, .string pd]] W fun e W' => ∃ s A1 L1 c1 A2 L2 c2, e = .returned (.agg #[.bool s, .slice A1 L1 c1, .slice A2 L2 c2]) ∧ Hid (RatV W' (.agg #[.bool s, .slice A1 L1 c1, .slice A2 L2 c2]) (ratQ ⟨pa, pn, pd⟩)) ∧ Hid (Below W.heap.size W W') ∧ Gq wc W') := fun W hW =>
            (HF1.out W).mono fun e W' ⟨v, h1, h2, h3⟩ => by
              obtain ⟨s, A1, L1, c1, A2, L2, c2, rfl⟩ := rat_agg h2
              exact ⟨s, A1, L1, c1, A2, L2, c2, h1, h2, h3, hW.trans h3⟩
          have HFB : Hid (∀ W, Gq wc W → Calls Tryz.prog 33 #[.agg #[.string qn, .string qd]] W fun e W' => ∃ s A1 L1 c1 A2 L2 c2, e = .returned (.agg #[.bool s, .slice A1 L1 c1, .slice A2 L2 c2]) ∧ Hid (RatV W' (.agg #[.bool s, .slice A1 L1 c1, .slice A2 L2 c2]) (ratQ ⟨qa, qn, qd⟩)) ∧ Hid (Below W.heap.size W W') ∧ Gq wc W') := fun W hW =>
            (HF2.out W).mono fun e W' ⟨v, h1, h2, h3⟩ => by
              obtain ⟨s, A1, L1, c1, A2, L2, c2, rfl⟩ := rat_agg h2
              exact ⟨s, A1, L1, c1, A2, L2, c2, h1, h2, h3, hW.trans h3⟩
          obtain ⟨s0, s1, s2, t0, t1, t2, -⟩ := HS8.out wc (Gq.refl _)
          have hBD : Gq wc wc.drew := (Gq.refl _).drew
          have hBR : Gq wc wc := Gq.refl _
          clear p0 p1 p2 r0 r1 r2
          go_upto_region 10 with (fail)
          go_cut [10, 11] (fun v10 v11 wx => ∃ g10 g11 : Nat, v10 = .pointer (some ⟨g10, 0, none⟩) ∧ v11 = .pointer (some ⟨g11, 0, none⟩) ∧ Hid (Gq wc wx ∧ wc.heap.size ≤ g10 ∧ wc.heap.size ≤ g11 ∧ RatB wx g10 (ratQ ⟨pa, pn, pd⟩) ∧ RatB wx g11 (ratQ ⟨qa, qn, qd⟩)))
          case first =>
            have HFA2 : Hid (∀ W, Calls Tryz.prog 33 #[.agg #[.string pn, .string pd]] W (RatRes (ratQ ⟨pa, pn, pd⟩) W)) := HF1.out
            have HFB2 : Hid (∀ W, Calls Tryz.prog 33 #[.agg #[.string qn, .string qd]] W (RatRes (ratQ ⟨qa, qn, qd⟩) W)) := HF2.out
            clear s0 s1 s2 t0 t1 t2 hBD hBR
            refine wp_region_factsK _ (by kernel_rfl) (by kernel_rfl) [[], [0], [0, 1], [], [3], [3, 4], [], [], [0, 1, 2, 6], [3, 4, 5, 7]] (by kernel_rfl) [some 57, some 58, some 59, some 60, some 61, some 62, some 10, some 11, none, none] (by kernel_rfl) (fun vs => by simp only [putA, putL, if_true, Act.put, List.setIfInBounds_toArray, List.set_cons_zero, List.set_cons_succ]; rfl) (v10F wc g8 g9 pa qa pn pd qn qd) (by kernel_rfl) ?_ ⟨?_, ?_, ?_, ?_, ?_, ?_, ?_, ?_, ?_, ?_, trivial⟩ ?_
            · exact fa_zero [0] (by kernel_rfl) <| fa_cons (⟨(Gq.refl _).drew, blk_gq H8.out.2.1 (Gq.refl _).drew, blk_gq H8.out.2.2 (Gq.refl _).drew, H8.out.2.1.lt, H8.out.2.2.lt⟩) <| fa_nil _
            · -- 0: Op.fieldAddr 70 t8 1
              intro Ls vs w Kk H hu hK
              replace hu : ∀ k ∈ ([] : List Nat), Ls k = true := hu
              have qbase : Gq wc w ∧ Blk w g8 78 [.int .i64 pa, .string pn, .string pd] ∧ Blk w g9 78 [.int .i64 qa, .string qn, .string qd] ∧ g8 < wc.heap.size ∧ g9 < wc.heap.size := H.up hu 0 rfl rfl
              obtain ⟨h0, h8, h9, l8, l9⟩ := qbase
              have hKK := Lib.hid hK
              clear hK H
              go_simp
              refine hKK.out _ _ (fun f _ _ _ h => h) ?_
              exact fa_pick [1] (by kernel_rfl) <| fa_cons (fun _ => rfl) <| fa_nil _
            · -- 1: Op.load 38 t57
              intro Ls vs w Kk H hu hK
              replace hu : ∀ k ∈ ([0] : List Nat), Ls k = true := hu
              have qbase : Gq wc w ∧ Blk w g8 78 [.int .i64 pa, .string pn, .string pd] ∧ Blk w g9 78 [.int .i64 qa, .string qn, .string qd] ∧ g8 < wc.heap.size ∧ g9 < wc.heap.size := H.up hu 0 rfl rfl
              obtain ⟨h0, h8, h9, l8, l9⟩ := qbase
              have f0 : vs 0 = .pointer (some ⟨g8, 1, none⟩) := H.up hu 1 rfl rfl
              have c81 : w.cell? ⟨g8, 1, none⟩ = _ := h8.cell 1
              have c82 : w.cell? ⟨g8, 2, none⟩ = _ := h8.cell 2
              have hKK := Lib.hid hK
              clear hK H
              go_simp
              refine hKK.out _ _ (fun f _ _ _ h => h) ?_
              exact fa_pick [2] (by kernel_rfl) <| fa_cons (fun _ => rfl) <| fa_nil _
            · -- 2: Op.call { value (Operand.func 86), args := #[t58], argTypes := #[38] }
              intro Ls vs w Kk H hu hK
              replace hu : ∀ k ∈ ([0, 1] : List Nat), Ls k = true := hu
              have qbase : Gq wc w ∧ Blk w g8 78 [.int .i64 pa, .string pn, .string pd] ∧ Blk w g9 78 [.int .i64 qa, .string qn, .string qd] ∧ g8 < wc.heap.size ∧ g9 < wc.heap.size := H.up hu 0 rfl rfl
              obtain ⟨h0, h8, h9, l8, l9⟩ := qbase
              have f1 : vs 1 = .agg #[.string pn, .string pd] := H.up hu 2 rfl rfl
              have hKK := Lib.hid hK
              clear hK H
              go_simp
              refine (HFA2.out w).mono ?_
              rintro e w' ⟨v, rfl, hv, hb⟩
              obtain ⟨s, A1, L1, c1, A2, L2, c2, rfl⟩ := rat_agg hv
              refine ⟨_, rfl, hKK.out _ _ (fun f hf _ _ h => v10K wc g8 g9 pa qa pn pd qn qd f hf _ _ _ hb h) ?_⟩
              exact fa_pick [3] (by kernel_rfl) <| fa_cons (fun _ => ⟨s, A1, L1, c1, A2, L2, c2, rfl, hv⟩) <| fa_nil _
            · -- 3: Op.fieldAddr 70 t9 1
              intro Ls vs w Kk H hu hK
              replace hu : ∀ k ∈ ([] : List Nat), Ls k = true := hu
              have qbase : Gq wc w ∧ Blk w g8 78 [.int .i64 pa, .string pn, .string pd] ∧ Blk w g9 78 [.int .i64 qa, .string qn, .string qd] ∧ g8 < wc.heap.size ∧ g9 < wc.heap.size := H.up hu 0 rfl rfl
              obtain ⟨h0, h8, h9, l8, l9⟩ := qbase
              have hKK := Lib.hid hK
              clear hK H
              go_simp
              refine hKK.out _ _ (fun f _ _ _ h => h) ?_
              exact fa_pick [4] (by kernel_rfl) <| fa_cons (fun _ => rfl) <| fa_nil _
            · -- 4: Op.load 38 t60
              intro Ls vs w Kk H hu hK
              replace hu : ∀ k ∈ ([3] : List Nat), Ls k = true := hu
              have qbase : Gq wc w ∧ Blk w g8 78 [.int .i64 pa, .string pn, .string pd] ∧ Blk w g9 78 [.int .i64 qa, .string qn, .string qd] ∧ g8 < wc.heap.size ∧ g9 < wc.heap.size := H.up hu 0 rfl rfl
              obtain ⟨h0, h8, h9, l8, l9⟩ := qbase
              have f3 : vs 3 = .pointer (some ⟨g9, 1, none⟩) := H.up hu 4 rfl rfl
              have c91 : w.cell? ⟨g9, 1, none⟩ = _ := h9.cell 1
              have c92 : w.cell? ⟨g9, 2, none⟩ = _ := h9.cell 2
              have hKK := Lib.hid hK
              clear hK H
              go_simp
              refine hKK.out _ _ (fun f _ _ _ h => h) ?_
              exact fa_pick [5] (by kernel_rfl) <| fa_cons (fun _ => rfl) <| fa_nil _
            · -- 5: Op.call { value (Operand.func 86), args := #[t61], argTypes := #[38] }
              intro Ls vs w Kk H hu hK
              replace hu : ∀ k ∈ ([3, 4] : List Nat), Ls k = true := hu
              have qbase : Gq wc w ∧ Blk w g8 78 [.int .i64 pa, .string pn, .string pd] ∧ Blk w g9 78 [.int .i64 qa, .string qn, .string qd] ∧ g8 < wc.heap.size ∧ g9 < wc.heap.size := H.up hu 0 rfl rfl
              obtain ⟨h0, h8, h9, l8, l9⟩ := qbase
              have f4 : vs 4 = .agg #[.string qn, .string qd] := H.up hu 5 rfl rfl
              have hKK := Lib.hid hK
              clear hK H
              go_simp
              refine (HFB2.out w).mono ?_
              rintro e w' ⟨v, rfl, hv, hb⟩
              obtain ⟨s, A1, L1, c1, A2, L2, c2, rfl⟩ := rat_agg hv
              refine ⟨_, rfl, hKK.out _ _ (fun f hf _ _ h => v10K wc g8 g9 pa qa pn pd qn qd f hf _ _ _ hb h) ?_⟩
              exact fa_pick [6] (by kernel_rfl) <| fa_cons (fun _ => ⟨s, A1, L1, c1, A2, L2, c2, rfl, hv⟩) <| fa_nil _
            · -- 6: Op.alloc 80
              intro Ls vs w Kk H hu hK
              replace hu : ∀ k ∈ ([] : List Nat), Ls k = true := hu
              have qbase : Gq wc w ∧ Blk w g8 78 [.int .i64 pa, .string pn, .string pd] ∧ Blk w g9 78 [.int .i64 qa, .string qn, .string qd] ∧ g8 < wc.heap.size ∧ g9 < wc.heap.size := H.up hu 0 rfl rfl
              obtain ⟨h0, h8, h9, l8, l9⟩ := qbase
              have HH := Lib.hid H
              have hKK := Lib.hid hK
              clear hK H
              go_simp
              refine hKK.out _ _ (fun f hf _ _ h => v10K wc g8 g9 pa qa pn pd qn qd f hf _ _ _ (Gq.alloc (Gq.refl _) _) h) ?_
              exact fa_pick [7, 9, 10] (by kernel_rfl) <| fa_cons (fun _ => ⟨_, rfl, Below.size h0, QB.new _⟩) <|
                  fa_cons (fun hL => (by obtain ⟨gz, e1, -, e3⟩ := HH.out.at_ 8 rfl (fun k hk => by rw [List.mem_singleton.1 hk]; exact (hL 7 (show (7 : Nat) ∈ ([6, 7] : List Nat) from by decide) (show (7 : Nat) ≠ 6 from by decide)).1); intro e; have e4 : Value.pointer (some ⟨gz, 0, none⟩) = .pointer (some ⟨w.heap.size, 0, none⟩) := (Eq.symm e1).trans (Eq.symm e); injection e4 with e4; injection e4 with e4; injection e4 with e4; have := QB.lt e3; omega)) <|
                  fa_cons (fun hL => absurd (show (6 : Nat) ∈ ([0, 1, 2, 6] : List Nat) from by decide) (hL 8 (show (8 : Nat) ∈ ([6, 8] : List Nat) from by decide) (show (8 : Nat) ≠ 6 from by decide)).2) <| fa_nil _
            · -- 7: Op.alloc 80
              intro Ls vs w Kk H hu hK
              replace hu : ∀ k ∈ ([] : List Nat), Ls k = true := hu
              have qbase : Gq wc w ∧ Blk w g8 78 [.int .i64 pa, .string pn, .string pd] ∧ Blk w g9 78 [.int .i64 qa, .string qn, .string qd] ∧ g8 < wc.heap.size ∧ g9 < wc.heap.size := H.up hu 0 rfl rfl
              obtain ⟨h0, h8, h9, l8, l9⟩ := qbase
              have HH := Lib.hid H
              have hKK := Lib.hid hK
              clear hK H
              go_simp
              refine hKK.out _ _ (fun f hf _ _ h => v10K wc g8 g9 pa qa pn pd qn qd f hf _ _ _ (Gq.alloc (Gq.refl _) _) h) ?_
              exact fa_pick [8, 9, 11] (by kernel_rfl) <| fa_cons (fun _ => ⟨_, rfl, Below.size h0, QB.new _⟩) <|
                  fa_cons (fun hL => (by obtain ⟨gz, e1, -, e3⟩ := HH.out.at_ 7 rfl (fun k hk => by rw [List.mem_singleton.1 hk]; exact (hL 6 (show (6 : Nat) ∈ ([6, 7] : List Nat) from by decide) (show (6 : Nat) ≠ 7 from by decide)).1); intro e; have e4 : Value.pointer (some ⟨gz, 0, none⟩) = .pointer (some ⟨w.heap.size, 0, none⟩) := (Eq.symm e1).trans e; injection e4 with e4; injection e4 with e4; injection e4 with e4; have := QB.lt e3; omega)) <|
                  fa_cons (fun hL => absurd (show (7 : Nat) ∈ ([3, 4, 5, 7] : List Nat) from by decide) (hL 9 (show (9 : Nat) ∈ ([7, 9] : List Nat) from by decide) (show (9 : Nat) ≠ 7 from by decide)).2) <| fa_nil _
            · -- 8: Op.store 80 t10 t59
              intro Ls vs w Kk H hu hK
              replace hu : ∀ k ∈ ([0, 1, 2, 6] : List Nat), Ls k = true := hu
              have qbase : Gq wc w ∧ Blk w g8 78 [.int .i64 pa, .string pn, .string pd] ∧ Blk w g9 78 [.int .i64 qa, .string qn, .string qd] ∧ g8 < wc.heap.size ∧ g9 < wc.heap.size := H.up hu 0 rfl rfl
              obtain ⟨h0, h8, h9, l8, l9⟩ := qbase
              have qx : ∃ s A1 L1 c1 A2 L2 c2, vs 2 = .agg #[.bool s, .slice A1 L1 c1, .slice A2 L2 c2] ∧ RatV w (.agg #[.bool s, .slice A1 L1 c1, .slice A2 L2 c2]) (ratQ ⟨pa, pn, pd⟩) := H.up hu 3 rfl rfl
              obtain ⟨sx, Ax, Lx, cx, Axx, Lxx, cxx, ex, vx⟩ := qx
              have qga : ∃ g, vs 6 = .pointer (some ⟨g, 0, none⟩) ∧ wc.heap.size ≤ g ∧ QB w g := H.up hu 7 rfl rfl
              obtain ⟨ga, ega, lga, bga⟩ := qga
              obtain ⟨x0, x1, x2, c0, c1, c2, d0, d1, d2⟩ := bga.cells
              have HNE : Hid (∀ {l : List Nat}, (∀ j ∈ l, Ls j = true) → 7 ∈ l → vs 6 ≠ vs 7) := fun {l} hl hm => (H.at_ 9 rfl (fun k hk => by
                have h6 : Ls 6 = true := hu _ (by decide)
                have h7 : Ls 7 = true := hl _ hm
                simp only [List.mem_cons, List.not_mem_nil, or_false] at hk
                rcases hk with rfl | rfl <;> assumption) : vs 6 ≠ vs 7)
              have hKK := Lib.hid hK
              clear hK H
              go_simp
              have ho := otw3 w ga (.bool sx) (.slice Ax Lx cx) (.slice Axx Lxx cxx)
              refine hKK.out _ _ (fa_cons (fun _ hl h => ⟨gq_set3 h.1 lga _ _ _, ho.blk h.2.1 (by omega), ho.blk h.2.2.1 (by omega), h.2.2.2⟩) <|
                fa_cons (fun _ hl h => h) <|
                fa_cons (fun _ hl h => h) <|
                fa_cons (fun _ hl h => (by obtain ⟨s, A1, L1, c1, A2, L2, c2, h1, h2⟩ := h; exact ⟨s, A1, L1, c1, A2, L2, c2, h1, bga.rat ho h2⟩)) <|
                fa_cons (fun _ hl h => h) <|
                fa_cons (fun _ hl h => h) <|
                fa_cons (fun _ hl h => (by obtain ⟨s, A1, L1, c1, A2, L2, c2, h1, h2⟩ := h; exact ⟨s, A1, L1, c1, A2, L2, c2, h1, bga.rat ho h2⟩)) <|
                fa_cons (fun _ hl h => (by obtain ⟨g, h1, h2, h3⟩ := h; refine ⟨g, h1, h2, ?_⟩; have e4 := (Eq.symm ega).trans h1; injection e4 with e4; injection e4 with e4; injection e4 with e4; subst e4; exact bga.stored (noW_bool _) (noW_slice _ _ _) (noW_slice _ _ _))) <|
                fa_cons (fun _ hl h => (by obtain ⟨g, h1, h2, h3⟩ := h; refine ⟨g, h1, h2, h3.other ho ?_⟩; rintro rfl; exact HNE.out hl (show (7 : Nat) ∈ ([7] : List Nat) from by decide) (ega.trans (Eq.symm h1)))) <|
                fa_cons (fun _ hl h => h) <|
                fa_cons (fun hn => absurd (show (8 : Nat) ∈ ([6, 8] : List Nat) from by decide) hn) <|
                fa_cons (fun _ hl h => (by obtain ⟨g, h1, h2, h3⟩ := h; refine ⟨g, h1, h2, h3.other bga ho ?_⟩; rintro rfl; exact HNE.out hl (show (7 : Nat) ∈ ([7, 9] : List Nat) from by decide) (ega.trans (Eq.symm h1)))) <| fa_nil _) ?_
              exact fa_pick [10] (by kernel_rfl) <| fa_cons (fun _ => ⟨ga, ega, lga, sx, Ax, Lx, cx, Axx, Lxx, cxx, bga.store, bga.rat ho vx⟩) <| fa_nil _
            · -- 9: Op.store 80 t11 t62
              intro Ls vs w Kk H hu hK
              replace hu : ∀ k ∈ ([3, 4, 5, 7] : List Nat), Ls k = true := hu
              have qbase : Gq wc w ∧ Blk w g8 78 [.int .i64 pa, .string pn, .string pd] ∧ Blk w g9 78 [.int .i64 qa, .string qn, .string qd] ∧ g8 < wc.heap.size ∧ g9 < wc.heap.size := H.up hu 0 rfl rfl
              obtain ⟨h0, h8, h9, l8, l9⟩ := qbase
              have qy : ∃ s A1 L1 c1 A2 L2 c2, vs 5 = .agg #[.bool s, .slice A1 L1 c1, .slice A2 L2 c2] ∧ RatV w (.agg #[.bool s, .slice A1 L1 c1, .slice A2 L2 c2]) (ratQ ⟨qa, qn, qd⟩) := H.up hu 6 rfl rfl
              obtain ⟨sy, Ay, Ly, cy, Ayx, Lyx, cyx, ey, vy⟩ := qy
              have qgb : ∃ g, vs 7 = .pointer (some ⟨g, 0, none⟩) ∧ wc.heap.size ≤ g ∧ QB w g := H.up hu 8 rfl rfl
              obtain ⟨gb, egb, lgb, bgb⟩ := qgb
              obtain ⟨x0, x1, x2, c0, c1, c2, d0, d1, d2⟩ := bgb.cells
              have HNE : Hid (∀ {l : List Nat}, (∀ j ∈ l, Ls j = true) → 6 ∈ l → vs 7 ≠ vs 6) := fun {l} hl hm => Ne.symm (H.at_ 9 rfl (fun k hk => by
                have h6 : Ls 7 = true := hu _ (by decide)
                have h7 : Ls 6 = true := hl _ hm
                simp only [List.mem_cons, List.not_mem_nil, or_false] at hk
                rcases hk with rfl | rfl <;> assumption) : vs 6 ≠ vs 7)
              have hKK := Lib.hid hK
              clear hK H
              go_simp
              have ho := otw3 w gb (.bool sy) (.slice Ay Ly cy) (.slice Ayx Lyx cyx)
              refine hKK.out _ _ (fa_cons (fun _ hl h => ⟨gq_set3 h.1 lgb _ _ _, ho.blk h.2.1 (by omega), ho.blk h.2.2.1 (by omega), h.2.2.2⟩) <|
                fa_cons (fun _ hl h => h) <|
                fa_cons (fun _ hl h => h) <|
                fa_cons (fun _ hl h => (by obtain ⟨s, A1, L1, c1, A2, L2, c2, h1, h2⟩ := h; exact ⟨s, A1, L1, c1, A2, L2, c2, h1, bgb.rat ho h2⟩)) <|
                fa_cons (fun _ hl h => h) <|
                fa_cons (fun _ hl h => h) <|
                fa_cons (fun _ hl h => (by obtain ⟨s, A1, L1, c1, A2, L2, c2, h1, h2⟩ := h; exact ⟨s, A1, L1, c1, A2, L2, c2, h1, bgb.rat ho h2⟩)) <|
                fa_cons (fun _ hl h => (by obtain ⟨g, h1, h2, h3⟩ := h; refine ⟨g, h1, h2, h3.other ho ?_⟩; rintro rfl; exact HNE.out hl (show (6 : Nat) ∈ ([6] : List Nat) from by decide) (egb.trans (Eq.symm h1)))) <|
                fa_cons (fun _ hl h => (by obtain ⟨g, h1, h2, h3⟩ := h; refine ⟨g, h1, h2, ?_⟩; have e4 := (Eq.symm egb).trans h1; injection e4 with e4; injection e4 with e4; injection e4 with e4; subst e4; exact bgb.stored (noW_bool _) (noW_slice _ _ _) (noW_slice _ _ _))) <|
                fa_cons (fun _ hl h => h) <|
                fa_cons (fun _ hl h => (by obtain ⟨g, h1, h2, h3⟩ := h; refine ⟨g, h1, h2, h3.other bgb ho ?_⟩; rintro rfl; exact HNE.out hl (show (6 : Nat) ∈ ([6, 8] : List Nat) from by decide) (egb.trans (Eq.symm h1)))) <|
                fa_cons (fun hn => absurd (show (9 : Nat) ∈ ([7, 9] : List Nat) from by decide) hn) <| fa_nil _) ?_
              exact fa_pick [11] (by kernel_rfl) <| fa_cons (fun _ => ⟨gb, egb, lgb, sy, Ay, Ly, cy, Ayx, Lyx, cyx, bgb.store, bgb.rat ho vy⟩) <| fa_nil _
            · intro vs w H
              have qbase : Gq wc w ∧ Blk w g8 78 [.int .i64 pa, .string pn, .string pd] ∧ Blk w g9 78 [.int .i64 qa, .string qn, .string qd] ∧ g8 < wc.heap.size ∧ g9 < wc.heap.size := fa_at H 0 rfl
              obtain ⟨h0, h8, h9, l8, l9⟩ := qbase
              have f0 : vs 0 = .pointer (some ⟨g8, 1, none⟩) := fa_at H 1 rfl
              have f1 : vs 1 = .agg #[.string pn, .string pd] := fa_at H 2 rfl
              have f3 : vs 3 = .pointer (some ⟨g9, 1, none⟩) := fa_at H 4 rfl
              have f4 : vs 4 = .agg #[.string qn, .string qd] := fa_at H 5 rfl
              have qgc : ∃ g, vs 6 = .pointer (some ⟨g, 0, none⟩) ∧ wc.heap.size ≤ g ∧ RatB w g (ratQ ⟨pa, pn, pd⟩) := fa_at H 10 rfl
              obtain ⟨gc, egc, lgc, rgc⟩ := qgc
              have qgd : ∃ g, vs 7 = .pointer (some ⟨g, 0, none⟩) ∧ wc.heap.size ≤ g ∧ RatB w g (ratQ ⟨qa, qn, qd⟩) := fa_at H 11 rfl
              obtain ⟨gd, egd, lgd, rgd⟩ := qgd
              clear H
              simp only [Nat.zero_add, Nat.reduceAdd]
              have HH : Hid (Gq wc w ∧ wc.heap.size ≤ gc ∧ wc.heap.size ≤ gd ∧ RatB w gc (ratQ ⟨pa, pn, pd⟩) ∧ RatB w gd (ratQ ⟨qa, qn, qd⟩)) := ⟨h0, lgc, lgd, rgc, rgd⟩
              clear h0 rgc rgd h8 h9 lgc lgd
              simp only [egc, egd, f0, f1, f3, f4]
              clear egc egd f0 f1 f3 f4
              generalize vs 2 = z2
              generalize vs 5 = z5
              go_wp2_with fail
              go_meet
              case rel => exact ⟨_, _, rfl, rfl, HH⟩
          case rest =>
            obtain ⟨wo, hwo⟩ : ∃ wo, wo = wc := ⟨_, rfl⟩
            obtain ⟨w0, hw0⟩ : ∃ w0, w0 = w := ⟨_, rfl⟩
            subst hw0
            obtain ⟨gc, gd, rfl, rfl, HH⟩ := hcut
            have HZ1 : w0.heap.size + 1 < w1.heap.size := HB.out.blk.lt
            have HZ2 := Below.size HGC.out
            have HG3 : Hid (Gq w1 wc) := HGC.out.trans HH.out.1
            have HQB : Hid (QB wc (w0.heap.size + 1)) := ⟨_, _, _, blk_gq HB.out.blk HG3.out, noW_bool _, noW_slice _ _ _, noW_slice _ _ _⟩
            have HN8 : Hid (g8 ≠ w0.heap.size + 1) := fun e => by
              obtain ⟨_, _, _, k1, _⟩ := HQB.out
              have k2 := blk_gq H8.out.2.1 HH.out.1
              rw [e] at k2
              have := Option.some.inj (k1.symm.trans k2)
              injection this with _ h2
              cases h2
            have HN9 : Hid (g9 ≠ w0.heap.size + 1) := fun e => by
              obtain ⟨_, _, _, k1, _⟩ := HQB.out
              have k2 := blk_gq H8.out.2.2 HH.out.1
              rw [e] at k2
              have := Option.some.inj (k1.symm.trans k2)
              injection this with _ h2
              cases h2
            have HNA : Hid (gc ≠ w0.heap.size + 1) := fun e => by have := HH.out.2.1; omega
            have HNB : Hid (gd ≠ w0.heap.size + 1) := fun e => by have := HH.out.2.2.1; omega
            have HBASE : Hid (Gq w0 wc.drew ∧ w0.heap.size + 1 < wc.drew.heap.size ∧ QB wc.drew (w0.heap.size + 1) ∧ Blk wc.drew g8 78 [.int .i64 pa, .string pn, .string pd] ∧ Blk wc.drew g9 78 [.int .i64 qa, .string qn, .string qd] ∧ RatB wc.drew gc (ratQ ⟨pa, pn, pd⟩) ∧ RatB wc.drew gd (ratQ ⟨qa, qn, qd⟩)) := by
              have hd : Gq wc wc.drew := (Gq.refl _).drew
              exact ⟨HB.out.bel.trans (Below.mono (HG3.out.trans hd) HB.out.bel.size), by have := HQB.out.lt; exact this, HQB.out.gq hd, blk_gq H8.out.2.1 (HH.out.1.trans hd), blk_gq H8.out.2.2 (HH.out.1.trans hd), HH.out.2.2.2.1.gq hd, HH.out.2.2.2.2.gq hd⟩
            have hw2 : IntKind.i64.wrap (i - pa) = i - pa := IntWalk.i64_in _ (by omega)
            have hw4 : IntKind.i64.wrap (qa - pa) = qa - pa := IntWalk.i64_in _ (by omega)
            have HIA : Hid (inI64 (i - pa) ∧ inI64 (qa - pa) ∧ 0 < qa - pa) := ⟨⟨by omega, by omega⟩, ⟨by omega, by omega⟩, by omega⟩
            have HIA2 : Hid (RLim 81 (mkRat (i - pa) (qa - pa).toNat)) := by
              have h1 : Lim 1 (i - pa).natAbs := by unfold Lim; rw [Nat.pow_one]; have : W32 = 4294967296 := rfl; omega
              have h2 : Lim 1 (qa - pa).toNat := by unfold Lim; rw [Nat.pow_one]; have : W32 = 4294967296 := rfl; omega
              exact (RLim.mk h1 h2 (by omega)).mono (by omega)
            have HLD : Hid (RLim 81 (ratQ ⟨qa, qn, qd⟩ - ratQ ⟨pa, pn, pd⟩)) := RLim.mono (RLim.sub HLB.out HLA.out) (by omega)
            have HLM : Hid (RLim 162 ((ratQ ⟨qa, qn, qd⟩ - ratQ ⟨pa, pn, pd⟩) * mkRat (i - pa) (qa - pa).toNat)) := RLim.mono (RLim.mul HLD.out HIA2.out) (by omega)
            have HLP : Hid (RLim 162 (ratQ ⟨pa, pn, pd⟩)) := RLim.mono HLA.out (by omega)
            have HSQ2 : Hid (ratQ ⟨pa, pn, pd⟩ + (ratQ ⟨qa, qn, qd⟩ - ratQ ⟨pa, pn, pd⟩) * mkRat (i - pa) (qa - pa).toNat = R) := HSQ.out
            have HSQ := HSQ2
            clear HH H8 HB HG3 HQB HGC HCE HEND HG2 s0 s1 s2 t0 t1 t2 hBD hBR
            subst hwo
            go_upto_region 11 with (fail)
            refine wp_region_factsK _ (by kernel_rfl) (by kernel_rfl) [[], [], [], [1, 2], [], [], [5], [4, 5, 6], [], [8], [], [10], [8, 9, 10, 11], [4, 5, 6, 7, 8, 9, 10, 11, 12], [1, 2, 3, 4, 5, 6, 7, 8, 9, 10, 11, 12, 13], [0, 1, 2, 3, 4, 5, 6, 7, 8, 9, 10, 11, 12, 13, 14], [0, 1, 2, 3, 4, 5, 6, 7, 8, 9, 10, 11, 12, 13, 14, 15]] (by kernel_rfl) [some 63, some 64, some 65, some 66, some 67, some 68, some 69, some 70, some 71, some 72, some 73, some 74, some 75, some 76, some 77, some 78, none] (by kernel_rfl) (fun vs => by simp only [putA, putL, if_true, Act.put, List.setIfInBounds_toArray, List.set_cons_zero, List.set_cons_succ]; rfl) (v11F w0 g8 g9 gc gd pa qa i pn pd qn qd) (by kernel_rfl) ?_ ⟨?_, ?_, ?_, ?_, ?_, ?_, ?_, ?_, ?_, ?_, ?_, ?_, ?_, ?_, ?_, ?_, ?_, trivial⟩ ?_
            · exact fa_zero [0] (by kernel_rfl) <| fa_cons (HBASE.out) <| fa_nil _
            · -- 0: Op.load 80 t10
              intro Ls vs w Kk H hu hK
              replace hu : ∀ k ∈ ([] : List Nat), Ls k = true := hu
              have qbase : Gq w0 w ∧ w0.heap.size + 1 < w.heap.size ∧ QB w (w0.heap.size + 1) ∧ Blk w g8 78 [.int .i64 pa, .string pn, .string pd] ∧ Blk w g9 78 [.int .i64 qa, .string qn, .string qd] ∧ RatB w gc (ratQ ⟨pa, pn, pd⟩) ∧ RatB w gd (ratQ ⟨qa, qn, qd⟩) := H.up hu 0 rfl rfl
              obtain ⟨h0, hsz, hqb, h8, h9, ra, rb⟩ := qbase
              obtain ⟨s, A1, L1, c1, A2, L2, c2, hk, hv⟩ := ra
              have d0 := hk.cell 0
              have d1 := hk.cell 1
              have d2 := hk.cell 2
              simp only [List.getElem?_cons_zero, List.getElem?_cons_succ] at d0 d1 d2
              have HV := Lib.hid hv
              clear hv hk
              have hKK := Lib.hid hK
              clear hK H
              go_simp
              refine hKK.out _ _ (fun f _ _ _ h => h) ?_
              exact fa_pick [1] (by kernel_rfl) <| fa_cons (fun _ => ⟨s, A1, L1, c1, A2, L2, c2, rfl, HV.out⟩) <| fa_nil _
            · -- 1: Op.load 80 t11
              intro Ls vs w Kk H hu hK
              replace hu : ∀ k ∈ ([] : List Nat), Ls k = true := hu
              have qbase : Gq w0 w ∧ w0.heap.size + 1 < w.heap.size ∧ QB w (w0.heap.size + 1) ∧ Blk w g8 78 [.int .i64 pa, .string pn, .string pd] ∧ Blk w g9 78 [.int .i64 qa, .string qn, .string qd] ∧ RatB w gc (ratQ ⟨pa, pn, pd⟩) ∧ RatB w gd (ratQ ⟨qa, qn, qd⟩) := H.up hu 0 rfl rfl
              obtain ⟨h0, hsz, hqb, h8, h9, ra, rb⟩ := qbase
              obtain ⟨s, A1, L1, c1, A2, L2, c2, hk, hv⟩ := rb
              have d0 := hk.cell 0
              have d1 := hk.cell 1
              have d2 := hk.cell 2
              simp only [List.getElem?_cons_zero, List.getElem?_cons_succ] at d0 d1 d2
              have HV := Lib.hid hv
              clear hv hk
              have hKK := Lib.hid hK
              clear hK H
              go_simp
              refine hKK.out _ _ (fun f _ _ _ h => h) ?_
              exact fa_pick [2] (by kernel_rfl) <| fa_cons (fun _ => ⟨s, A1, L1, c1, A2, L2, c2, rfl, HV.out⟩) <| fa_nil _
            · -- 2: Op.load 80 t10
              intro Ls vs w Kk H hu hK
              replace hu : ∀ k ∈ ([] : List Nat), Ls k = true := hu
              have qbase : Gq w0 w ∧ w0.heap.size + 1 < w.heap.size ∧ QB w (w0.heap.size + 1) ∧ Blk w g8 78 [.int .i64 pa, .string pn, .string pd] ∧ Blk w g9 78 [.int .i64 qa, .string qn, .string qd] ∧ RatB w gc (ratQ ⟨pa, pn, pd⟩) ∧ RatB w gd (ratQ ⟨qa, qn, qd⟩) := H.up hu 0 rfl rfl
              obtain ⟨h0, hsz, hqb, h8, h9, ra, rb⟩ := qbase
              obtain ⟨s, A1, L1, c1, A2, L2, c2, hk, hv⟩ := ra
              have d0 := hk.cell 0
              have d1 := hk.cell 1
              have d2 := hk.cell 2
              simp only [List.getElem?_cons_zero, List.getElem?_cons_succ] at d0 d1 d2
              have HV := Lib.hid hv
              clear hv hk
              have hKK := Lib.hid hK
              clear hK H
              go_simp
              refine hKK.out _ _ (fun f _ _ _ h => h) ?_
              exact fa_pick [3] (by kernel_rfl) <| fa_cons (fun _ => ⟨s, A1, L1, c1, A2, L2, c2, rfl, HV.out⟩) <| fa_nil _
            · -- 3: Op.call { value (Operand.func 87), args := #[t64, t65], argTypes := #[80, 80] }
              intro Ls vs w Kk H hu hK
              replace hu : ∀ k ∈ ([1, 2] : List Nat), Ls k = true := hu
              have qbase : Gq w0 w ∧ w0.heap.size + 1 < w.heap.size ∧ QB w (w0.heap.size + 1) ∧ Blk w g8 78 [.int .i64 pa, .string pn, .string pd] ∧ Blk w g9 78 [.int .i64 qa, .string qn, .string qd] ∧ RatB w gc (ratQ ⟨pa, pn, pd⟩) ∧ RatB w gd (ratQ ⟨qa, qn, qd⟩) := H.up hu 0 rfl rfl
              obtain ⟨h0, hsz, hqb, h8, h9, ra, rb⟩ := qbase
              have qx1 : ∃ s A1 L1 c1 A2 L2 c2, vs 1 = .agg #[.bool s, .slice A1 L1 c1, .slice A2 L2 c2] ∧ RatV w (.agg #[.bool s, .slice A1 L1 c1, .slice A2 L2 c2]) (ratQ ⟨qa, qn, qd⟩) := H.up hu 2 rfl rfl
              obtain ⟨sx1, Ax1, Lx1, cx1, Ax1x, Lx1x, cx1x, ex1, vx1⟩ := qx1
              have qx2 : ∃ s A1 L1 c1 A2 L2 c2, vs 2 = .agg #[.bool s, .slice A1 L1 c1, .slice A2 L2 c2] ∧ RatV w (.agg #[.bool s, .slice A1 L1 c1, .slice A2 L2 c2]) (ratQ ⟨pa, pn, pd⟩) := H.up hu 3 rfl rfl
              obtain ⟨sx2, Ax2, Lx2, cx2, Ax2x, Lx2x, cx2x, ex2, vx2⟩ := qx2
              have hKK := Lib.hid hK
              clear hK H
              go_simp
              refine (subQ_any _ _ (ratQ ⟨qa, qn, qd⟩) (ratQ ⟨pa, pn, pd⟩) w vx1 vx2 40 HLB.out HLA.out (by omega)).mono ?_
              rintro e w' ⟨v, rfl, hv, hb⟩
              obtain ⟨s, A1, L1, c1, A2, L2, c2, rfl⟩ := rat_agg hv
              refine ⟨_, rfl, hKK.out _ _ (fun f hf _ _ h => v11K w0 g8 g9 gc gd pa qa i pn pd qn qd f hf _ _ _ hb h) ?_⟩
              exact fa_pick [4] (by kernel_rfl) <| fa_cons (fun _ => ⟨s, A1, L1, c1, A2, L2, c2, rfl, hv⟩) <| fa_nil _
            · -- 4: Op.move t1
              intro Ls vs w Kk H hu hK
              replace hu : ∀ k ∈ ([] : List Nat), Ls k = true := hu
              have qbase : Gq w0 w ∧ w0.heap.size + 1 < w.heap.size ∧ QB w (w0.heap.size + 1) ∧ Blk w g8 78 [.int .i64 pa, .string pn, .string pd] ∧ Blk w g9 78 [.int .i64 qa, .string qn, .string qd] ∧ RatB w gc (ratQ ⟨pa, pn, pd⟩) ∧ RatB w gd (ratQ ⟨qa, qn, qd⟩) := H.up hu 0 rfl rfl
              obtain ⟨h0, hsz, hqb, h8, h9, ra, rb⟩ := qbase
              have hKK := Lib.hid hK
              clear hK H
              go_simp
              refine hKK.out _ _ (fun f _ _ _ h => h) ?_
              exact fa_pick [5] (by kernel_rfl) <| fa_cons (fun _ => rfl) <| fa_nil _
            · -- 5: Op.fieldAddr 70 t8 0
              intro Ls vs w Kk H hu hK
              replace hu : ∀ k ∈ ([] : List Nat), Ls k = true := hu
              have qbase : Gq w0 w ∧ w0.heap.size + 1 < w.heap.size ∧ QB w (w0.heap.size + 1) ∧ Blk w g8 78 [.int .i64 pa, .string pn, .string pd] ∧ Blk w g9 78 [.int .i64 qa, .string qn, .string qd] ∧ RatB w gc (ratQ ⟨pa, pn, pd⟩) ∧ RatB w gd (ratQ ⟨qa, qn, qd⟩) := H.up hu 0 rfl rfl
              obtain ⟨h0, hsz, hqb, h8, h9, ra, rb⟩ := qbase
              have hKK := Lib.hid hK
              clear hK H
              go_simp
              refine hKK.out _ _ (fun f _ _ _ h => h) ?_
              exact fa_pick [6] (by kernel_rfl) <| fa_cons (fun _ => rfl) <| fa_nil _
            · -- 6: Op.load 3 t68
              intro Ls vs w Kk H hu hK
              replace hu : ∀ k ∈ ([5] : List Nat), Ls k = true := hu
              have qbase : Gq w0 w ∧ w0.heap.size + 1 < w.heap.size ∧ QB w (w0.heap.size + 1) ∧ Blk w g8 78 [.int .i64 pa, .string pn, .string pd] ∧ Blk w g9 78 [.int .i64 qa, .string qn, .string qd] ∧ RatB w gc (ratQ ⟨pa, pn, pd⟩) ∧ RatB w gd (ratQ ⟨qa, qn, qd⟩) := H.up hu 0 rfl rfl
              obtain ⟨h0, hsz, hqb, h8, h9, ra, rb⟩ := qbase
              have f5 : vs 5 = .pointer (some ⟨g8, 0, none⟩) := H.up hu 6 rfl rfl
              have d0 : w.cell? ⟨g8, 0, none⟩ = _ := h8.cell 0
              have d1 : w.cell? ⟨g8, 1, none⟩ = _ := h8.cell 1
              simp only [List.getElem?_cons_zero, List.getElem?_cons_succ] at d0 d1
              have hKK := Lib.hid hK
              clear hK H
              go_simp
              refine hKK.out _ _ (fun f _ _ _ h => h) ?_
              exact fa_pick [7] (by kernel_rfl) <| fa_cons (fun _ => rfl) <| fa_nil _
            · -- 7: Op.binOp BinOp.sub 3 t67 t69 3
              intro Ls vs w Kk H hu hK
              replace hu : ∀ k ∈ ([4, 5, 6] : List Nat), Ls k = true := hu
              have qbase : Gq w0 w ∧ w0.heap.size + 1 < w.heap.size ∧ QB w (w0.heap.size + 1) ∧ Blk w g8 78 [.int .i64 pa, .string pn, .string pd] ∧ Blk w g9 78 [.int .i64 qa, .string qn, .string qd] ∧ RatB w gc (ratQ ⟨pa, pn, pd⟩) ∧ RatB w gd (ratQ ⟨qa, qn, qd⟩) := H.up hu 0 rfl rfl
              obtain ⟨h0, hsz, hqb, h8, h9, ra, rb⟩ := qbase
              have f4 : vs 4 = .int .i64 i := H.up hu 5 rfl rfl
              have f6 : vs 6 = .int .i64 pa := H.up hu 7 rfl rfl
              have hKK := Lib.hid hK
              clear hK H
              go_simp
              refine hKK.out _ _ (fun f _ _ _ h => h) ?_
              exact fa_pick [8] (by kernel_rfl) <| fa_cons (fun _ => rfl) <| fa_nil _
            · -- 8: Op.fieldAddr 70 t9 0
              intro Ls vs w Kk H hu hK
              replace hu : ∀ k ∈ ([] : List Nat), Ls k = true := hu
              have qbase : Gq w0 w ∧ w0.heap.size + 1 < w.heap.size ∧ QB w (w0.heap.size + 1) ∧ Blk w g8 78 [.int .i64 pa, .string pn, .string pd] ∧ Blk w g9 78 [.int .i64 qa, .string qn, .string qd] ∧ RatB w gc (ratQ ⟨pa, pn, pd⟩) ∧ RatB w gd (ratQ ⟨qa, qn, qd⟩) := H.up hu 0 rfl rfl
              obtain ⟨h0, hsz, hqb, h8, h9, ra, rb⟩ := qbase
              have hKK := Lib.hid hK
              clear hK H
              go_simp
              refine hKK.out _ _ (fun f _ _ _ h => h) ?_
              exact fa_pick [9] (by kernel_rfl) <| fa_cons (fun _ => rfl) <| fa_nil _
            · -- 9: Op.load 3 t71
              intro Ls vs w Kk H hu hK
              replace hu : ∀ k ∈ ([8] : List Nat), Ls k = true := hu
              have qbase : Gq w0 w ∧ w0.heap.size + 1 < w.heap.size ∧ QB w (w0.heap.size + 1) ∧ Blk w g8 78 [.int .i64 pa, .string pn, .string pd] ∧ Blk w g9 78 [.int .i64 qa, .string qn, .string qd] ∧ RatB w gc (ratQ ⟨pa, pn, pd⟩) ∧ RatB w gd (ratQ ⟨qa, qn, qd⟩) := H.up hu 0 rfl rfl
              obtain ⟨h0, hsz, hqb, h8, h9, ra, rb⟩ := qbase
              have f8 : vs 8 = .pointer (some ⟨g9, 0, none⟩) := H.up hu 9 rfl rfl
              have d0 : w.cell? ⟨g9, 0, none⟩ = _ := h9.cell 0
              have d1 : w.cell? ⟨g9, 1, none⟩ = _ := h9.cell 1
              simp only [List.getElem?_cons_zero, List.getElem?_cons_succ] at d0 d1
              have hKK := Lib.hid hK
              clear hK H
              go_simp
              refine hKK.out _ _ (fun f _ _ _ h => h) ?_
              exact fa_pick [10] (by kernel_rfl) <| fa_cons (fun _ => rfl) <| fa_nil _
            · -- 10: Op.fieldAddr 70 t8 0
              intro Ls vs w Kk H hu hK
              replace hu : ∀ k ∈ ([] : List Nat), Ls k = true := hu
              have qbase : Gq w0 w ∧ w0.heap.size + 1 < w.heap.size ∧ QB w (w0.heap.size + 1) ∧ Blk w g8 78 [.int .i64 pa, .string pn, .string pd] ∧ Blk w g9 78 [.int .i64 qa, .string qn, .string qd] ∧ RatB w gc (ratQ ⟨pa, pn, pd⟩) ∧ RatB w gd (ratQ ⟨qa, qn, qd⟩) := H.up hu 0 rfl rfl
              obtain ⟨h0, hsz, hqb, h8, h9, ra, rb⟩ := qbase
              have hKK := Lib.hid hK
              clear hK H
              go_simp
              refine hKK.out _ _ (fun f _ _ _ h => h) ?_
              exact fa_pick [11] (by kernel_rfl) <| fa_cons (fun _ => rfl) <| fa_nil _
            · -- 11: Op.load 3 t73
              intro Ls vs w Kk H hu hK
              replace hu : ∀ k ∈ ([10] : List Nat), Ls k = true := hu
              have qbase : Gq w0 w ∧ w0.heap.size + 1 < w.heap.size ∧ QB w (w0.heap.size + 1) ∧ Blk w g8 78 [.int .i64 pa, .string pn, .string pd] ∧ Blk w g9 78 [.int .i64 qa, .string qn, .string qd] ∧ RatB w gc (ratQ ⟨pa, pn, pd⟩) ∧ RatB w gd (ratQ ⟨qa, qn, qd⟩) := H.up hu 0 rfl rfl
              obtain ⟨h0, hsz, hqb, h8, h9, ra, rb⟩ := qbase
              have f10 : vs 10 = .pointer (some ⟨g8, 0, none⟩) := H.up hu 11 rfl rfl
              have d0 : w.cell? ⟨g8, 0, none⟩ = _ := h8.cell 0
              have d1 : w.cell? ⟨g8, 1, none⟩ = _ := h8.cell 1
              simp only [List.getElem?_cons_zero, List.getElem?_cons_succ] at d0 d1
              have hKK := Lib.hid hK
              clear hK H
              go_simp
              refine hKK.out _ _ (fun f _ _ _ h => h) ?_
              exact fa_pick [12] (by kernel_rfl) <| fa_cons (fun _ => rfl) <| fa_nil _
            · -- 12: Op.binOp BinOp.sub 3 t72 t74 3
              intro Ls vs w Kk H hu hK
              replace hu : ∀ k ∈ ([8, 9, 10, 11] : List Nat), Ls k = true := hu
              have qbase : Gq w0 w ∧ w0.heap.size + 1 < w.heap.size ∧ QB w (w0.heap.size + 1) ∧ Blk w g8 78 [.int .i64 pa, .string pn, .string pd] ∧ Blk w g9 78 [.int .i64 qa, .string qn, .string qd] ∧ RatB w gc (ratQ ⟨pa, pn, pd⟩) ∧ RatB w gd (ratQ ⟨qa, qn, qd⟩) := H.up hu 0 rfl rfl
              obtain ⟨h0, hsz, hqb, h8, h9, ra, rb⟩ := qbase
              have f9 : vs 9 = .int .i64 qa := H.up hu 10 rfl rfl
              have f11 : vs 11 = .int .i64 pa := H.up hu 12 rfl rfl
              have hKK := Lib.hid hK
              clear hK H
              go_simp
              refine hKK.out _ _ (fun f _ _ _ h => h) ?_
              exact fa_pick [13] (by kernel_rfl) <| fa_cons (fun _ => rfl) <| fa_nil _
            · -- 13: Op.call { value (Operand.func 89), args := #[t70, t75], argTypes := #[3, 3] }
              intro Ls vs w Kk H hu hK
              replace hu : ∀ k ∈ ([4, 5, 6, 7, 8, 9, 10, 11, 12] : List Nat), Ls k = true := hu
              have qbase : Gq w0 w ∧ w0.heap.size + 1 < w.heap.size ∧ QB w (w0.heap.size + 1) ∧ Blk w g8 78 [.int .i64 pa, .string pn, .string pd] ∧ Blk w g9 78 [.int .i64 qa, .string qn, .string qd] ∧ RatB w gc (ratQ ⟨pa, pn, pd⟩) ∧ RatB w gd (ratQ ⟨qa, qn, qd⟩) := H.up hu 0 rfl rfl
              obtain ⟨h0, hsz, hqb, h8, h9, ra, rb⟩ := qbase
              have f7 : vs 7 = .int .i64 (i - pa) := H.up hu 8 rfl rfl
              have f12 : vs 12 = .int .i64 (qa - pa) := H.up hu 13 rfl rfl
              have hKK := Lib.hid hK
              clear hK H
              go_simp
              refine (fracQ_any (i - pa) (qa - pa) w HIA.out.1 HIA.out.2.1 HIA.out.2.2).mono ?_
              rintro e w' ⟨v, rfl, hv, hb⟩
              obtain ⟨s, A1, L1, c1, A2, L2, c2, rfl⟩ := rat_agg hv
              refine ⟨_, rfl, hKK.out _ _ (fun f hf _ _ h => v11K w0 g8 g9 gc gd pa qa i pn pd qn qd f hf _ _ _ hb h) ?_⟩
              exact fa_pick [14] (by kernel_rfl) <| fa_cons (fun _ => ⟨s, A1, L1, c1, A2, L2, c2, rfl, hv⟩) <| fa_nil _
            · -- 14: Op.call { value (Operand.func 88), args := #[t66, t76], argTypes := #[80, 80] }
              intro Ls vs w Kk H hu hK
              replace hu : ∀ k ∈ ([1, 2, 3, 4, 5, 6, 7, 8, 9, 10, 11, 12, 13] : List Nat), Ls k = true := hu
              have qbase : Gq w0 w ∧ w0.heap.size + 1 < w.heap.size ∧ QB w (w0.heap.size + 1) ∧ Blk w g8 78 [.int .i64 pa, .string pn, .string pd] ∧ Blk w g9 78 [.int .i64 qa, .string qn, .string qd] ∧ RatB w gc (ratQ ⟨pa, pn, pd⟩) ∧ RatB w gd (ratQ ⟨qa, qn, qd⟩) := H.up hu 0 rfl rfl
              obtain ⟨h0, hsz, hqb, h8, h9, ra, rb⟩ := qbase
              have qx3 : ∃ s A1 L1 c1 A2 L2 c2, vs 3 = .agg #[.bool s, .slice A1 L1 c1, .slice A2 L2 c2] ∧ RatV w (.agg #[.bool s, .slice A1 L1 c1, .slice A2 L2 c2]) ((ratQ ⟨qa, qn, qd⟩ - ratQ ⟨pa, pn, pd⟩)) := H.up hu 4 rfl rfl
              obtain ⟨sx3, Ax3, Lx3, cx3, Ax3x, Lx3x, cx3x, ex3, vx3⟩ := qx3
              have qx13 : ∃ s A1 L1 c1 A2 L2 c2, vs 13 = .agg #[.bool s, .slice A1 L1 c1, .slice A2 L2 c2] ∧ RatV w (.agg #[.bool s, .slice A1 L1 c1, .slice A2 L2 c2]) (mkRat (i - pa) (qa - pa).toNat) := H.up hu 14 rfl rfl
              obtain ⟨sx13, Ax13, Lx13, cx13, Ax13x, Lx13x, cx13x, ex13, vx13⟩ := qx13
              have hKK := Lib.hid hK
              clear hK H
              go_simp
              refine (mulQ_any _ _ (ratQ ⟨qa, qn, qd⟩ - ratQ ⟨pa, pn, pd⟩) (mkRat (i - pa) (qa - pa).toNat) w vx3 vx13 81 HLD.out HIA2.out (by omega)).mono ?_
              rintro e w' ⟨v, rfl, hv, hb⟩
              obtain ⟨s, A1, L1, c1, A2, L2, c2, rfl⟩ := rat_agg hv
              refine ⟨_, rfl, hKK.out _ _ (fun f hf _ _ h => v11K w0 g8 g9 gc gd pa qa i pn pd qn qd f hf _ _ _ hb h) ?_⟩
              exact fa_pick [15] (by kernel_rfl) <| fa_cons (fun _ => ⟨s, A1, L1, c1, A2, L2, c2, rfl, hv⟩) <| fa_nil _
            · -- 15: Op.call { value (Operand.func 38), args := #[t63, t77], argTypes := #[80, 80] }
              intro Ls vs w Kk H hu hK
              replace hu : ∀ k ∈ ([0, 1, 2, 3, 4, 5, 6, 7, 8, 9, 10, 11, 12, 13, 14] : List Nat), Ls k = true := hu
              have qbase : Gq w0 w ∧ w0.heap.size + 1 < w.heap.size ∧ QB w (w0.heap.size + 1) ∧ Blk w g8 78 [.int .i64 pa, .string pn, .string pd] ∧ Blk w g9 78 [.int .i64 qa, .string qn, .string qd] ∧ RatB w gc (ratQ ⟨pa, pn, pd⟩) ∧ RatB w gd (ratQ ⟨qa, qn, qd⟩) := H.up hu 0 rfl rfl
              obtain ⟨h0, hsz, hqb, h8, h9, ra, rb⟩ := qbase
              have qx0 : ∃ s A1 L1 c1 A2 L2 c2, vs 0 = .agg #[.bool s, .slice A1 L1 c1, .slice A2 L2 c2] ∧ RatV w (.agg #[.bool s, .slice A1 L1 c1, .slice A2 L2 c2]) (ratQ ⟨pa, pn, pd⟩) := H.up hu 1 rfl rfl
              obtain ⟨sx0, Ax0, Lx0, cx0, Ax0x, Lx0x, cx0x, ex0, vx0⟩ := qx0
              have qx14 : ∃ s A1 L1 c1 A2 L2 c2, vs 14 = .agg #[.bool s, .slice A1 L1 c1, .slice A2 L2 c2] ∧ RatV w (.agg #[.bool s, .slice A1 L1 c1, .slice A2 L2 c2]) ((ratQ ⟨qa, qn, qd⟩ - ratQ ⟨pa, pn, pd⟩) * mkRat (i - pa) (qa - pa).toNat) := H.up hu 15 rfl rfl
              obtain ⟨sx14, Ax14, Lx14, cx14, Ax14x, Lx14x, cx14x, ex14, vx14⟩ := qx14
              have hKK := Lib.hid hK
              clear hK H
              go_simp
              refine (addQ_any _ _ (ratQ ⟨pa, pn, pd⟩) ((ratQ ⟨qa, qn, qd⟩ - ratQ ⟨pa, pn, pd⟩) * mkRat (i - pa) (qa - pa).toNat) w vx0 vx14 162 HLP.out HLM.out (by omega)).mono ?_
              rintro e w' ⟨v, rfl, hv, hb⟩
              obtain ⟨s, A1, L1, c1, A2, L2, c2, rfl⟩ := rat_agg hv
              refine ⟨_, rfl, hKK.out _ _ (fun f hf _ _ h => v11K w0 g8 g9 gc gd pa qa i pn pd qn qd f hf _ _ _ hb h) ?_⟩
              exact fa_pick [16] (by kernel_rfl) <| fa_cons (fun _ => ⟨s, A1, L1, c1, A2, L2, c2, rfl, hv⟩) <| fa_nil _
            · -- 16: Op.store 80 t4 t78
              intro Ls vs w Kk H hu hK
              replace hu : ∀ k ∈ ([0, 1, 2, 3, 4, 5, 6, 7, 8, 9, 10, 11, 12, 13, 14, 15] : List Nat), Ls k = true := hu
              have qbase : Gq w0 w ∧ w0.heap.size + 1 < w.heap.size ∧ QB w (w0.heap.size + 1) ∧ Blk w g8 78 [.int .i64 pa, .string pn, .string pd] ∧ Blk w g9 78 [.int .i64 qa, .string qn, .string qd] ∧ RatB w gc (ratQ ⟨pa, pn, pd⟩) ∧ RatB w gd (ratQ ⟨qa, qn, qd⟩) := H.up hu 0 rfl rfl
              obtain ⟨h0, hsz, hqb, h8, h9, ra, rb⟩ := qbase
              have qx15 : ∃ s A1 L1 c1 A2 L2 c2, vs 15 = .agg #[.bool s, .slice A1 L1 c1, .slice A2 L2 c2] ∧ RatV w (.agg #[.bool s, .slice A1 L1 c1, .slice A2 L2 c2]) (ratQ ⟨pa, pn, pd⟩ + (ratQ ⟨qa, qn, qd⟩ - ratQ ⟨pa, pn, pd⟩) * mkRat (i - pa) (qa - pa).toNat) := H.up hu 16 rfl rfl
              obtain ⟨sx15, Ax15, Lx15, cx15, Ax15x, Lx15x, cx15x, ex15, vx15⟩ := qx15
              obtain ⟨x0, x1, x2, c0, c1, c2, d0, d1, d2⟩ := hqb.cells
              have hKK := Lib.hid hK
              clear hK H
              go_simp
              have ho := otw3 w (w0.heap.size + 1) (.bool sx15) (.slice Ax15 Lx15 cx15) (.slice Ax15x Lx15x cx15x)
              refine hKK.out _ _ (fa_cons (fun _ _ h => ⟨gq_set3 h.1 (Nat.le_succ _) _ _ _, by simpa [World.setCell] using h.2.1, hqb.stored (noW_bool _) (noW_slice _ _ _) (noW_slice _ _ _), ho.blk h.2.2.2.1 HN8.out, ho.blk h.2.2.2.2.1 HN9.out, h.2.2.2.2.2.1.other hqb ho HNA.out, h.2.2.2.2.2.2.other hqb ho HNB.out⟩) <|
                fa_cons (fun _ _ h => (by obtain ⟨s, A1, L1, c1, A2, L2, c2, h1, h2⟩ := h; exact ⟨s, A1, L1, c1, A2, L2, c2, h1, hqb.rat ho h2⟩)) <|
                fa_cons (fun _ _ h => (by obtain ⟨s, A1, L1, c1, A2, L2, c2, h1, h2⟩ := h; exact ⟨s, A1, L1, c1, A2, L2, c2, h1, hqb.rat ho h2⟩)) <|
                fa_cons (fun _ _ h => (by obtain ⟨s, A1, L1, c1, A2, L2, c2, h1, h2⟩ := h; exact ⟨s, A1, L1, c1, A2, L2, c2, h1, hqb.rat ho h2⟩)) <|
                fa_cons (fun _ _ h => (by obtain ⟨s, A1, L1, c1, A2, L2, c2, h1, h2⟩ := h; exact ⟨s, A1, L1, c1, A2, L2, c2, h1, hqb.rat ho h2⟩)) <|
                fa_cons (fun _ _ h => h) <|
                fa_cons (fun _ _ h => h) <|
                fa_cons (fun _ _ h => h) <|
                fa_cons (fun _ _ h => h) <|
                fa_cons (fun _ _ h => h) <|
                fa_cons (fun _ _ h => h) <|
                fa_cons (fun _ _ h => h) <|
                fa_cons (fun _ _ h => h) <|
                fa_cons (fun _ _ h => h) <|
                fa_cons (fun _ _ h => (by obtain ⟨s, A1, L1, c1, A2, L2, c2, h1, h2⟩ := h; exact ⟨s, A1, L1, c1, A2, L2, c2, h1, hqb.rat ho h2⟩)) <|
                fa_cons (fun _ _ h => (by obtain ⟨s, A1, L1, c1, A2, L2, c2, h1, h2⟩ := h; exact ⟨s, A1, L1, c1, A2, L2, c2, h1, hqb.rat ho h2⟩)) <|
                fa_cons (fun _ _ h => (by obtain ⟨s, A1, L1, c1, A2, L2, c2, h1, h2⟩ := h; exact ⟨s, A1, L1, c1, A2, L2, c2, h1, hqb.rat ho h2⟩)) <|
                fa_cons (fun hn => absurd (show (16 : Nat) ∈ ([16] : List Nat) from by decide) hn) <| fa_nil _) ?_
              exact fa_pick [17] (by kernel_rfl) <| fa_cons (fun _ => ⟨sx15, Ax15, Lx15, cx15, Ax15x, Lx15x, cx15x, hqb.store, hqb.rat ho vx15⟩) <| fa_nil _
            · intro vs w H
              have qbase : Gq w0 w ∧ w0.heap.size + 1 < w.heap.size ∧ QB w (w0.heap.size + 1) ∧ Blk w g8 78 [.int .i64 pa, .string pn, .string pd] ∧ Blk w g9 78 [.int .i64 qa, .string qn, .string qd] ∧ RatB w gc (ratQ ⟨pa, pn, pd⟩) ∧ RatB w gd (ratQ ⟨qa, qn, qd⟩) := fa_at H 0 rfl
              obtain ⟨h0, hsz, hqb, h8, h9, ra, rb⟩ := qbase
              have f4 : vs 4 = .int .i64 i := fa_at H 5 rfl
              have f5 : vs 5 = .pointer (some ⟨g8, 0, none⟩) := fa_at H 6 rfl
              have f6 : vs 6 = .int .i64 pa := fa_at H 7 rfl
              have f7 : vs 7 = .int .i64 (i - pa) := fa_at H 8 rfl
              have f8 : vs 8 = .pointer (some ⟨g9, 0, none⟩) := fa_at H 9 rfl
              have f9 : vs 9 = .int .i64 qa := fa_at H 10 rfl
              have f10 : vs 10 = .pointer (some ⟨g8, 0, none⟩) := fa_at H 11 rfl
              have f11 : vs 11 = .int .i64 pa := fa_at H 12 rfl
              have f12 : vs 12 = .int .i64 (qa - pa) := fa_at H 13 rfl
              have x16 : Hid (RatB w (w0.heap.size + 1) (ratQ ⟨pa, pn, pd⟩ + (ratQ ⟨qa, qn, qd⟩ - ratQ ⟨pa, pn, pd⟩) * mkRat (i - pa) (qa - pa).toNat)) := fa_at H 17 rfl
              clear H
              simp only [Nat.zero_add, Nat.reduceAdd]
              obtain ⟨s, A1, L1, c1, A2, L2, c2, hk, hv⟩ := x16.out
              have k2 := hk.cell 0
              have k3 := hk.cell 1
              have k4 := hk.cell 2
              simp only [List.getElem?_cons_zero, List.getElem?_cons_succ] at k2 k3 k4
              have HH : Hid (RatV w (.agg #[.bool s, .slice A1 L1 c1, .slice A2 L2 c2]) R ∧ Gq w0 w) := ⟨by rw [← HSQ.out]; exact hv, h0⟩
              clear hk hv h0 hsz hqb h8 h9 ra rb x16
              simp only [f4, f5, f6, f7, f8, f9, f10, f11, f12]
              clear f4 f5 f6 f7 f8 f9 f10 f11 f12
              generalize vs 0 = z0
              generalize vs 1 = z1
              generalize vs 2 = z2
              generalize vs 3 = z3
              generalize vs 13 = z13
              generalize vs 14 = z14
              generalize vs 15 = z15
              go_wp2_with fail
              exact bodyPost_ret (v := .agg #[.bool s, .slice A1 L1 c1, .slice A2 L2 c2]) (by simp [results, Tryz.results11, go_sem, k2, k3, k4]) rfl ⟨_, rfl, HH.out.1, HH.out.2⟩
end Go.Proofs.YtmknpeoflafaoabGreatDoor
