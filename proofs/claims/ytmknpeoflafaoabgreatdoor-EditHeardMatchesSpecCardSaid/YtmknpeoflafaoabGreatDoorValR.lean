/- Generated (gen/valr.py): the contract of the reference's Value. -/
import Derived.Test.YtmknpeoflafaoabGreatDoorNumY
import Derived.Test.YtmknpeoflafaoabGreatDoorVal
namespace Go.Proofs.YtmknpeoflafaoabGreatDoor
open Go.RowKit Go.Dw
attribute [local go_sem ↓] Go.wp_at_zero Go.wp_at_succ
attribute [local go_sem] Go.Dw.Oper.tame

/-- a box that holds a quotient -/
def NQB (w : World) (g : Nat) (q : Rat) : Prop := ∃ s X N f Y O t, Blk w g 62 [.bool s, .slice X N f, .slice Y O t] ∧ NumQ w (.agg #[.bool s, .slice X N f, .slice Y O t]) q
theorem NQB.gq {w w' : World} {g : Nat} {q : Rat} (h : NQB w g q) (hb : Gq w w') : NQB w' g q := by
  obtain ⟨s, X, N, f, Y, O, t, h1, h2⟩ := h
  exact ⟨s, X, N, f, Y, O, t, blk_gqr h1 hb, NumR.gq h2 hb⟩
theorem NQB.other {w w' : World} {g g' : Nat} {q : Rat} (h : NQB w g' q) (hb : NB 62 w g) (ho : Otr g w w') (hne : g' ≠ g) : NQB w' g' q := by
  obtain ⟨s, X, N, f, Y, O, t, h1, h2⟩ := h
  exact ⟨s, X, N, f, Y, O, t, ho.blk h1 hne, hb.num ho h2⟩
theorem ofQ_any (p : Pnt) (w : World) (h : ratF p.n p.d = 0) (hs : p.n.size ≤ 41) :
    Calls Tryz.prog 81 #[.agg #[.string p.n, .string p.d]] w (NumRes (ratQ p) w) :=
  (ofR_any p.n p.d w (ratR_of h) (by omega)).mono fun e W ⟨v, h1, h2, h3⟩ => ⟨v, h1, numQ_of h h2, h3⟩
theorem over_int {a b : Int} (h : 0 < b) : overQ (mkRat a 1) (mkRat b 1) = mkRat a b.toNat := by
  unfold overQ
  rw [(mk_int a).1, (mk_int a).2, (mk_int b).1, (mk_int b).2, if_neg (by omega)]
  congr 1
  · simp
  · omega
theorem int_lim {a : Int} (h : -100000 ≤ a ∧ a ≤ 100000) : RLim 1 (mkRat a 1) := by
  have h1 : Lim 1 a.natAbs := by unfold Lim; rw [Nat.pow_one]; have : W32 = 4294967296 := rfl; omega
  have h2 : Lim 1 1 := by unfold Lim; rw [Nat.pow_one]; decide
  exact RLim.mk h1 h2 (by omega)
def vr8F (wc : World) (b off len d m : Nat) (pa qa : Int) (pn pd qn qd : ByteArray) : List Fact := [
  ⟨[], fun _ W => Gq wc W⟩,
  ⟨[0], fun vs _ => vs 0 = .slice (some ⟨b, off, none⟩) len d⟩,
  ⟨[1], fun vs _ => vs 1 = .int .i64 ((m : Int) + 1)⟩,
  ⟨[2], fun vs _ => vs 2 = .int .i64 (m : Int)⟩,
  ⟨[3], fun vs _ => vs 3 = .pointer (some ⟨b, off + m * 3, none⟩)⟩,
  ⟨[4], fun vs _ => vs 4 = .pointer (some ⟨b, off + m * 3 + 1, none⟩)⟩,
  ⟨[5], fun vs _ => vs 5 = .agg #[.string pn, .string pd]⟩,
  ⟨[6], fun vs W => ∃ s X N f Y O t, vs 6 = .agg #[.bool s, .slice X N f, .slice Y O t] ∧ NumQ W (.agg #[.bool s, .slice X N f, .slice Y O t]) (ratQ ⟨pa, pn, pd⟩)⟩,
  ⟨[7], fun vs _ => vs 7 = .slice (some ⟨b, off, none⟩) len d⟩,
  ⟨[8], fun vs _ => vs 8 = .int .i64 ((m : Int) + 1)⟩,
  ⟨[9], fun vs _ => vs 9 = .pointer (some ⟨b, off + (m + 1) * 3, none⟩)⟩,
  ⟨[10], fun vs _ => vs 10 = .pointer (some ⟨b, off + (m + 1) * 3 + 1, none⟩)⟩,
  ⟨[11], fun vs _ => vs 11 = .agg #[.string qn, .string qd]⟩,
  ⟨[12], fun vs W => ∃ s X N f Y O t, vs 12 = .agg #[.bool s, .slice X N f, .slice Y O t] ∧ NumQ W (.agg #[.bool s, .slice X N f, .slice Y O t]) (ratQ ⟨qa, qn, qd⟩)⟩,
  ⟨[13], fun vs W => ∃ g, vs 13 = .pointer (some ⟨g, 0, none⟩) ∧ wc.heap.size ≤ g ∧ NB 62 W g⟩,
  ⟨[14], fun vs W => ∃ g, vs 14 = .pointer (some ⟨g, 0, none⟩) ∧ wc.heap.size ≤ g ∧ NB 62 W g⟩,
  ⟨[13, 14], fun vs _ => vs 13 ≠ vs 14⟩,
  ⟨[13, 15], fun vs W => ∃ g, vs 13 = .pointer (some ⟨g, 0, none⟩) ∧ wc.heap.size ≤ g ∧ ∃ s X N f Y O t, Blk W g 62 [.bool s, .slice X N f, .slice Y O t] ∧ NumQ W (.agg #[.bool s, .slice X N f, .slice Y O t]) (ratQ ⟨pa, pn, pd⟩)⟩,
  ⟨[14, 16], fun vs W => ∃ g, vs 14 = .pointer (some ⟨g, 0, none⟩) ∧ wc.heap.size ≤ g ∧ ∃ s X N f Y O t, Blk W g 62 [.bool s, .slice X N f, .slice Y O t] ∧ NumQ W (.agg #[.bool s, .slice X N f, .slice Y O t]) (ratQ ⟨qa, qn, qd⟩)⟩]
theorem vr8K (wc : World) (b off len d m : Nat) (pa qa : Int) (pn pd qn qd : ByteArray) : ∀ f ∈ vr8F wc b off len d m pa qa pn pd qn qd, ∀ vs w w', Gq w w' → f.says vs w → f.says vs w' :=
  fa_cons (fun _ _ _ hg h => h.trans hg) <|
  fa_cons (fun _ _ _ _ h => h) <|
  fa_cons (fun _ _ _ _ h => h) <|
  fa_cons (fun _ _ _ _ h => h) <|
  fa_cons (fun _ _ _ _ h => h) <|
  fa_cons (fun _ _ _ _ h => h) <|
  fa_cons (fun _ _ _ _ h => h) <|
  fa_cons (fun _ _ _ hg h => (by obtain ⟨s, X, N, f, Y, O, t, h1, h2⟩ := h; exact ⟨s, X, N, f, Y, O, t, h1, NumR.gq h2 hg⟩)) <|
  fa_cons (fun _ _ _ _ h => h) <|
  fa_cons (fun _ _ _ _ h => h) <|
  fa_cons (fun _ _ _ _ h => h) <|
  fa_cons (fun _ _ _ _ h => h) <|
  fa_cons (fun _ _ _ _ h => h) <|
  fa_cons (fun _ _ _ hg h => (by obtain ⟨s, X, N, f, Y, O, t, h1, h2⟩ := h; exact ⟨s, X, N, f, Y, O, t, h1, NumR.gq h2 hg⟩)) <|
  fa_cons (fun _ _ _ hg h => (by obtain ⟨g, h1, h2, h3⟩ := h; exact ⟨g, h1, h2, h3.gq hg⟩)) <|
  fa_cons (fun _ _ _ hg h => (by obtain ⟨g, h1, h2, h3⟩ := h; exact ⟨g, h1, h2, h3.gq hg⟩)) <|
  fa_cons (fun _ _ _ _ h => h) <|
  fa_cons (fun _ _ _ hg h => (by obtain ⟨g, h1, h2, s, X, N, f, Y, O, t, h3, h4⟩ := h; exact ⟨g, h1, h2, s, X, N, f, Y, O, t, blk_gqr h3 hg, NumR.gq h4 hg⟩)) <|
  fa_cons (fun _ _ _ hg h => (by obtain ⟨g, h1, h2, s, X, N, f, Y, O, t, h3, h4⟩ := h; exact ⟨g, h1, h2, s, X, N, f, Y, O, t, blk_gqr h3 hg, NumR.gq h4 hg⟩)) <|
  fa_nil _
def vr9F (wc : World) (b off len d m : Nat) (i pa qa : Int) : List Fact := [
  ⟨[], fun _ W => Gq wc W⟩,
  ⟨[0], fun vs _ => vs 0 = .int .i64 i⟩,
  ⟨[1], fun vs _ => vs 1 = .slice (some ⟨b, off, none⟩) len d⟩,
  ⟨[2], fun vs _ => vs 2 = .int .i64 ((m : Int) + 1)⟩,
  ⟨[3], fun vs _ => vs 3 = .int .i64 (m : Int)⟩,
  ⟨[4], fun vs _ => vs 4 = .pointer (some ⟨b, off + m * 3, none⟩)⟩,
  ⟨[5], fun vs _ => vs 5 = .pointer (some ⟨b, off + m * 3, none⟩)⟩,
  ⟨[6], fun vs _ => vs 6 = .int .i64 pa⟩,
  ⟨[7], fun vs _ => vs 7 = .int .i64 (i - pa)⟩,
  ⟨[8], fun vs W => ∃ s X N f Y O t, vs 8 = .agg #[.bool s, .slice X N f, .slice Y O t] ∧ NumQ W (.agg #[.bool s, .slice X N f, .slice Y O t]) (mkRat (i - pa) 1)⟩,
  ⟨[9], fun vs _ => vs 9 = .slice (some ⟨b, off, none⟩) len d⟩,
  ⟨[10], fun vs _ => vs 10 = .int .i64 ((m : Int) + 1)⟩,
  ⟨[11], fun vs _ => vs 11 = .pointer (some ⟨b, off + (m + 1) * 3, none⟩)⟩,
  ⟨[12], fun vs _ => vs 12 = .pointer (some ⟨b, off + (m + 1) * 3, none⟩)⟩,
  ⟨[13], fun vs _ => vs 13 = .int .i64 qa⟩,
  ⟨[14], fun vs _ => vs 14 = .slice (some ⟨b, off, none⟩) len d⟩,
  ⟨[15], fun vs _ => vs 15 = .int .i64 ((m : Int) + 1)⟩,
  ⟨[16], fun vs _ => vs 16 = .int .i64 (m : Int)⟩,
  ⟨[17], fun vs _ => vs 17 = .pointer (some ⟨b, off + m * 3, none⟩)⟩,
  ⟨[18], fun vs _ => vs 18 = .pointer (some ⟨b, off + m * 3, none⟩)⟩,
  ⟨[19], fun vs _ => vs 19 = .int .i64 pa⟩,
  ⟨[20], fun vs _ => vs 20 = .int .i64 (qa - pa)⟩,
  ⟨[21], fun vs W => ∃ s X N f Y O t, vs 21 = .agg #[.bool s, .slice X N f, .slice Y O t] ∧ NumQ W (.agg #[.bool s, .slice X N f, .slice Y O t]) (mkRat (qa - pa) 1)⟩,
  ⟨[22], fun vs W => ∃ s X N f Y O t, vs 22 = .agg #[.bool s, .slice X N f, .slice Y O t] ∧ NumQ W (.agg #[.bool s, .slice X N f, .slice Y O t]) (mkRat (i - pa) (qa - pa).toNat)⟩,
  ⟨[23], fun vs W => ∃ g, vs 23 = .pointer (some ⟨g, 0, none⟩) ∧ wc.heap.size ≤ g ∧ NB 62 W g⟩,
  ⟨[23, 24], fun vs W => ∃ g, vs 23 = .pointer (some ⟨g, 0, none⟩) ∧ wc.heap.size ≤ g ∧ ∃ s X N f Y O t, Blk W g 62 [.bool s, .slice X N f, .slice Y O t] ∧ NumQ W (.agg #[.bool s, .slice X N f, .slice Y O t]) (mkRat (i - pa) (qa - pa).toNat)⟩]
theorem vr9K (wc : World) (b off len d m : Nat) (i pa qa : Int) : ∀ f ∈ vr9F wc b off len d m i pa qa, ∀ vs w w', Gq w w' → f.says vs w → f.says vs w' :=
  fa_cons (fun _ _ _ hg h => h.trans hg) <|
  fa_cons (fun _ _ _ _ h => h) <|
  fa_cons (fun _ _ _ _ h => h) <|
  fa_cons (fun _ _ _ _ h => h) <|
  fa_cons (fun _ _ _ _ h => h) <|
  fa_cons (fun _ _ _ _ h => h) <|
  fa_cons (fun _ _ _ _ h => h) <|
  fa_cons (fun _ _ _ _ h => h) <|
  fa_cons (fun _ _ _ _ h => h) <|
  fa_cons (fun _ _ _ hg h => (by obtain ⟨s, X, N, f, Y, O, t, h1, h2⟩ := h; exact ⟨s, X, N, f, Y, O, t, h1, NumR.gq h2 hg⟩)) <|
  fa_cons (fun _ _ _ _ h => h) <|
  fa_cons (fun _ _ _ _ h => h) <|
  fa_cons (fun _ _ _ _ h => h) <|
  fa_cons (fun _ _ _ _ h => h) <|
  fa_cons (fun _ _ _ _ h => h) <|
  fa_cons (fun _ _ _ _ h => h) <|
  fa_cons (fun _ _ _ _ h => h) <|
  fa_cons (fun _ _ _ _ h => h) <|
  fa_cons (fun _ _ _ _ h => h) <|
  fa_cons (fun _ _ _ _ h => h) <|
  fa_cons (fun _ _ _ _ h => h) <|
  fa_cons (fun _ _ _ _ h => h) <|
  fa_cons (fun _ _ _ hg h => (by obtain ⟨s, X, N, f, Y, O, t, h1, h2⟩ := h; exact ⟨s, X, N, f, Y, O, t, h1, NumR.gq h2 hg⟩)) <|
  fa_cons (fun _ _ _ hg h => (by obtain ⟨s, X, N, f, Y, O, t, h1, h2⟩ := h; exact ⟨s, X, N, f, Y, O, t, h1, NumR.gq h2 hg⟩)) <|
  fa_cons (fun _ _ _ hg h => (by obtain ⟨g, h1, h2, h3⟩ := h; exact ⟨g, h1, h2, h3.gq hg⟩)) <|
  fa_cons (fun _ _ _ hg h => (by obtain ⟨g, h1, h2, s, X, N, f, Y, O, t, h3, h4⟩ := h; exact ⟨g, h1, h2, s, X, N, f, Y, O, t, blk_gqr h3 hg, NumR.gq h4 hg⟩)) <|
  fa_nil _
def vrxF (w0 : World) (gR ga gb ge : Nat) (i pa qa : Int) (pn pd qn qd : ByteArray) : List Fact := [
  ⟨[], fun _ W => Gq w0 W ∧ w0.heap.size ≤ gR ∧ NB 62 W gR ∧ NQB W ga (ratQ ⟨pa, pn, pd⟩) ∧ NQB W gb (ratQ ⟨qa, qn, qd⟩) ∧ NQB W ge (mkRat (i - pa) (qa - pa).toNat)⟩,
  ⟨[0], fun vs W => ∃ s X N f Y O t, vs 0 = .agg #[.bool s, .slice X N f, .slice Y O t] ∧ NumQ W (.agg #[.bool s, .slice X N f, .slice Y O t]) (ratQ ⟨pa, pn, pd⟩)⟩,
  ⟨[1], fun vs W => ∃ s X N f Y O t, vs 1 = .agg #[.bool s, .slice X N f, .slice Y O t] ∧ NumQ W (.agg #[.bool s, .slice X N f, .slice Y O t]) (ratQ ⟨qa, qn, qd⟩)⟩,
  ⟨[2], fun vs W => ∃ s X N f Y O t, vs 2 = .agg #[.bool s, .slice X N f, .slice Y O t] ∧ NumQ W (.agg #[.bool s, .slice X N f, .slice Y O t]) (ratQ ⟨pa, pn, pd⟩)⟩,
  ⟨[3], fun vs W => ∃ s X N f Y O t, vs 3 = .agg #[.bool s, .slice X N f, .slice Y O t] ∧ NumQ W (.agg #[.bool s, .slice X N f, .slice Y O t]) (-(ratQ ⟨pa, pn, pd⟩))⟩,
  ⟨[4], fun vs W => ∃ s X N f Y O t, vs 4 = .agg #[.bool s, .slice X N f, .slice Y O t] ∧ NumQ W (.agg #[.bool s, .slice X N f, .slice Y O t]) ((ratQ ⟨qa, qn, qd⟩ + -ratQ ⟨pa, pn, pd⟩))⟩,
  ⟨[5], fun vs W => ∃ s X N f Y O t, vs 5 = .agg #[.bool s, .slice X N f, .slice Y O t] ∧ NumQ W (.agg #[.bool s, .slice X N f, .slice Y O t]) (mkRat (i - pa) (qa - pa).toNat)⟩,
  ⟨[6], fun vs W => ∃ s X N f Y O t, vs 6 = .agg #[.bool s, .slice X N f, .slice Y O t] ∧ NumQ W (.agg #[.bool s, .slice X N f, .slice Y O t]) ((ratQ ⟨qa, qn, qd⟩ + -ratQ ⟨pa, pn, pd⟩) * mkRat (i - pa) (qa - pa).toNat)⟩,
  ⟨[7], fun vs W => ∃ s X N f Y O t, vs 7 = .agg #[.bool s, .slice X N f, .slice Y O t] ∧ NumQ W (.agg #[.bool s, .slice X N f, .slice Y O t]) (ratQ ⟨pa, pn, pd⟩ + (ratQ ⟨qa, qn, qd⟩ + -ratQ ⟨pa, pn, pd⟩) * mkRat (i - pa) (qa - pa).toNat)⟩,
  ⟨[8], fun _ W => ∃ s X N f Y O t, Blk W gR 62 [.bool s, .slice X N f, .slice Y O t] ∧ NumQ W (.agg #[.bool s, .slice X N f, .slice Y O t]) (ratQ ⟨pa, pn, pd⟩ + (ratQ ⟨qa, qn, qd⟩ + -ratQ ⟨pa, pn, pd⟩) * mkRat (i - pa) (qa - pa).toNat)⟩]
theorem vrxK (w0 : World) (gR ga gb ge : Nat) (i pa qa : Int) (pn pd qn qd : ByteArray) : ∀ f ∈ vrxF w0 gR ga gb ge i pa qa pn pd qn qd, ∀ vs w w', Gq w w' → f.says vs w → f.says vs w' :=
  fa_cons (fun _ _ _ hg h => ⟨h.1.trans hg, h.2.1, h.2.2.1.gq hg, h.2.2.2.1.gq hg, h.2.2.2.2.1.gq hg, h.2.2.2.2.2.gq hg⟩) <|
  fa_cons (fun _ _ _ hg h => (by obtain ⟨s, X, N, f, Y, O, t, h1, h2⟩ := h; exact ⟨s, X, N, f, Y, O, t, h1, NumR.gq h2 hg⟩)) <|
  fa_cons (fun _ _ _ hg h => (by obtain ⟨s, X, N, f, Y, O, t, h1, h2⟩ := h; exact ⟨s, X, N, f, Y, O, t, h1, NumR.gq h2 hg⟩)) <|
  fa_cons (fun _ _ _ hg h => (by obtain ⟨s, X, N, f, Y, O, t, h1, h2⟩ := h; exact ⟨s, X, N, f, Y, O, t, h1, NumR.gq h2 hg⟩)) <|
  fa_cons (fun _ _ _ hg h => (by obtain ⟨s, X, N, f, Y, O, t, h1, h2⟩ := h; exact ⟨s, X, N, f, Y, O, t, h1, NumR.gq h2 hg⟩)) <|
  fa_cons (fun _ _ _ hg h => (by obtain ⟨s, X, N, f, Y, O, t, h1, h2⟩ := h; exact ⟨s, X, N, f, Y, O, t, h1, NumR.gq h2 hg⟩)) <|
  fa_cons (fun _ _ _ hg h => (by obtain ⟨s, X, N, f, Y, O, t, h1, h2⟩ := h; exact ⟨s, X, N, f, Y, O, t, h1, NumR.gq h2 hg⟩)) <|
  fa_cons (fun _ _ _ hg h => (by obtain ⟨s, X, N, f, Y, O, t, h1, h2⟩ := h; exact ⟨s, X, N, f, Y, O, t, h1, NumR.gq h2 hg⟩)) <|
  fa_cons (fun _ _ _ hg h => (by obtain ⟨s, X, N, f, Y, O, t, h1, h2⟩ := h; exact ⟨s, X, N, f, Y, O, t, h1, NumR.gq h2 hg⟩)) <|
  fa_cons (fun _ _ _ hg h => (by obtain ⟨s, X, N, f, Y, O, t, h1, h2⟩ := h; exact ⟨s, X, N, f, Y, O, t, blk_gqr h1 hg, NumR.gq h2 hg⟩)) <|
  fa_nil _
set_option maxRecDepth 100000 in
set_option maxHeartbeats 16000000 in
theorem valueR_any (x : CliM) (i : Int) (w : World) (h : CliOk w x) (hv : envF x.ln x.e.xs = 0) (hln : x.ln ≤ 100000) (hi : 0 ≤ i ∧ i < 100000) (hp : HasPow w) :
    Calls Tryz.prog 46 #[x.v, .int .i64 i] w (NumRes (valQ x.e.xs i) w) := by
  obtain ⟨he1, he2, he3⟩ := envF_ok hv
  have hinc := envF_inc hv
  obtain ⟨xm, xc, xf, xt, xa, xl, ⟨A, d, xs⟩⟩ := x
  have HER : Hid (Rd w A (xs.flatMap Pnt.cs)) := h.er
  have HP : Hid (∀ p ∈ xs, PntR xl p) := he3
  have HINC : Hid (IncP xs) := hinc
  have hl1 : 0 < xs.length := he1
  have hl2 : xs.length ≤ 50 := he2
  have hxl : xl ≤ 100000 := hln
  have HOF : Hid (∀ (k : Nat) (hk : k < xs.length) (W : World), Calls Tryz.prog 81 #[.agg #[.string xs[k].n, .string xs[k].d]] W (NumRes (ratQ xs[k]) W)) := fun k hk W => by
    have hp := HP.out _ (List.getElem_mem hk)
    obtain ⟨_, s1, s2⟩ := pnt_lim hp
    exact ofQ_any _ W hp.r s1
  have HGD : Hid (∀ (k : Nat) (hk : k < xs.length), xs.getD k dPnt = xs[k]) := fun k hk => by rw [List.getD_eq_getElem?_getD, List.getElem?_eq_getElem hk]; rfl
  have HPW := Lib.hid hp
  clear h hv he1 he2 he3 hinc hln hp
  simp only [CliM.v, Slc.v]
  obtain ⟨R, hR⟩ : ∃ R, valQ xs i = R := ⟨_, rfl⟩
  rw [hR]
  have HR := Lib.hid hR
  clear hR
  obtain ⟨wa, hwa⟩ : ∃ wa, wa = w.alloc (.cells #[.string xm, .int .i64 xc, .int .i64 xf, .int .i64 xt, .int .i64 xa, .int .i64 xl, .slice A xs.length d] 40) := ⟨_, rfl⟩
  obtain ⟨w1, hw1⟩ : ∃ w1, w1 = wa.alloc (.cells #[.bool false, .slice none 0 0, .slice none 0 0] 62) := ⟨_, rfl⟩
  have z1 : wa.heap.size = w.heap.size + 1 := by rw [hwa]; simp
  have ba : Gq w wa := by rw [hwa]; exact (Gq.refl _).alloc _
  have bc : Gq wa w1 := by rw [hw1]; exact (Gq.refl _).alloc _
  have HE : Hid (NumE w w1 (w.heap.size + 1)) := by
    refine ⟨ba.trans bc, by omega, ?_⟩
    rw [← z1, hw1]; exact NB.new _ _ (noI_bool _) (noI_slice _ _ _) (noI_slice _ _ _)
  have HKX : Hid (Blk w1 w.heap.size 40 [.string xm, .int .i64 xc, .int .i64 xf, .int .i64 xt, .int .i64 xa, .int .i64 xl, .slice A xs.length d]) := by
    refine blk_gqr (?_ : Blk wa w.heap.size _ _) bc; rw [hwa]; exact Blk.new w _ _
  rw [hwa] at hw1
  have HW1 := Lib.hid hw1
  clear hw1 hwa ba bc z1
  have c6 : w1.cell? ⟨w.heap.size, 6, none⟩ = some (.slice A xs.length d) := HKX.out.cell 6
  obtain ⟨b, off, hA, hbb, hc⟩ := pnt_at (HER.out.below HE.out.bel) hl1
  subst hA
  have HC : Hid (∀ (k : Nat) (hk : k < xs.length) (W : World), Gq w1 W → W.cell? ⟨b, off + k * 3, none⟩ = some (.int .i64 xs[k].at_) ∧ W.cell? ⟨b, off + k * 3 + 1, none⟩ = some (.string xs[k].n) ∧ W.cell? ⟨b, off + k * 3 + 2, none⟩ = some (.string xs[k].d)) := fun k hk W hW => by
    obtain ⟨k1, k2, k3⟩ := hc k hk
    exact ⟨by rw [Below.cell hW (by exact hbb)]; exact k1, by rw [Below.cell hW (by exact hbb)]; exact k2, by rw [Below.cell hW (by exact hbb)]; exact k3⟩
  obtain ⟨y0, y1, y2, q0, q1, q2, q3, q4, q5⟩ := HE.out.cells (Gq.refl _)
  obtain ⟨p0, p1, p2⟩ := HC.out 0 hl1 w1 (Gq.refl _)
  rw [Nat.zero_mul, Nat.add_zero] at p0 p1 p2
  have HAT0 : Hid (∀ j, j < 1 → i ≤ xs[0].at_ → lowP xs i = 0) := fun _ _ h => lowP_of (Nat.zero_le _) (fun j hj => by omega) (fun _ => by rw [HGD.out 0 hl1]; exact h)
  have hx0 : (0 : Int) < (xs.length : Int) := by omega
  clear hc
  by_cases h0 : i ≤ xs[0].at_
  · have hd0 : decide (i ≤ xs[0].at_) = true := decide_eq_true h0
    have hq : ratQ xs[0] = R := by rw [← HR.out, valQ_zero (HAT0.out 0 (by omega) h0), HGD.out 0 hl1]
    have HFQ := Lib.hid (HOF.out 0 hl1 w1)
    rw [hq] at HFQ
    clear h0 hq
    generalize xs[0] = pt at *
    obtain ⟨pa, pn, pd⟩ := pt
    simp only at p0 p1 p2 HFQ hd0
    go_enter Tryz.func46, Tryz.ntmps46
    go_upto_region 1 with (fail)
    rw [← HW1.out]
    go_wp2_with fail
    refine HFQ.out.mono ?_
    rintro e w3 ⟨v, rfl, hv, hb3⟩
    obtain ⟨X, N, f, Y, O, t, rfl, -, -⟩ := num_agg hv
    have HG3 : Hid (Gq w1 w3) := hb3
    obtain ⟨z0, z1, z2, r0, r1, r2, r3, r4, r5⟩ := HE.out.cells HG3.out
    obtain ⟨k2, k3, k4⟩ := HE.out.stored HG3.out (.bool (decide (R.num < 0))) (.slice X N f) (.slice Y O t)
    have HQ := Lib.hid (HE.out.end_ HG3.out _ _ _ hv)
    generalize decide (R.num < 0) = sg at *
    clear hv hb3
    go_wp2_with fail
    exact bodyPost_ret (v := .agg #[.bool sg, .slice X N f, .slice Y O t]) (by simp [results, Tryz.results46, go_sem, k2, k3, k4]) rfl HQ.out
  have HA0 : Hid (xs[0].at_ < i) := by show _ < _; omega
  have hd0 : decide (i ≤ xs[0].at_) = false := decide_eq_false h0
  generalize hx00 : xs[0].at_ = a0 at *
  clear h0 HAT0
  go_enter Tryz.func46, Tryz.ntmps46
  go_upto_region 1 with (fail)
  rw [← HW1.out]
  go_wp2_with fail
  go_loopw [6] (fun kv wr => w1 = wr ∧ ∃ k : Nat, 1 ≤ k ∧ k ≤ xs.length ∧ kv = .int .i64 (k : Int) ∧ Hid (∀ j, j < k → (xs.getD j dPnt).at_ < i)) (fun kv _ => xs.length - (intOf kv).toNat)
  case atStart => exact ⟨rfl, 1, by omega, by omega, rfl, fun j hj => by rw [show j = 0 by omega, HGD.out 0 hl1, hx00]; exact HA0.out⟩
  case round =>
    obtain ⟨hwr, k, hk1, hkl, rfl, HJ⟩ := hrel
    subst hwr
    clear p0 p1 p2 hd0 HA0 hx00 c6
    by_cases hlt : k < xs.length
    case neg =>
      have hke : k = xs.length := by omega
      have hdl : decide (k < xs.length) = false := by simpa using hlt
      have hlo : lowP xs i = xs.length := lowP_of (Nat.le_refl _) (fun j hj => HJ.out j (by omega)) (fun h => by omega)
      obtain ⟨m, hm⟩ : ∃ m, xs.length = m + 1 := ⟨xs.length - 1, by omega⟩
      have hml : m < xs.length := by omega
      have hq : ratQ xs[m] = R := by
        rw [← HR.out, valQ_last (by omega) hlo, ← HGD.out m hml, show xs.length - 1 = m by omega]
      have HFQ := Lib.hid (HOF.out m hml w1)
      rw [hq] at HFQ
      obtain ⟨p0, p1, p2⟩ := HC.out m hml w1 (Gq.refl _)
      have hmk : IntKind.i64.wrap ((xs.length : Int) - 1) = (m : Int) := by rw [show (xs.length : Int) - 1 = (m : Int) by omega]; exact IntWalk.i64_in _ (by omega)
      have hm0 : (0 : Int) ≤ (m : Int) := by omega
      have hm1 : (m : Int) < (xs.length : Int) := by omega
      clear hke hlt hlo hm hq HJ
      generalize xs[m] = pt at *
      obtain ⟨pa, pn, pd⟩ := pt
      simp only at p0 p1 p2 HFQ
      go_wp2_with fail
      refine HFQ.out.mono ?_
      rintro e w3 ⟨v, rfl, hv, hb3⟩
      obtain ⟨X, N, f, Y, O, t, rfl, -, -⟩ := num_agg hv
      have HG3 : Hid (Gq w1 w3) := hb3
      obtain ⟨z0, z1, z2, r0, r1, r2, r3, r4, r5⟩ := HE.out.cells HG3.out
      obtain ⟨k2, k3, k4⟩ := HE.out.stored HG3.out (.bool (decide (R.num < 0))) (.slice X N f) (.slice Y O t)
      have HQ := Lib.hid (HE.out.end_ HG3.out _ _ _ hv)
      generalize decide (R.num < 0) = sg at *
      clear hv hb3
      go_wp2_with fail
      exact bodyPost_ret (v := .agg #[.bool sg, .slice X N f, .slice Y O t]) (by simp [results, Tryz.results46, go_sem, k2, k3, k4]) rfl HQ.out
    have hdl : decide (k < xs.length) = true := by simpa using hlt
    have hk0 : (0 : Int) ≤ (k : Int) := by omega
    have hki : (k : Int) < (xs.length : Int) := by omega
    obtain ⟨p0, p1, p2⟩ := HC.out k hlt w1 (Gq.refl _)
    by_cases hle : i ≤ xs[k].at_
    case neg =>
      have hd1 : decide (i ≤ xs[k].at_) = false := decide_eq_false hle
      have HJ2 : Hid (∀ j, j < k + 1 → (xs.getD j dPnt).at_ < i) := fun j hj => by
        rcases Nat.lt_or_eq_of_le (Nat.le_of_lt_succ hj) with q | q
        · exact HJ.out j q
        · rw [q, HGD.out k hlt]; omega
      have hw2 : IntKind.i64.wrap ((k : Int) + 1) = (k : Int) + 1 := IntWalk.i64_in _ (by omega)
      clear HJ hle p1 p2
      generalize xs[k].at_ = ak at *
      go_wp2_with fail
      go_roundw
      case rel => exact ⟨trivial, k + 1, by omega, by omega, by go_num, HJ2⟩
      case measure => simp [intOf]; omega
    have hd1 : decide (i ≤ xs[k].at_) = true := decide_eq_true hle
    have hlo : lowP xs i = k := lowP_of (by omega) (fun j hj => HJ.out j hj) (fun _ => by rw [HGD.out k hlt]; exact hle)
    obtain ⟨m, rfl⟩ : ∃ m, k = m + 1 := ⟨k - 1, by omega⟩
    have hml : m < xs.length := by omega
    have hq : segQ xs[m] xs[m + 1] i = R := by
      rw [← HR.out, valQ_seg (by omega) (by omega), hlo, Nat.add_sub_cancel, HGD.out m hml, HGD.out (m + 1) hlt]
    have hlt2 : xs[m].at_ < xs[m + 1].at_ := by
      have := HINC.out m hlt
      rw [HGD.out m hml, HGD.out (m + 1) hlt] at this
      exact this
    have hmk : IntKind.i64.wrap ((m : Int) + 1 - 1) = (m : Int) := by rw [Int.add_sub_cancel]; exact IntWalk.i64_in _ (by omega)
    have hmk2 : IntKind.i64.wrap (m : Int) = (m : Int) := IntWalk.i64_in _ (by omega)
    have hx0 : (0 : Int) ≤ (m : Int) := by omega
    have hx1 : (m : Int) < (xs.length : Int) := by omega
    have hx2 : (0 : Int) ≤ (m : Int) + 1 := by omega
    have hx3 : (m : Int) + 1 < (xs.length : Int) := by omega
    obtain ⟨la, -, -⟩ := pnt_lim (HP.out _ (List.getElem_mem hml))
    obtain ⟨lb, -, -⟩ := pnt_lim (HP.out _ (List.getElem_mem hlt))
    have ra := (HP.out _ (List.getElem_mem hml)).a
    have rb := (HP.out _ (List.getElem_mem hlt)).a
    have HFA := Lib.hid (HOF.out m hml)
    have HFB := Lib.hid (HOF.out (m + 1) hlt)
    have HPT1 : Hid (∀ W, Gq w1 W → W.cell? ⟨b, off + m * 3, none⟩ = some (.int .i64 xs[m].at_) ∧ W.cell? ⟨b, off + m * 3 + 1, none⟩ = some (.string xs[m].n) ∧ W.cell? ⟨b, off + m * 3 + 2, none⟩ = some (.string xs[m].d) ∧ W.cell? ⟨b, off + (m + 1) * 3, none⟩ = some (.int .i64 xs[m + 1].at_) ∧ W.cell? ⟨b, off + (m + 1) * 3 + 1, none⟩ = some (.string xs[m + 1].n) ∧ W.cell? ⟨b, off + (m + 1) * 3 + 2, none⟩ = some (.string xs[m + 1].d)) := fun W hW => by
      obtain ⟨k1, k2, k3⟩ := HC.out m hml W hW
      obtain ⟨k4, k5, k6⟩ := HC.out (m + 1) hlt W hW
      exact ⟨k1, k2, k3, k4, k5, k6⟩
    clear hlo hle HJ HC HOF HGD HINC HP HR
    generalize xs[m] = pp at *
    generalize xs[m + 1] = pq at *
    obtain ⟨pa, pn, pd⟩ := pp
    obtain ⟨qa, qn, qd⟩ := pq
    simp only at p0 p1 p2 ra rb hlt2 HFA HFB HPT1 hd1
    have HLP : Hid (RLim 162 (ratQ ⟨pa, pn, pd⟩)) := RLim.mono la (by omega)
    have HLN : Hid (RLim 40 (-ratQ ⟨pa, pn, pd⟩)) := la.neg
    have HLB := Lib.hid lb
    have HLD : Hid (RLim 81 ((ratQ ⟨qa, qn, qd⟩ + -ratQ ⟨pa, pn, pd⟩))) := RLim.mono (RLim.add lb la.neg) (by omega)
    have HLM : Hid (RLim 81 (mkRat (i - pa) (qa - pa).toNat)) := by
      have h1 : Lim 1 (i - pa).natAbs := by unfold Lim; rw [Nat.pow_one]; have : W32 = 4294967296 := rfl; omega
      have h2 : Lim 1 (qa - pa).toNat := by unfold Lim; rw [Nat.pow_one]; have : W32 = 4294967296 := rfl; omega
      exact (RLim.mk h1 h2 (by omega)).mono (by omega)
    have HLX : Hid (RLim 162 ((ratQ ⟨qa, qn, qd⟩ + -ratQ ⟨pa, pn, pd⟩) * mkRat (i - pa) (qa - pa).toNat)) := RLim.mono (RLim.mul HLD.out HLM.out) (by omega)
    have HR : Hid (ratQ ⟨pa, pn, pd⟩ + (ratQ ⟨qa, qn, qd⟩ + -ratQ ⟨pa, pn, pd⟩) * mkRat (i - pa) (qa - pa).toNat = R) := by
      show _ = _
      rw [← hq]
      unfold segQ
      rw [Rat.sub_eq_add_neg]
    have HI1 : Hid (∀ W, Gq w1 W → Calls Tryz.prog 84 #[.int .i64 (i - pa)] W (NumRes (mkRat (i - pa) 1) W)) := fun W hW =>
      intQ_any (i - pa) W ⟨by omega, by omega⟩ ((HPW.out.below HE.out.bel).below hW)
    have HI2 : Hid (∀ W, Gq w1 W → Calls Tryz.prog 84 #[.int .i64 (qa - pa)] W (NumRes (mkRat (qa - pa) 1) W)) := fun W hW =>
      intQ_any (qa - pa) W ⟨by omega, by omega⟩ ((HPW.out.below HE.out.bel).below hW)
    have HOV : Hid (∀ va vb W, NumQ W va (mkRat (i - pa) 1) → NumQ W vb (mkRat (qa - pa) 1) → Calls Tryz.prog 83 #[va, vb] W (NumRes (mkRat (i - pa) (qa - pa).toNat) W)) := fun va vb W h1 h2 => by
      have := overQ_any va vb _ _ W h1 h2 1 (int_lim (by omega)) (int_lim (by omega)) (by omega) (by rw [(mk_int _).1]; omega)
      rw [over_int (by omega)] at this
      exact this
    have hw2 : IntKind.i64.wrap (i - pa) = i - pa := IntWalk.i64_in _ (by omega)
    have hw4 : IntKind.i64.wrap (qa - pa) = qa - pa := IntWalk.i64_in _ (by omega)
    clear la lb hq ra rb hlt2
    go_upto_region 8 with (fail)
    have HPT := HPT1
    clear p0 p1 p2 q0 q1 q2 q3 q4 q5 HPT1 HW1 HKX
    go_cut [7, 8] (fun v7 v8 wx => ∃ gc gd : Nat, v7 = .pointer (some ⟨gc, 0, none⟩) ∧ v8 = .pointer (some ⟨gd, 0, none⟩) ∧ Hid (Gq w1 wx ∧ w1.heap.size ≤ gc ∧ w1.heap.size ≤ gd ∧ NQB wx gc (ratQ ⟨pa, pn, pd⟩) ∧ NQB wx gd (ratQ ⟨qa, qn, qd⟩)))
    case first =>
      refine wp_region_factsK _ (by kernel_rfl) (by kernel_rfl) [[], [], [1], [0, 1, 2], [0, 1, 2, 3], [0, 1, 2, 3, 4], [0, 1, 2, 3, 4, 5], [], [], [7, 8], [7, 8, 9], [7, 8, 9, 10], [7, 8, 9, 10, 11], [], [], [0, 1, 2, 3, 4, 5, 6, 13], [7, 8, 9, 10, 11, 12, 14]] (by kernel_rfl) [some 36, some 37, some 38, some 39, some 40, some 41, some 42, some 43, some 44, some 45, some 46, some 47, some 48, some 7, some 8, none, none] (by kernel_rfl) (fun vs => by simp only [putA, putL, if_true, Act.put, List.setIfInBounds_toArray, List.set_cons_zero, List.set_cons_succ]; rfl) (vr8F w1 b off xs.length d m pa qa pn pd qn qd) (by kernel_rfl) ?_ ⟨?_, ?_, ?_, ?_, ?_, ?_, ?_, ?_, ?_, ?_, ?_, ?_, ?_, ?_, ?_, ?_, ?_, trivial⟩ ?_
      · exact fa_zero [0] (by kernel_rfl) <| fa_cons ((Gq.refl _).drew) <| fa_nil _
      · -- 0: Op.move t5
        intro Ls vs w Kk H hu hK
        replace hu : ∀ k ∈ ([] : List Nat), Ls k = true := hu
        have base : Gq w1 w := H.up hu 0 rfl rfl
        have hKK := Lib.hid hK
        clear hK H
        go_simp
        refine hKK.out _ _ (fun f _ _ _ h => h) ?_
        exact fa_pick [1] (by kernel_rfl) <| fa_cons (fun _ => rfl) <| fa_nil _
      · -- 1: Op.move t6
        intro Ls vs w Kk H hu hK
        replace hu : ∀ k ∈ ([] : List Nat), Ls k = true := hu
        have base : Gq w1 w := H.up hu 0 rfl rfl
        have hKK := Lib.hid hK
        clear hK H
        go_simp
        refine hKK.out _ _ (fun f _ _ _ h => h) ?_
        exact fa_pick [2] (by kernel_rfl) <| fa_cons (fun _ => rfl) <| fa_nil _
      · -- 2: Op.binOp BinOp.sub 3 t37 (const (1:i64)) 3
        intro Ls vs w Kk H hu hK
        replace hu : ∀ k ∈ ([1] : List Nat), Ls k = true := hu
        have base : Gq w1 w := H.up hu 0 rfl rfl
        have f1 : vs 1 = .int .i64 ((m : Int) + 1) := H.up hu 2 rfl rfl
        have hKK := Lib.hid hK
        clear hK H
        go_simp
        refine hKK.out _ _ (fun f _ _ _ h => h) ?_
        exact fa_pick [3] (by kernel_rfl) <| fa_cons (fun _ => rfl) <| fa_nil _
      · -- 3: Op.indexAddr 34 t36 t38
        intro Ls vs w Kk H hu hK
        replace hu : ∀ k ∈ ([0, 1, 2] : List Nat), Ls k = true := hu
        have base : Gq w1 w := H.up hu 0 rfl rfl
        have f0 : vs 0 = .slice (some ⟨b, off, none⟩) xs.length d := H.up hu 1 rfl rfl
        have f2 : vs 2 = .int .i64 (m : Int) := H.up hu 3 rfl rfl
        have hKK := Lib.hid hK
        clear hK H
        go_simp
        refine hKK.out _ _ (fun f _ _ _ h => h) ?_
        exact fa_pick [4] (by kernel_rfl) <| fa_cons (fun _ => rfl) <| fa_nil _
      · -- 4: Op.fieldAddr 70 t39 1
        intro Ls vs w Kk H hu hK
        replace hu : ∀ k ∈ ([0, 1, 2, 3] : List Nat), Ls k = true := hu
        have base : Gq w1 w := H.up hu 0 rfl rfl
        have f3 : vs 3 = .pointer (some ⟨b, off + m * 3, none⟩) := H.up hu 4 rfl rfl
        have hKK := Lib.hid hK
        clear hK H
        go_simp
        refine hKK.out _ _ (fun f _ _ _ h => h) ?_
        exact fa_pick [5] (by kernel_rfl) <| fa_cons (fun _ => rfl) <| fa_nil _
      · -- 5: Op.load 38 t40
        intro Ls vs w Kk H hu hK
        replace hu : ∀ k ∈ ([0, 1, 2, 3, 4] : List Nat), Ls k = true := hu
        have base : Gq w1 w := H.up hu 0 rfl rfl
        have f4 : vs 4 = .pointer (some ⟨b, off + m * 3 + 1, none⟩) := H.up hu 5 rfl rfl
        obtain ⟨p0, p1, p2, r0, r1, r2⟩ := HPT.out w base
        have hKK := Lib.hid hK
        clear hK H
        go_simp
        refine hKK.out _ _ (fun f _ _ _ h => h) ?_
        exact fa_pick [6] (by kernel_rfl) <| fa_cons (fun _ => rfl) <| fa_nil _
      · -- 6: Op.call { value (Operand.func 92), args := #[t41], argTypes := #[38] }
        intro Ls vs w Kk H hu hK
        replace hu : ∀ k ∈ ([0, 1, 2, 3, 4, 5] : List Nat), Ls k = true := hu
        have base : Gq w1 w := H.up hu 0 rfl rfl
        have f5 : vs 5 = .agg #[.string pn, .string pd] := H.up hu 6 rfl rfl
        have hKK := Lib.hid hK
        clear hK H
        go_simp
        refine (HFA.out w).mono ?_
        rintro e w' ⟨v, rfl, hv, hb⟩
        obtain ⟨X, N, f, Y, O, t, rfl, -, -⟩ := num_agg hv
        refine ⟨_, rfl, hKK.out _ _ (fun f hf _ _ h => vr8K w1 b off xs.length d m pa qa pn pd qn qd f hf _ _ _ hb h) ?_⟩
        exact fa_pick [7] (by kernel_rfl) <| fa_cons (fun _ => ⟨_, X, N, f, Y, O, t, rfl, hv⟩) <| fa_nil _
      · -- 7: Op.move t5
        intro Ls vs w Kk H hu hK
        replace hu : ∀ k ∈ ([] : List Nat), Ls k = true := hu
        have base : Gq w1 w := H.up hu 0 rfl rfl
        have hKK := Lib.hid hK
        clear hK H
        go_simp
        refine hKK.out _ _ (fun f _ _ _ h => h) ?_
        exact fa_pick [8] (by kernel_rfl) <| fa_cons (fun _ => rfl) <| fa_nil _
      · -- 8: Op.move t6
        intro Ls vs w Kk H hu hK
        replace hu : ∀ k ∈ ([] : List Nat), Ls k = true := hu
        have base : Gq w1 w := H.up hu 0 rfl rfl
        have hKK := Lib.hid hK
        clear hK H
        go_simp
        refine hKK.out _ _ (fun f _ _ _ h => h) ?_
        exact fa_pick [9] (by kernel_rfl) <| fa_cons (fun _ => rfl) <| fa_nil _
      · -- 9: Op.indexAddr 34 t43 t44
        intro Ls vs w Kk H hu hK
        replace hu : ∀ k ∈ ([7, 8] : List Nat), Ls k = true := hu
        have base : Gq w1 w := H.up hu 0 rfl rfl
        have f7 : vs 7 = .slice (some ⟨b, off, none⟩) xs.length d := H.up hu 8 rfl rfl
        have f8 : vs 8 = .int .i64 ((m : Int) + 1) := H.up hu 9 rfl rfl
        have hKK := Lib.hid hK
        clear hK H
        go_simp
        refine hKK.out _ _ (fun f _ _ _ h => h) ?_
        exact fa_pick [10] (by kernel_rfl) <| fa_cons (fun _ => rfl) <| fa_nil _
      · -- 10: Op.fieldAddr 70 t45 1
        intro Ls vs w Kk H hu hK
        replace hu : ∀ k ∈ ([7, 8, 9] : List Nat), Ls k = true := hu
        have base : Gq w1 w := H.up hu 0 rfl rfl
        have f9 : vs 9 = .pointer (some ⟨b, off + (m + 1) * 3, none⟩) := H.up hu 10 rfl rfl
        have hKK := Lib.hid hK
        clear hK H
        go_simp
        refine hKK.out _ _ (fun f _ _ _ h => h) ?_
        exact fa_pick [11] (by kernel_rfl) <| fa_cons (fun _ => rfl) <| fa_nil _
      · -- 11: Op.load 38 t46
        intro Ls vs w Kk H hu hK
        replace hu : ∀ k ∈ ([7, 8, 9, 10] : List Nat), Ls k = true := hu
        have base : Gq w1 w := H.up hu 0 rfl rfl
        have f10 : vs 10 = .pointer (some ⟨b, off + (m + 1) * 3 + 1, none⟩) := H.up hu 11 rfl rfl
        obtain ⟨p0, p1, p2, r0, r1, r2⟩ := HPT.out w base
        have hKK := Lib.hid hK
        clear hK H
        go_simp
        refine hKK.out _ _ (fun f _ _ _ h => h) ?_
        exact fa_pick [12] (by kernel_rfl) <| fa_cons (fun _ => rfl) <| fa_nil _
      · -- 12: Op.call { value (Operand.func 92), args := #[t47], argTypes := #[38] }
        intro Ls vs w Kk H hu hK
        replace hu : ∀ k ∈ ([7, 8, 9, 10, 11] : List Nat), Ls k = true := hu
        have base : Gq w1 w := H.up hu 0 rfl rfl
        have f11 : vs 11 = .agg #[.string qn, .string qd] := H.up hu 12 rfl rfl
        have hKK := Lib.hid hK
        clear hK H
        go_simp
        refine (HFB.out w).mono ?_
        rintro e w' ⟨v, rfl, hv, hb⟩
        obtain ⟨X, N, f, Y, O, t, rfl, -, -⟩ := num_agg hv
        refine ⟨_, rfl, hKK.out _ _ (fun f hf _ _ h => vr8K w1 b off xs.length d m pa qa pn pd qn qd f hf _ _ _ hb h) ?_⟩
        exact fa_pick [13] (by kernel_rfl) <| fa_cons (fun _ => ⟨_, X, N, f, Y, O, t, rfl, hv⟩) <| fa_nil _
      · -- 13: Op.alloc 84
        intro Ls vs w Kk H hu hK
        replace hu : ∀ k ∈ ([] : List Nat), Ls k = true := hu
        have base : Gq w1 w := H.up hu 0 rfl rfl
        have HH := Lib.hid H
        have hKK := Lib.hid hK
        clear hK H
        go_simp
        refine hKK.out _ _ (fun f hf _ _ h => vr8K w1 b off xs.length d m pa qa pn pd qn qd f hf _ _ _ (Gq.alloc (Gq.refl _) _) h) ?_
        exact fa_pick [14, 16, 17] (by kernel_rfl) <| fa_cons (fun _ => ⟨_, rfl, Below.size base, NB.new _ _ (noI_bool _) (noI_slice _ _ _) (noI_slice _ _ _)⟩) <|
            fa_cons (fun hL => (by obtain ⟨gz, e1, -, e3⟩ := HH.out.at_ 15 rfl (fun k hk => by rw [List.mem_singleton.1 hk]; exact (hL 14 (show (14 : Nat) ∈ ([13, 14] : List Nat) from by decide) (show (14 : Nat) ≠ 13 from by decide)).1); intro e; have e4 : Value.pointer (some ⟨gz, 0, none⟩) = .pointer (some ⟨w.heap.size, 0, none⟩) := (Eq.symm e1).trans (Eq.symm e); injection e4 with e4; injection e4 with e4; injection e4 with e4; have := e3.lt; omega)) <|
            fa_cons (fun hL => absurd (show (13 : Nat) ∈ ([0, 1, 2, 3, 4, 5, 6, 13] : List Nat) from by decide) (hL 15 (show (15 : Nat) ∈ ([13, 15] : List Nat) from by decide) (show (15 : Nat) ≠ 13 from by decide)).2) <| fa_nil _
      · -- 14: Op.alloc 84
        intro Ls vs w Kk H hu hK
        replace hu : ∀ k ∈ ([] : List Nat), Ls k = true := hu
        have base : Gq w1 w := H.up hu 0 rfl rfl
        have HH := Lib.hid H
        have hKK := Lib.hid hK
        clear hK H
        go_simp
        refine hKK.out _ _ (fun f hf _ _ h => vr8K w1 b off xs.length d m pa qa pn pd qn qd f hf _ _ _ (Gq.alloc (Gq.refl _) _) h) ?_
        exact fa_pick [15, 16, 18] (by kernel_rfl) <| fa_cons (fun _ => ⟨_, rfl, Below.size base, NB.new _ _ (noI_bool _) (noI_slice _ _ _) (noI_slice _ _ _)⟩) <|
            fa_cons (fun hL => (by obtain ⟨gz, e1, -, e3⟩ := HH.out.at_ 14 rfl (fun k hk => by rw [List.mem_singleton.1 hk]; exact (hL 13 (show (13 : Nat) ∈ ([13, 14] : List Nat) from by decide) (show (13 : Nat) ≠ 14 from by decide)).1); intro e; have e4 : Value.pointer (some ⟨gz, 0, none⟩) = .pointer (some ⟨w.heap.size, 0, none⟩) := (Eq.symm e1).trans e; injection e4 with e4; injection e4 with e4; injection e4 with e4; have := e3.lt; omega)) <|
            fa_cons (fun hL => absurd (show (14 : Nat) ∈ ([7, 8, 9, 10, 11, 12, 14] : List Nat) from by decide) (hL 16 (show (16 : Nat) ∈ ([14, 16] : List Nat) from by decide) (show (16 : Nat) ≠ 14 from by decide)).2) <| fa_nil _
      · -- 15: Op.store 84 t7 t42
        intro Ls vs w Kk H hu hK
        replace hu : ∀ k ∈ ([0, 1, 2, 3, 4, 5, 6, 13] : List Nat), Ls k = true := hu
        have base : Gq w1 w := H.up hu 0 rfl rfl
        have qx6 : ∃ s X N f Y O t, vs 6 = .agg #[.bool s, .slice X N f, .slice Y O t] ∧ NumQ w (.agg #[.bool s, .slice X N f, .slice Y O t]) (ratQ ⟨pa, pn, pd⟩) := H.up hu 7 rfl rfl
        obtain ⟨sx6, Xx6, Nx6, fx6, Yx6, Ox6, tx6, ex6, vx6⟩ := qx6
        have qga : ∃ g, vs 13 = .pointer (some ⟨g, 0, none⟩) ∧ w1.heap.size ≤ g ∧ NB 62 w g := H.up hu 14 rfl rfl
        obtain ⟨ga, ega, lga, bga⟩ := qga
        obtain ⟨x0, x1, x2, c0, c1, c2, d0, d1, d2⟩ := bga.cells
        have HNE14 : Hid (∀ {l : List Nat}, (∀ j ∈ l, Ls j = true) → 14 ∈ l → vs 13 ≠ vs 14) := fun {l} hl hm => (H.at_ 16 rfl (fun k hk => by
          have h6 : Ls 13 = true := hu _ (by decide)
          have h7 : Ls 14 = true := hl _ hm
          simp only [List.mem_cons, List.not_mem_nil, or_false] at hk
          rcases hk with rfl | rfl <;> assumption) : vs 13 ≠ vs 14)
        have hKK := Lib.hid hK
        clear hK H
        go_simp
        have ho := otr3 w ga (.bool sx6) (.slice Xx6 Nx6 fx6) (.slice Yx6 Ox6 tx6)
        refine hKK.out _ _ (fa_cons (fun _ _ h => gq_set3r h lga _ _ _) <|
          fa_cons (fun _ _ h => h) <|
          fa_cons (fun _ _ h => h) <|
          fa_cons (fun _ _ h => h) <|
          fa_cons (fun _ _ h => h) <|
          fa_cons (fun _ _ h => h) <|
          fa_cons (fun _ _ h => h) <|
          fa_cons (fun _ _ h => (by obtain ⟨s, X, N, f, Y, O, t, h1, h2⟩ := h; exact ⟨s, X, N, f, Y, O, t, h1, bga.num ho h2⟩)) <|
          fa_cons (fun _ _ h => h) <|
          fa_cons (fun _ _ h => h) <|
          fa_cons (fun _ _ h => h) <|
          fa_cons (fun _ _ h => h) <|
          fa_cons (fun _ _ h => h) <|
          fa_cons (fun _ _ h => (by obtain ⟨s, X, N, f, Y, O, t, h1, h2⟩ := h; exact ⟨s, X, N, f, Y, O, t, h1, bga.num ho h2⟩)) <|
          fa_cons (fun _ _ h => (by obtain ⟨g, h1, h2, h3⟩ := h; refine ⟨g, h1, h2, ?_⟩; have e4 := (Eq.symm ega).trans h1; injection e4 with e4; injection e4 with e4; injection e4 with e4; subst e4; exact bga.stored (noI_bool _) (noI_slice _ _ _) (noI_slice _ _ _))) <|
          fa_cons (fun _ hl h => (by obtain ⟨g, h1, h2, h3⟩ := h; refine ⟨g, h1, h2, h3.other ho ?_⟩; rintro rfl; exact HNE14.out hl (show (14 : Nat) ∈ ([14] : List Nat) from by decide) (ega.trans (Eq.symm h1)))) <|
          fa_cons (fun _ _ h => h) <|
          fa_cons (fun hn => absurd (show (15 : Nat) ∈ ([13, 15] : List Nat) from by decide) hn) <|
          fa_cons (fun _ hl h => (by obtain ⟨g, h1, h2, s, X, N, f, Y, O, t, h3, h4⟩ := h; refine ⟨g, h1, h2, s, X, N, f, Y, O, t, ho.blk h3 ?_, bga.num ho h4⟩; rintro rfl; exact HNE14.out hl (show (14 : Nat) ∈ ([14, 16] : List Nat) from by decide) (ega.trans (Eq.symm h1)))) <| fa_nil _) ?_
        exact fa_pick [17] (by kernel_rfl) <| fa_cons (fun _ => ⟨ga, ega, lga, sx6, Xx6, Nx6, fx6, Yx6, Ox6, tx6, bga.store, bga.num ho vx6⟩) <| fa_nil _
      · -- 16: Op.store 84 t8 t48
        intro Ls vs w Kk H hu hK
        replace hu : ∀ k ∈ ([7, 8, 9, 10, 11, 12, 14] : List Nat), Ls k = true := hu
        have base : Gq w1 w := H.up hu 0 rfl rfl
        have qx12 : ∃ s X N f Y O t, vs 12 = .agg #[.bool s, .slice X N f, .slice Y O t] ∧ NumQ w (.agg #[.bool s, .slice X N f, .slice Y O t]) (ratQ ⟨qa, qn, qd⟩) := H.up hu 13 rfl rfl
        obtain ⟨sx12, Xx12, Nx12, fx12, Yx12, Ox12, tx12, ex12, vx12⟩ := qx12
        have qgb : ∃ g, vs 14 = .pointer (some ⟨g, 0, none⟩) ∧ w1.heap.size ≤ g ∧ NB 62 w g := H.up hu 15 rfl rfl
        obtain ⟨gb, egb, lgb, bgb⟩ := qgb
        obtain ⟨x0, x1, x2, c0, c1, c2, d0, d1, d2⟩ := bgb.cells
        have HNE13 : Hid (∀ {l : List Nat}, (∀ j ∈ l, Ls j = true) → 13 ∈ l → vs 14 ≠ vs 13) := fun {l} hl hm => Ne.symm (H.at_ 16 rfl (fun k hk => by
          have h6 : Ls 14 = true := hu _ (by decide)
          have h7 : Ls 13 = true := hl _ hm
          simp only [List.mem_cons, List.not_mem_nil, or_false] at hk
          rcases hk with rfl | rfl <;> assumption) : vs 13 ≠ vs 14)
        have hKK := Lib.hid hK
        clear hK H
        go_simp
        have ho := otr3 w gb (.bool sx12) (.slice Xx12 Nx12 fx12) (.slice Yx12 Ox12 tx12)
        refine hKK.out _ _ (fa_cons (fun _ _ h => gq_set3r h lgb _ _ _) <|
          fa_cons (fun _ _ h => h) <|
          fa_cons (fun _ _ h => h) <|
          fa_cons (fun _ _ h => h) <|
          fa_cons (fun _ _ h => h) <|
          fa_cons (fun _ _ h => h) <|
          fa_cons (fun _ _ h => h) <|
          fa_cons (fun _ _ h => (by obtain ⟨s, X, N, f, Y, O, t, h1, h2⟩ := h; exact ⟨s, X, N, f, Y, O, t, h1, bgb.num ho h2⟩)) <|
          fa_cons (fun _ _ h => h) <|
          fa_cons (fun _ _ h => h) <|
          fa_cons (fun _ _ h => h) <|
          fa_cons (fun _ _ h => h) <|
          fa_cons (fun _ _ h => h) <|
          fa_cons (fun _ _ h => (by obtain ⟨s, X, N, f, Y, O, t, h1, h2⟩ := h; exact ⟨s, X, N, f, Y, O, t, h1, bgb.num ho h2⟩)) <|
          fa_cons (fun _ hl h => (by obtain ⟨g, h1, h2, h3⟩ := h; refine ⟨g, h1, h2, h3.other ho ?_⟩; rintro rfl; exact HNE13.out hl (show (13 : Nat) ∈ ([13] : List Nat) from by decide) (egb.trans (Eq.symm h1)))) <|
          fa_cons (fun _ _ h => (by obtain ⟨g, h1, h2, h3⟩ := h; refine ⟨g, h1, h2, ?_⟩; have e4 := (Eq.symm egb).trans h1; injection e4 with e4; injection e4 with e4; injection e4 with e4; subst e4; exact bgb.stored (noI_bool _) (noI_slice _ _ _) (noI_slice _ _ _))) <|
          fa_cons (fun _ _ h => h) <|
          fa_cons (fun _ hl h => (by obtain ⟨g, h1, h2, s, X, N, f, Y, O, t, h3, h4⟩ := h; refine ⟨g, h1, h2, s, X, N, f, Y, O, t, ho.blk h3 ?_, bgb.num ho h4⟩; rintro rfl; exact HNE13.out hl (show (13 : Nat) ∈ ([13, 15] : List Nat) from by decide) (egb.trans (Eq.symm h1)))) <|
          fa_cons (fun hn => absurd (show (16 : Nat) ∈ ([14, 16] : List Nat) from by decide) hn) <| fa_nil _) ?_
        exact fa_pick [18] (by kernel_rfl) <| fa_cons (fun _ => ⟨gb, egb, lgb, sx12, Xx12, Nx12, fx12, Yx12, Ox12, tx12, bgb.store, bgb.num ho vx12⟩) <| fa_nil _
      · intro vs w H
        have base : Gq w1 w := fa_at H 0 rfl
        have f0 : vs 0 = .slice (some ⟨b, off, none⟩) xs.length d := fa_at H 1 rfl
        have f1 : vs 1 = .int .i64 ((m : Int) + 1) := fa_at H 2 rfl
        have f2 : vs 2 = .int .i64 (m : Int) := fa_at H 3 rfl
        have f3 : vs 3 = .pointer (some ⟨b, off + m * 3, none⟩) := fa_at H 4 rfl
        have f4 : vs 4 = .pointer (some ⟨b, off + m * 3 + 1, none⟩) := fa_at H 5 rfl
        have f5 : vs 5 = .agg #[.string pn, .string pd] := fa_at H 6 rfl
        have f7 : vs 7 = .slice (some ⟨b, off, none⟩) xs.length d := fa_at H 8 rfl
        have f8 : vs 8 = .int .i64 ((m : Int) + 1) := fa_at H 9 rfl
        have f9 : vs 9 = .pointer (some ⟨b, off + (m + 1) * 3, none⟩) := fa_at H 10 rfl
        have f10 : vs 10 = .pointer (some ⟨b, off + (m + 1) * 3 + 1, none⟩) := fa_at H 11 rfl
        have f11 : vs 11 = .agg #[.string qn, .string qd] := fa_at H 12 rfl
        have qgc : ∃ g, vs 13 = .pointer (some ⟨g, 0, none⟩) ∧ w1.heap.size ≤ g ∧ ∃ s X N f Y O t, Blk w g 62 [.bool s, .slice X N f, .slice Y O t] ∧ NumQ w (.agg #[.bool s, .slice X N f, .slice Y O t]) (ratQ ⟨pa, pn, pd⟩) := fa_at H 17 rfl
        obtain ⟨gc, egc, lgc, rgc⟩ := qgc
        have qgd : ∃ g, vs 14 = .pointer (some ⟨g, 0, none⟩) ∧ w1.heap.size ≤ g ∧ ∃ s X N f Y O t, Blk w g 62 [.bool s, .slice X N f, .slice Y O t] ∧ NumQ w (.agg #[.bool s, .slice X N f, .slice Y O t]) (ratQ ⟨qa, qn, qd⟩) := fa_at H 18 rfl
        obtain ⟨gd, egd, lgd, rgd⟩ := qgd
        clear H
        simp only [Nat.zero_add, Nat.reduceAdd]
        have HH : Hid (Gq w1 w ∧ w1.heap.size ≤ gc ∧ w1.heap.size ≤ gd ∧ NQB w gc (ratQ ⟨pa, pn, pd⟩) ∧ NQB w gd (ratQ ⟨qa, qn, qd⟩)) := ⟨base, lgc, lgd, rgc, rgd⟩
        clear base lgc lgd rgc rgd
        simp only [egc, egd, f0, f1, f2, f3, f4, f5, f7, f8, f9, f10, f11]
        clear egc egd f0 f1 f2 f3 f4 f5 f7 f8 f9 f10 f11
        generalize vs 6 = z6
        generalize vs 12 = z12
        go_wp2_with fail
        go_meet
        case rel => exact ⟨_, _, rfl, rfl, HH⟩
    case rest =>
      obtain ⟨gc, gd, rfl, rfl, H8⟩ := hcut
      obtain ⟨wo, hwo⟩ : ∃ wo, wo = wc := ⟨_, rfl⟩
      subst hwo
      obtain ⟨w0, hw0⟩ : ∃ w0, w0 = w := ⟨_, rfl⟩
      subst hw0
      have HZ : Hid (w0.heap.size + 1 < w1.heap.size) := HE.out.nb.lt
      have HPT2 : Hid (∀ W, Gq wo W → W.cell? ⟨b, off + m * 3, none⟩ = some (.int .i64 pa) ∧ W.cell? ⟨b, off + m * 3 + 1, none⟩ = some (.string pn) ∧ W.cell? ⟨b, off + m * 3 + 2, none⟩ = some (.string pd) ∧ W.cell? ⟨b, off + (m + 1) * 3, none⟩ = some (.int .i64 qa) ∧ W.cell? ⟨b, off + (m + 1) * 3 + 1, none⟩ = some (.string qn) ∧ W.cell? ⟨b, off + (m + 1) * 3 + 2, none⟩ = some (.string qd)) := fun W hW => HPT.out W (H8.out.1.trans hW)
      have HI3 : Hid (∀ W, Gq wo W → Calls Tryz.prog 84 #[.int .i64 (i - pa)] W (NumRes (mkRat (i - pa) 1) W)) := fun W hW => HI1.out W (H8.out.1.trans hW)
      have HI4 : Hid (∀ W, Gq wo W → Calls Tryz.prog 84 #[.int .i64 (qa - pa)] W (NumRes (mkRat (qa - pa) 1) W)) := fun W hW => HI2.out W (H8.out.1.trans hW)
      have HPT := HPT2
      have HI1 := HI3
      have HI2 := HI4
      clear HPT2 HI3 HI4
      go_upto_region 9 with (fail)
      go_cut [9] (fun v9 wx => ∃ ge : Nat, v9 = .pointer (some ⟨ge, 0, none⟩) ∧ Hid (Gq wo wx ∧ wo.heap.size ≤ ge ∧ NQB wx ge (mkRat (i - pa) (qa - pa).toNat)))
      case first =>
        refine wp_region_factsK _ (by kernel_rfl) (by kernel_rfl) [[], [], [], [2], [1, 2, 3], [1, 2, 3, 4], [1, 2, 3, 4, 5], [0, 1, 2, 3, 4, 5, 6], [0, 1, 2, 3, 4, 5, 6, 7], [], [], [9, 10], [9, 10, 11], [9, 10, 11, 12], [], [], [15], [14, 15, 16], [14, 15, 16, 17], [14, 15, 16, 17, 18], [9, 10, 11, 12, 13, 14, 15, 16, 17, 18, 19], [9, 10, 11, 12, 13, 14, 15, 16, 17, 18, 19, 20], [0, 1, 2, 3, 4, 5, 6, 7, 8, 9, 10, 11, 12, 13, 14, 15, 16, 17, 18, 19, 20, 21], [], [0, 1, 2, 3, 4, 5, 6, 7, 8, 9, 10, 11, 12, 13, 14, 15, 16, 17, 18, 19, 20, 21, 22, 23]] (by kernel_rfl) [some 49, some 50, some 51, some 52, some 53, some 54, some 55, some 56, some 57, some 58, some 59, some 60, some 61, some 62, some 63, some 64, some 65, some 66, some 67, some 68, some 69, some 70, some 71, some 9, none] (by kernel_rfl) (fun vs => by simp only [putA, putL, if_true, Act.put, List.setIfInBounds_toArray, List.set_cons_zero, List.set_cons_succ]; rfl) (vr9F wo b off xs.length d m i pa qa) (by kernel_rfl) ?_ ⟨?_, ?_, ?_, ?_, ?_, ?_, ?_, ?_, ?_, ?_, ?_, ?_, ?_, ?_, ?_, ?_, ?_, ?_, ?_, ?_, ?_, ?_, ?_, ?_, ?_, trivial⟩ ?_
        · exact fa_zero [0] (by kernel_rfl) <| fa_cons ((Gq.refl _).drew) <| fa_nil _
        · -- 0: Op.move t1
          intro Ls vs w Kk H hu hK
          replace hu : ∀ k ∈ ([] : List Nat), Ls k = true := hu
          have base : Gq wo w := H.up hu 0 rfl rfl
          have hKK := Lib.hid hK
          clear hK H
          go_simp
          refine hKK.out _ _ (fun f _ _ _ h => h) ?_
          exact fa_pick [1] (by kernel_rfl) <| fa_cons (fun _ => rfl) <| fa_nil _
        · -- 1: Op.move t5
          intro Ls vs w Kk H hu hK
          replace hu : ∀ k ∈ ([] : List Nat), Ls k = true := hu
          have base : Gq wo w := H.up hu 0 rfl rfl
          have hKK := Lib.hid hK
          clear hK H
          go_simp
          refine hKK.out _ _ (fun f _ _ _ h => h) ?_
          exact fa_pick [2] (by kernel_rfl) <| fa_cons (fun _ => rfl) <| fa_nil _
        · -- 2: Op.move t6
          intro Ls vs w Kk H hu hK
          replace hu : ∀ k ∈ ([] : List Nat), Ls k = true := hu
          have base : Gq wo w := H.up hu 0 rfl rfl
          have hKK := Lib.hid hK
          clear hK H
          go_simp
          refine hKK.out _ _ (fun f _ _ _ h => h) ?_
          exact fa_pick [3] (by kernel_rfl) <| fa_cons (fun _ => rfl) <| fa_nil _
        · -- 3: Op.binOp BinOp.sub 3 t51 (const (1:i64)) 3
          intro Ls vs w Kk H hu hK
          replace hu : ∀ k ∈ ([2] : List Nat), Ls k = true := hu
          have base : Gq wo w := H.up hu 0 rfl rfl
          have f2 : vs 2 = .int .i64 ((m : Int) + 1) := H.up hu 3 rfl rfl
          have hKK := Lib.hid hK
          clear hK H
          go_simp
          refine hKK.out _ _ (fun f _ _ _ h => h) ?_
          exact fa_pick [4] (by kernel_rfl) <| fa_cons (fun _ => rfl) <| fa_nil _
        · -- 4: Op.indexAddr 34 t50 t52
          intro Ls vs w Kk H hu hK
          replace hu : ∀ k ∈ ([1, 2, 3] : List Nat), Ls k = true := hu
          have base : Gq wo w := H.up hu 0 rfl rfl
          have f1 : vs 1 = .slice (some ⟨b, off, none⟩) xs.length d := H.up hu 2 rfl rfl
          have f3 : vs 3 = .int .i64 (m : Int) := H.up hu 4 rfl rfl
          have hKK := Lib.hid hK
          clear hK H
          go_simp
          refine hKK.out _ _ (fun f _ _ _ h => h) ?_
          exact fa_pick [5] (by kernel_rfl) <| fa_cons (fun _ => rfl) <| fa_nil _
        · -- 5: Op.fieldAddr 70 t53 0
          intro Ls vs w Kk H hu hK
          replace hu : ∀ k ∈ ([1, 2, 3, 4] : List Nat), Ls k = true := hu
          have base : Gq wo w := H.up hu 0 rfl rfl
          have f4 : vs 4 = .pointer (some ⟨b, off + m * 3, none⟩) := H.up hu 5 rfl rfl
          have hKK := Lib.hid hK
          clear hK H
          go_simp
          refine hKK.out _ _ (fun f _ _ _ h => h) ?_
          exact fa_pick [6] (by kernel_rfl) <| fa_cons (fun _ => rfl) <| fa_nil _
        · -- 6: Op.load 3 t54
          intro Ls vs w Kk H hu hK
          replace hu : ∀ k ∈ ([1, 2, 3, 4, 5] : List Nat), Ls k = true := hu
          have base : Gq wo w := H.up hu 0 rfl rfl
          have f5 : vs 5 = .pointer (some ⟨b, off + m * 3, none⟩) := H.up hu 6 rfl rfl
          obtain ⟨p0, p1, p2, r0, r1, r2⟩ := HPT.out w base
          have hKK := Lib.hid hK
          clear hK H
          go_simp
          refine hKK.out _ _ (fun f _ _ _ h => h) ?_
          exact fa_pick [7] (by kernel_rfl) <| fa_cons (fun _ => rfl) <| fa_nil _
        · -- 7: Op.binOp BinOp.sub 3 t49 t55 3
          intro Ls vs w Kk H hu hK
          replace hu : ∀ k ∈ ([0, 1, 2, 3, 4, 5, 6] : List Nat), Ls k = true := hu
          have base : Gq wo w := H.up hu 0 rfl rfl
          have f0 : vs 0 = .int .i64 i := H.up hu 1 rfl rfl
          have f6 : vs 6 = .int .i64 pa := H.up hu 7 rfl rfl
          have hKK := Lib.hid hK
          clear hK H
          go_simp
          refine hKK.out _ _ (fun f _ _ _ h => h) ?_
          exact fa_pick [8] (by kernel_rfl) <| fa_cons (fun _ => rfl) <| fa_nil _
        · -- 8: Op.call { value (Operand.func 59), args := #[t56], argTypes := #[3] }
          intro Ls vs w Kk H hu hK
          replace hu : ∀ k ∈ ([0, 1, 2, 3, 4, 5, 6, 7] : List Nat), Ls k = true := hu
          have base : Gq wo w := H.up hu 0 rfl rfl
          have f7 : vs 7 = .int .i64 (i - pa) := H.up hu 8 rfl rfl
          have hKK := Lib.hid hK
          clear hK H
          go_simp
          refine (HI1.out w base).mono ?_
          rintro e w' ⟨v, rfl, hv, hb⟩
          obtain ⟨X, N, f, Y, O, t, rfl, -, -⟩ := num_agg hv
          refine ⟨_, rfl, hKK.out _ _ (fun f hf _ _ h => vr9K wo b off xs.length d m i pa qa f hf _ _ _ hb h) ?_⟩
          exact fa_pick [9] (by kernel_rfl) <| fa_cons (fun _ => ⟨_, X, N, f, Y, O, t, rfl, hv⟩) <| fa_nil _
        · -- 9: Op.move t5
          intro Ls vs w Kk H hu hK
          replace hu : ∀ k ∈ ([] : List Nat), Ls k = true := hu
          have base : Gq wo w := H.up hu 0 rfl rfl
          have hKK := Lib.hid hK
          clear hK H
          go_simp
          refine hKK.out _ _ (fun f _ _ _ h => h) ?_
          exact fa_pick [10] (by kernel_rfl) <| fa_cons (fun _ => rfl) <| fa_nil _
        · -- 10: Op.move t6
          intro Ls vs w Kk H hu hK
          replace hu : ∀ k ∈ ([] : List Nat), Ls k = true := hu
          have base : Gq wo w := H.up hu 0 rfl rfl
          have hKK := Lib.hid hK
          clear hK H
          go_simp
          refine hKK.out _ _ (fun f _ _ _ h => h) ?_
          exact fa_pick [11] (by kernel_rfl) <| fa_cons (fun _ => rfl) <| fa_nil _
        · -- 11: Op.indexAddr 34 t58 t59
          intro Ls vs w Kk H hu hK
          replace hu : ∀ k ∈ ([9, 10] : List Nat), Ls k = true := hu
          have base : Gq wo w := H.up hu 0 rfl rfl
          have f9 : vs 9 = .slice (some ⟨b, off, none⟩) xs.length d := H.up hu 10 rfl rfl
          have f10 : vs 10 = .int .i64 ((m : Int) + 1) := H.up hu 11 rfl rfl
          have hKK := Lib.hid hK
          clear hK H
          go_simp
          refine hKK.out _ _ (fun f _ _ _ h => h) ?_
          exact fa_pick [12] (by kernel_rfl) <| fa_cons (fun _ => rfl) <| fa_nil _
        · -- 12: Op.fieldAddr 70 t60 0
          intro Ls vs w Kk H hu hK
          replace hu : ∀ k ∈ ([9, 10, 11] : List Nat), Ls k = true := hu
          have base : Gq wo w := H.up hu 0 rfl rfl
          have f11 : vs 11 = .pointer (some ⟨b, off + (m + 1) * 3, none⟩) := H.up hu 12 rfl rfl
          have hKK := Lib.hid hK
          clear hK H
          go_simp
          refine hKK.out _ _ (fun f _ _ _ h => h) ?_
          exact fa_pick [13] (by kernel_rfl) <| fa_cons (fun _ => rfl) <| fa_nil _
        · -- 13: Op.load 3 t61
          intro Ls vs w Kk H hu hK
          replace hu : ∀ k ∈ ([9, 10, 11, 12] : List Nat), Ls k = true := hu
          have base : Gq wo w := H.up hu 0 rfl rfl
          have f12 : vs 12 = .pointer (some ⟨b, off + (m + 1) * 3, none⟩) := H.up hu 13 rfl rfl
          obtain ⟨p0, p1, p2, r0, r1, r2⟩ := HPT.out w base
          have hKK := Lib.hid hK
          clear hK H
          go_simp
          refine hKK.out _ _ (fun f _ _ _ h => h) ?_
          exact fa_pick [14] (by kernel_rfl) <| fa_cons (fun _ => rfl) <| fa_nil _
        · -- 14: Op.move t5
          intro Ls vs w Kk H hu hK
          replace hu : ∀ k ∈ ([] : List Nat), Ls k = true := hu
          have base : Gq wo w := H.up hu 0 rfl rfl
          have hKK := Lib.hid hK
          clear hK H
          go_simp
          refine hKK.out _ _ (fun f _ _ _ h => h) ?_
          exact fa_pick [15] (by kernel_rfl) <| fa_cons (fun _ => rfl) <| fa_nil _
        · -- 15: Op.move t6
          intro Ls vs w Kk H hu hK
          replace hu : ∀ k ∈ ([] : List Nat), Ls k = true := hu
          have base : Gq wo w := H.up hu 0 rfl rfl
          have hKK := Lib.hid hK
          clear hK H
          go_simp
          refine hKK.out _ _ (fun f _ _ _ h => h) ?_
          exact fa_pick [16] (by kernel_rfl) <| fa_cons (fun _ => rfl) <| fa_nil _
        · -- 16: Op.binOp BinOp.sub 3 t64 (const (1:i64)) 3
          intro Ls vs w Kk H hu hK
          replace hu : ∀ k ∈ ([15] : List Nat), Ls k = true := hu
          have base : Gq wo w := H.up hu 0 rfl rfl
          have f15 : vs 15 = .int .i64 ((m : Int) + 1) := H.up hu 16 rfl rfl
          have hKK := Lib.hid hK
          clear hK H
          go_simp
          refine hKK.out _ _ (fun f _ _ _ h => h) ?_
          exact fa_pick [17] (by kernel_rfl) <| fa_cons (fun _ => rfl) <| fa_nil _
        · -- 17: Op.indexAddr 34 t63 t65
          intro Ls vs w Kk H hu hK
          replace hu : ∀ k ∈ ([14, 15, 16] : List Nat), Ls k = true := hu
          have base : Gq wo w := H.up hu 0 rfl rfl
          have f14 : vs 14 = .slice (some ⟨b, off, none⟩) xs.length d := H.up hu 15 rfl rfl
          have f16 : vs 16 = .int .i64 (m : Int) := H.up hu 17 rfl rfl
          have hKK := Lib.hid hK
          clear hK H
          go_simp
          refine hKK.out _ _ (fun f _ _ _ h => h) ?_
          exact fa_pick [18] (by kernel_rfl) <| fa_cons (fun _ => rfl) <| fa_nil _
        · -- 18: Op.fieldAddr 70 t66 0
          intro Ls vs w Kk H hu hK
          replace hu : ∀ k ∈ ([14, 15, 16, 17] : List Nat), Ls k = true := hu
          have base : Gq wo w := H.up hu 0 rfl rfl
          have f17 : vs 17 = .pointer (some ⟨b, off + m * 3, none⟩) := H.up hu 18 rfl rfl
          have hKK := Lib.hid hK
          clear hK H
          go_simp
          refine hKK.out _ _ (fun f _ _ _ h => h) ?_
          exact fa_pick [19] (by kernel_rfl) <| fa_cons (fun _ => rfl) <| fa_nil _
        · -- 19: Op.load 3 t67
          intro Ls vs w Kk H hu hK
          replace hu : ∀ k ∈ ([14, 15, 16, 17, 18] : List Nat), Ls k = true := hu
          have base : Gq wo w := H.up hu 0 rfl rfl
          have f18 : vs 18 = .pointer (some ⟨b, off + m * 3, none⟩) := H.up hu 19 rfl rfl
          obtain ⟨p0, p1, p2, r0, r1, r2⟩ := HPT.out w base
          have hKK := Lib.hid hK
          clear hK H
          go_simp
          refine hKK.out _ _ (fun f _ _ _ h => h) ?_
          exact fa_pick [20] (by kernel_rfl) <| fa_cons (fun _ => rfl) <| fa_nil _
        · -- 20: Op.binOp BinOp.sub 3 t62 t68 3
          intro Ls vs w Kk H hu hK
          replace hu : ∀ k ∈ ([9, 10, 11, 12, 13, 14, 15, 16, 17, 18, 19] : List Nat), Ls k = true := hu
          have base : Gq wo w := H.up hu 0 rfl rfl
          have f13 : vs 13 = .int .i64 qa := H.up hu 14 rfl rfl
          have f19 : vs 19 = .int .i64 pa := H.up hu 20 rfl rfl
          have hKK := Lib.hid hK
          clear hK H
          go_simp
          refine hKK.out _ _ (fun f _ _ _ h => h) ?_
          exact fa_pick [21] (by kernel_rfl) <| fa_cons (fun _ => rfl) <| fa_nil _
        · -- 21: Op.call { value (Operand.func 59), args := #[t69], argTypes := #[3] }
          intro Ls vs w Kk H hu hK
          replace hu : ∀ k ∈ ([9, 10, 11, 12, 13, 14, 15, 16, 17, 18, 19, 20] : List Nat), Ls k = true := hu
          have base : Gq wo w := H.up hu 0 rfl rfl
          have f20 : vs 20 = .int .i64 (qa - pa) := H.up hu 21 rfl rfl
          have hKK := Lib.hid hK
          clear hK H
          go_simp
          refine (HI2.out w base).mono ?_
          rintro e w' ⟨v, rfl, hv, hb⟩
          obtain ⟨X, N, f, Y, O, t, rfl, -, -⟩ := num_agg hv
          refine ⟨_, rfl, hKK.out _ _ (fun f hf _ _ h => vr9K wo b off xs.length d m i pa qa f hf _ _ _ hb h) ?_⟩
          exact fa_pick [22] (by kernel_rfl) <| fa_cons (fun _ => ⟨_, X, N, f, Y, O, t, rfl, hv⟩) <| fa_nil _
        · -- 22: Op.call { value (Operand.func 94), args := #[t57, t70], argTypes := #[84, 84] }
          intro Ls vs w Kk H hu hK
          replace hu : ∀ k ∈ ([0, 1, 2, 3, 4, 5, 6, 7, 8, 9, 10, 11, 12, 13, 14, 15, 16, 17, 18, 19, 20, 21] : List Nat), Ls k = true := hu
          have base : Gq wo w := H.up hu 0 rfl rfl
          have qx8 : ∃ s X N f Y O t, vs 8 = .agg #[.bool s, .slice X N f, .slice Y O t] ∧ NumQ w (.agg #[.bool s, .slice X N f, .slice Y O t]) (mkRat (i - pa) 1) := H.up hu 9 rfl rfl
          obtain ⟨sx8, Xx8, Nx8, fx8, Yx8, Ox8, tx8, ex8, vx8⟩ := qx8
          have qx21 : ∃ s X N f Y O t, vs 21 = .agg #[.bool s, .slice X N f, .slice Y O t] ∧ NumQ w (.agg #[.bool s, .slice X N f, .slice Y O t]) (mkRat (qa - pa) 1) := H.up hu 22 rfl rfl
          obtain ⟨sx21, Xx21, Nx21, fx21, Yx21, Ox21, tx21, ex21, vx21⟩ := qx21
          have hKK := Lib.hid hK
          clear hK H
          go_simp
          refine (HOV.out _ _ w vx8 vx21).mono ?_
          rintro e w' ⟨v, rfl, hv, hb⟩
          obtain ⟨X, N, f, Y, O, t, rfl, -, -⟩ := num_agg hv
          refine ⟨_, rfl, hKK.out _ _ (fun f hf _ _ h => vr9K wo b off xs.length d m i pa qa f hf _ _ _ hb h) ?_⟩
          exact fa_pick [23] (by kernel_rfl) <| fa_cons (fun _ => ⟨_, X, N, f, Y, O, t, rfl, hv⟩) <| fa_nil _
        · -- 23: Op.alloc 84
          intro Ls vs w Kk H hu hK
          replace hu : ∀ k ∈ ([] : List Nat), Ls k = true := hu
          have base : Gq wo w := H.up hu 0 rfl rfl
          have HH := Lib.hid H
          have hKK := Lib.hid hK
          clear hK H
          go_simp
          refine hKK.out _ _ (fun f hf _ _ h => vr9K wo b off xs.length d m i pa qa f hf _ _ _ (Gq.alloc (Gq.refl _) _) h) ?_
          exact fa_pick [24, 25] (by kernel_rfl) <| fa_cons (fun _ => ⟨_, rfl, Below.size base, NB.new _ _ (noI_bool _) (noI_slice _ _ _) (noI_slice _ _ _)⟩) <|
              fa_cons (fun hL => absurd (show (23 : Nat) ∈ ([0, 1, 2, 3, 4, 5, 6, 7, 8, 9, 10, 11, 12, 13, 14, 15, 16, 17, 18, 19, 20, 21, 22, 23] : List Nat) from by decide) (hL 24 (show (24 : Nat) ∈ ([23, 24] : List Nat) from by decide) (show (24 : Nat) ≠ 23 from by decide)).2) <| fa_nil _
        · -- 24: Op.store 84 t9 t71
          intro Ls vs w Kk H hu hK
          replace hu : ∀ k ∈ ([0, 1, 2, 3, 4, 5, 6, 7, 8, 9, 10, 11, 12, 13, 14, 15, 16, 17, 18, 19, 20, 21, 22, 23] : List Nat), Ls k = true := hu
          have base : Gq wo w := H.up hu 0 rfl rfl
          have qx22 : ∃ s X N f Y O t, vs 22 = .agg #[.bool s, .slice X N f, .slice Y O t] ∧ NumQ w (.agg #[.bool s, .slice X N f, .slice Y O t]) (mkRat (i - pa) (qa - pa).toNat) := H.up hu 23 rfl rfl
          obtain ⟨sx22, Xx22, Nx22, fx22, Yx22, Ox22, tx22, ex22, vx22⟩ := qx22
          have qge : ∃ g, vs 23 = .pointer (some ⟨g, 0, none⟩) ∧ wo.heap.size ≤ g ∧ NB 62 w g := H.up hu 24 rfl rfl
          obtain ⟨ge, ege, lge, bge⟩ := qge
          obtain ⟨x0, x1, x2, c0, c1, c2, d0, d1, d2⟩ := bge.cells
          have hKK := Lib.hid hK
          clear hK H
          go_simp
          have ho := otr3 w ge (.bool sx22) (.slice Xx22 Nx22 fx22) (.slice Yx22 Ox22 tx22)
          refine hKK.out _ _ (fa_cons (fun _ _ h => gq_set3r h lge _ _ _) <|
            fa_cons (fun _ _ h => h) <|
            fa_cons (fun _ _ h => h) <|
            fa_cons (fun _ _ h => h) <|
            fa_cons (fun _ _ h => h) <|
            fa_cons (fun _ _ h => h) <|
            fa_cons (fun _ _ h => h) <|
            fa_cons (fun _ _ h => h) <|
            fa_cons (fun _ _ h => h) <|
            fa_cons (fun _ _ h => (by obtain ⟨s, X, N, f, Y, O, t, h1, h2⟩ := h; exact ⟨s, X, N, f, Y, O, t, h1, bge.num ho h2⟩)) <|
            fa_cons (fun _ _ h => h) <|
            fa_cons (fun _ _ h => h) <|
            fa_cons (fun _ _ h => h) <|
            fa_cons (fun _ _ h => h) <|
            fa_cons (fun _ _ h => h) <|
            fa_cons (fun _ _ h => h) <|
            fa_cons (fun _ _ h => h) <|
            fa_cons (fun _ _ h => h) <|
            fa_cons (fun _ _ h => h) <|
            fa_cons (fun _ _ h => h) <|
            fa_cons (fun _ _ h => h) <|
            fa_cons (fun _ _ h => h) <|
            fa_cons (fun _ _ h => (by obtain ⟨s, X, N, f, Y, O, t, h1, h2⟩ := h; exact ⟨s, X, N, f, Y, O, t, h1, bge.num ho h2⟩)) <|
            fa_cons (fun _ _ h => (by obtain ⟨s, X, N, f, Y, O, t, h1, h2⟩ := h; exact ⟨s, X, N, f, Y, O, t, h1, bge.num ho h2⟩)) <|
            fa_cons (fun _ _ h => (by obtain ⟨g, h1, h2, h3⟩ := h; refine ⟨g, h1, h2, ?_⟩; have e4 := (Eq.symm ege).trans h1; injection e4 with e4; injection e4 with e4; injection e4 with e4; subst e4; exact bge.stored (noI_bool _) (noI_slice _ _ _) (noI_slice _ _ _))) <|
            fa_cons (fun hn => absurd (show (24 : Nat) ∈ ([23, 24] : List Nat) from by decide) hn) <| fa_nil _) ?_
          exact fa_pick [25] (by kernel_rfl) <| fa_cons (fun _ => ⟨ge, ege, lge, sx22, Xx22, Nx22, fx22, Yx22, Ox22, tx22, bge.store, bge.num ho vx22⟩) <| fa_nil _
        · intro vs w H
          have base : Gq wo w := fa_at H 0 rfl
          have f0 : vs 0 = .int .i64 i := fa_at H 1 rfl
          have f1 : vs 1 = .slice (some ⟨b, off, none⟩) xs.length d := fa_at H 2 rfl
          have f2 : vs 2 = .int .i64 ((m : Int) + 1) := fa_at H 3 rfl
          have f3 : vs 3 = .int .i64 (m : Int) := fa_at H 4 rfl
          have f4 : vs 4 = .pointer (some ⟨b, off + m * 3, none⟩) := fa_at H 5 rfl
          have f5 : vs 5 = .pointer (some ⟨b, off + m * 3, none⟩) := fa_at H 6 rfl
          have f6 : vs 6 = .int .i64 pa := fa_at H 7 rfl
          have f7 : vs 7 = .int .i64 (i - pa) := fa_at H 8 rfl
          have f9 : vs 9 = .slice (some ⟨b, off, none⟩) xs.length d := fa_at H 10 rfl
          have f10 : vs 10 = .int .i64 ((m : Int) + 1) := fa_at H 11 rfl
          have f11 : vs 11 = .pointer (some ⟨b, off + (m + 1) * 3, none⟩) := fa_at H 12 rfl
          have f12 : vs 12 = .pointer (some ⟨b, off + (m + 1) * 3, none⟩) := fa_at H 13 rfl
          have f13 : vs 13 = .int .i64 qa := fa_at H 14 rfl
          have f14 : vs 14 = .slice (some ⟨b, off, none⟩) xs.length d := fa_at H 15 rfl
          have f15 : vs 15 = .int .i64 ((m : Int) + 1) := fa_at H 16 rfl
          have f16 : vs 16 = .int .i64 (m : Int) := fa_at H 17 rfl
          have f17 : vs 17 = .pointer (some ⟨b, off + m * 3, none⟩) := fa_at H 18 rfl
          have f18 : vs 18 = .pointer (some ⟨b, off + m * 3, none⟩) := fa_at H 19 rfl
          have f19 : vs 19 = .int .i64 pa := fa_at H 20 rfl
          have f20 : vs 20 = .int .i64 (qa - pa) := fa_at H 21 rfl
          have qgf : ∃ g, vs 23 = .pointer (some ⟨g, 0, none⟩) ∧ wo.heap.size ≤ g ∧ ∃ s X N f Y O t, Blk w g 62 [.bool s, .slice X N f, .slice Y O t] ∧ NumQ w (.agg #[.bool s, .slice X N f, .slice Y O t]) (mkRat (i - pa) (qa - pa).toNat) := fa_at H 25 rfl
          obtain ⟨gf, egf, lgf, rgf⟩ := qgf
          clear H
          simp only [Nat.zero_add, Nat.reduceAdd]
          have HH : Hid (Gq wo w ∧ wo.heap.size ≤ gf ∧ NQB w gf (mkRat (i - pa) (qa - pa).toNat)) := ⟨base, lgf, rgf⟩
          clear base lgf rgf
          simp only [egf, f0, f1, f2, f3, f4, f5, f6, f7, f9, f10, f11, f12, f13, f14, f15, f16, f17, f18, f19, f20]
          clear egf f0 f1 f2 f3 f4 f5 f6 f7 f9 f10 f11 f12 f13 f14 f15 f16 f17 f18 f19 f20
          generalize vs 8 = z8
          generalize vs 21 = z21
          generalize vs 22 = z22
          go_wp2_with fail
          go_meet
          case rel => exact ⟨_, rfl, HH⟩
      case rest =>
        obtain ⟨gf, rfl, H9⟩ := hcut
        have HNA : Hid (gc ≠ w0.heap.size + 1) := fun e => by have := H8.out.2.1; have := HZ.out; omega
        have HNB : Hid (gd ≠ w0.heap.size + 1) := fun e => by have := H8.out.2.2.1; have := HZ.out; omega
        have HNE : Hid (gf ≠ w0.heap.size + 1) := fun e => by have := H9.out.2.1; have := HZ.out; have := Below.size H8.out.1; omega
        have HBASE : Hid (Gq w0 wc.drew ∧ w0.heap.size ≤ w0.heap.size + 1 ∧ NB 62 wc.drew (w0.heap.size + 1) ∧ NQB wc.drew gc (ratQ ⟨pa, pn, pd⟩) ∧ NQB wc.drew gd (ratQ ⟨qa, qn, qd⟩) ∧ NQB wc.drew gf (mkRat (i - pa) (qa - pa).toNat)) := by
          have hd : Gq wc wc.drew := (Gq.refl _).drew
          exact ⟨HE.out.bel.trans (Below.mono ((H8.out.1.trans H9.out.1).trans hd) HE.out.bel.size), by omega, HE.out.nb.gq ((H8.out.1.trans H9.out.1).trans hd), H8.out.2.2.2.1.gq (H9.out.1.trans hd), H8.out.2.2.2.2.gq (H9.out.1.trans hd), H9.out.2.2.gq hd⟩
        clear H8 H9 HPT HI1 HI2 HOV HE HZ
        go_upto_region 10 with (fail)
        refine wp_region_factsK _ (by kernel_rfl) (by kernel_rfl) [[], [], [], [2], [1, 2, 3], [], [1, 2, 3, 4, 5], [0, 1, 2, 3, 4, 5, 6], [0, 1, 2, 3, 4, 5, 6, 7]] (by kernel_rfl) [some 72, some 73, some 74, some 75, some 76, some 77, some 78, some 79, none] (by kernel_rfl) (fun vs => by simp only [putA, putL, if_true, Act.put, List.setIfInBounds_toArray, List.set_cons_zero, List.set_cons_succ]; rfl) (vrxF w0 (w0.heap.size + 1) gc gd gf i pa qa pn pd qn qd) (by kernel_rfl) ?_ ⟨?_, ?_, ?_, ?_, ?_, ?_, ?_, ?_, ?_, trivial⟩ ?_
        · exact fa_zero [0] (by kernel_rfl) <| fa_cons (HBASE.out) <| fa_nil _
        · -- 0: Op.load 84 t7
          intro Ls vs w Kk H hu hK
          replace hu : ∀ k ∈ ([] : List Nat), Ls k = true := hu
          have qbase : Gq w0 w ∧ w0.heap.size ≤ (w0.heap.size + 1) ∧ NB 62 w (w0.heap.size + 1) ∧ NQB w gc (ratQ ⟨pa, pn, pd⟩) ∧ NQB w gd (ratQ ⟨qa, qn, qd⟩) ∧ NQB w gf (mkRat (i - pa) (qa - pa).toNat) := H.up hu 0 rfl rfl
          obtain ⟨h0, hle, hnb, ra, rb, re⟩ := qbase
          obtain ⟨s, X, N, f, Y, O, t, hk, hv⟩ := ra
          have d0 := hk.cell 0
          have d1 := hk.cell 1
          have d2 := hk.cell 2
          simp only [List.getElem?_cons_zero, List.getElem?_cons_succ] at d0 d1 d2
          have HV := Lib.hid hv
          clear hv hk
          have hKK := Lib.hid hK
          clear hK H
          go_simp
          refine hKK.out _ _ (fun f _ _ _ h => h) ?_
          exact fa_pick [1] (by kernel_rfl) <| fa_cons (fun _ => ⟨s, X, N, f, Y, O, t, rfl, HV.out⟩) <| fa_nil _
        · -- 1: Op.load 84 t8
          intro Ls vs w Kk H hu hK
          replace hu : ∀ k ∈ ([] : List Nat), Ls k = true := hu
          have qbase : Gq w0 w ∧ w0.heap.size ≤ (w0.heap.size + 1) ∧ NB 62 w (w0.heap.size + 1) ∧ NQB w gc (ratQ ⟨pa, pn, pd⟩) ∧ NQB w gd (ratQ ⟨qa, qn, qd⟩) ∧ NQB w gf (mkRat (i - pa) (qa - pa).toNat) := H.up hu 0 rfl rfl
          obtain ⟨h0, hle, hnb, ra, rb, re⟩ := qbase
          obtain ⟨s, X, N, f, Y, O, t, hk, hv⟩ := rb
          have d0 := hk.cell 0
          have d1 := hk.cell 1
          have d2 := hk.cell 2
          simp only [List.getElem?_cons_zero, List.getElem?_cons_succ] at d0 d1 d2
          have HV := Lib.hid hv
          clear hv hk
          have hKK := Lib.hid hK
          clear hK H
          go_simp
          refine hKK.out _ _ (fun f _ _ _ h => h) ?_
          exact fa_pick [2] (by kernel_rfl) <| fa_cons (fun _ => ⟨s, X, N, f, Y, O, t, rfl, HV.out⟩) <| fa_nil _
        · -- 2: Op.load 84 t7
          intro Ls vs w Kk H hu hK
          replace hu : ∀ k ∈ ([] : List Nat), Ls k = true := hu
          have qbase : Gq w0 w ∧ w0.heap.size ≤ (w0.heap.size + 1) ∧ NB 62 w (w0.heap.size + 1) ∧ NQB w gc (ratQ ⟨pa, pn, pd⟩) ∧ NQB w gd (ratQ ⟨qa, qn, qd⟩) ∧ NQB w gf (mkRat (i - pa) (qa - pa).toNat) := H.up hu 0 rfl rfl
          obtain ⟨h0, hle, hnb, ra, rb, re⟩ := qbase
          obtain ⟨s, X, N, f, Y, O, t, hk, hv⟩ := ra
          have d0 := hk.cell 0
          have d1 := hk.cell 1
          have d2 := hk.cell 2
          simp only [List.getElem?_cons_zero, List.getElem?_cons_succ] at d0 d1 d2
          have HV := Lib.hid hv
          clear hv hk
          have hKK := Lib.hid hK
          clear hK H
          go_simp
          refine hKK.out _ _ (fun f _ _ _ h => h) ?_
          exact fa_pick [3] (by kernel_rfl) <| fa_cons (fun _ => ⟨s, X, N, f, Y, O, t, rfl, HV.out⟩) <| fa_nil _
        · -- 3: Op.call { value (Operand.func 95), args := #[t74], argTypes := #[84] }
          intro Ls vs w Kk H hu hK
          replace hu : ∀ k ∈ ([2] : List Nat), Ls k = true := hu
          have qbase : Gq w0 w ∧ w0.heap.size ≤ (w0.heap.size + 1) ∧ NB 62 w (w0.heap.size + 1) ∧ NQB w gc (ratQ ⟨pa, pn, pd⟩) ∧ NQB w gd (ratQ ⟨qa, qn, qd⟩) ∧ NQB w gf (mkRat (i - pa) (qa - pa).toNat) := H.up hu 0 rfl rfl
          obtain ⟨h0, hle, hnb, ra, rb, re⟩ := qbase
          have qx2 : ∃ s X N f Y O t, vs 2 = .agg #[.bool s, .slice X N f, .slice Y O t] ∧ NumQ w (.agg #[.bool s, .slice X N f, .slice Y O t]) (ratQ ⟨pa, pn, pd⟩) := H.up hu 3 rfl rfl
          obtain ⟨sx2, Xx2, Nx2, fx2, Yx2, Ox2, tx2, ex2, vx2⟩ := qx2
          have hKK := Lib.hid hK
          clear hK H
          go_simp
          refine (minusQ_any _ (ratQ ⟨pa, pn, pd⟩) w vx2).mono ?_
          rintro e w' ⟨v, rfl, hv, hb⟩
          obtain ⟨X, N, f, Y, O, t, rfl, -, -⟩ := num_agg hv
          refine ⟨_, rfl, hKK.out _ _ (fun f hf _ _ h => vrxK w0 (w0.heap.size + 1) gc gd gf i pa qa pn pd qn qd f hf _ _ _ hb h) ?_⟩
          exact fa_pick [4] (by kernel_rfl) <| fa_cons (fun _ => ⟨_, X, N, f, Y, O, t, rfl, hv⟩) <| fa_nil _
        · -- 4: Op.call { value (Operand.func 60), args := #[t73, t75], argTypes := #[84, 84] }
          intro Ls vs w Kk H hu hK
          replace hu : ∀ k ∈ ([1, 2, 3] : List Nat), Ls k = true := hu
          have qbase : Gq w0 w ∧ w0.heap.size ≤ (w0.heap.size + 1) ∧ NB 62 w (w0.heap.size + 1) ∧ NQB w gc (ratQ ⟨pa, pn, pd⟩) ∧ NQB w gd (ratQ ⟨qa, qn, qd⟩) ∧ NQB w gf (mkRat (i - pa) (qa - pa).toNat) := H.up hu 0 rfl rfl
          obtain ⟨h0, hle, hnb, ra, rb, re⟩ := qbase
          have qx1 : ∃ s X N f Y O t, vs 1 = .agg #[.bool s, .slice X N f, .slice Y O t] ∧ NumQ w (.agg #[.bool s, .slice X N f, .slice Y O t]) (ratQ ⟨qa, qn, qd⟩) := H.up hu 2 rfl rfl
          obtain ⟨sx1, Xx1, Nx1, fx1, Yx1, Ox1, tx1, ex1, vx1⟩ := qx1
          have qx3 : ∃ s X N f Y O t, vs 3 = .agg #[.bool s, .slice X N f, .slice Y O t] ∧ NumQ w (.agg #[.bool s, .slice X N f, .slice Y O t]) (-(ratQ ⟨pa, pn, pd⟩)) := H.up hu 4 rfl rfl
          obtain ⟨sx3, Xx3, Nx3, fx3, Yx3, Ox3, tx3, ex3, vx3⟩ := qx3
          have hKK := Lib.hid hK
          clear hK H
          go_simp
          refine (plusQ_any _ _ (ratQ ⟨qa, qn, qd⟩) (-(ratQ ⟨pa, pn, pd⟩)) w vx1 vx3 40 HLB.out HLN.out (by omega)).mono ?_
          rintro e w' ⟨v, rfl, hv, hb⟩
          obtain ⟨X, N, f, Y, O, t, rfl, -, -⟩ := num_agg hv
          refine ⟨_, rfl, hKK.out _ _ (fun f hf _ _ h => vrxK w0 (w0.heap.size + 1) gc gd gf i pa qa pn pd qn qd f hf _ _ _ hb h) ?_⟩
          exact fa_pick [5] (by kernel_rfl) <| fa_cons (fun _ => ⟨_, X, N, f, Y, O, t, rfl, hv⟩) <| fa_nil _
        · -- 5: Op.load 84 t9
          intro Ls vs w Kk H hu hK
          replace hu : ∀ k ∈ ([] : List Nat), Ls k = true := hu
          have qbase : Gq w0 w ∧ w0.heap.size ≤ (w0.heap.size + 1) ∧ NB 62 w (w0.heap.size + 1) ∧ NQB w gc (ratQ ⟨pa, pn, pd⟩) ∧ NQB w gd (ratQ ⟨qa, qn, qd⟩) ∧ NQB w gf (mkRat (i - pa) (qa - pa).toNat) := H.up hu 0 rfl rfl
          obtain ⟨h0, hle, hnb, ra, rb, re⟩ := qbase
          obtain ⟨s, X, N, f, Y, O, t, hk, hv⟩ := re
          have d0 := hk.cell 0
          have d1 := hk.cell 1
          have d2 := hk.cell 2
          simp only [List.getElem?_cons_zero, List.getElem?_cons_succ] at d0 d1 d2
          have HV := Lib.hid hv
          clear hv hk
          have hKK := Lib.hid hK
          clear hK H
          go_simp
          refine hKK.out _ _ (fun f _ _ _ h => h) ?_
          exact fa_pick [6] (by kernel_rfl) <| fa_cons (fun _ => ⟨s, X, N, f, Y, O, t, rfl, HV.out⟩) <| fa_nil _
        · -- 6: Op.call { value (Operand.func 61), args := #[t76, t77], argTypes := #[84, 84] }
          intro Ls vs w Kk H hu hK
          replace hu : ∀ k ∈ ([1, 2, 3, 4, 5] : List Nat), Ls k = true := hu
          have qbase : Gq w0 w ∧ w0.heap.size ≤ (w0.heap.size + 1) ∧ NB 62 w (w0.heap.size + 1) ∧ NQB w gc (ratQ ⟨pa, pn, pd⟩) ∧ NQB w gd (ratQ ⟨qa, qn, qd⟩) ∧ NQB w gf (mkRat (i - pa) (qa - pa).toNat) := H.up hu 0 rfl rfl
          obtain ⟨h0, hle, hnb, ra, rb, re⟩ := qbase
          have qx4 : ∃ s X N f Y O t, vs 4 = .agg #[.bool s, .slice X N f, .slice Y O t] ∧ NumQ w (.agg #[.bool s, .slice X N f, .slice Y O t]) ((ratQ ⟨qa, qn, qd⟩ + -ratQ ⟨pa, pn, pd⟩)) := H.up hu 5 rfl rfl
          obtain ⟨sx4, Xx4, Nx4, fx4, Yx4, Ox4, tx4, ex4, vx4⟩ := qx4
          have qx5 : ∃ s X N f Y O t, vs 5 = .agg #[.bool s, .slice X N f, .slice Y O t] ∧ NumQ w (.agg #[.bool s, .slice X N f, .slice Y O t]) (mkRat (i - pa) (qa - pa).toNat) := H.up hu 6 rfl rfl
          obtain ⟨sx5, Xx5, Nx5, fx5, Yx5, Ox5, tx5, ex5, vx5⟩ := qx5
          have hKK := Lib.hid hK
          clear hK H
          go_simp
          refine (timesQ_any _ _ (ratQ ⟨qa, qn, qd⟩ + -ratQ ⟨pa, pn, pd⟩) (mkRat (i - pa) (qa - pa).toNat) w vx4 vx5 81 HLD.out HLM.out (by omega)).mono ?_
          rintro e w' ⟨v, rfl, hv, hb⟩
          obtain ⟨X, N, f, Y, O, t, rfl, -, -⟩ := num_agg hv
          refine ⟨_, rfl, hKK.out _ _ (fun f hf _ _ h => vrxK w0 (w0.heap.size + 1) gc gd gf i pa qa pn pd qn qd f hf _ _ _ hb h) ?_⟩
          exact fa_pick [7] (by kernel_rfl) <| fa_cons (fun _ => ⟨_, X, N, f, Y, O, t, rfl, hv⟩) <| fa_nil _
        · -- 7: Op.call { value (Operand.func 60), args := #[t72, t78], argTypes := #[84, 84] }
          intro Ls vs w Kk H hu hK
          replace hu : ∀ k ∈ ([0, 1, 2, 3, 4, 5, 6] : List Nat), Ls k = true := hu
          have qbase : Gq w0 w ∧ w0.heap.size ≤ (w0.heap.size + 1) ∧ NB 62 w (w0.heap.size + 1) ∧ NQB w gc (ratQ ⟨pa, pn, pd⟩) ∧ NQB w gd (ratQ ⟨qa, qn, qd⟩) ∧ NQB w gf (mkRat (i - pa) (qa - pa).toNat) := H.up hu 0 rfl rfl
          obtain ⟨h0, hle, hnb, ra, rb, re⟩ := qbase
          have qx0 : ∃ s X N f Y O t, vs 0 = .agg #[.bool s, .slice X N f, .slice Y O t] ∧ NumQ w (.agg #[.bool s, .slice X N f, .slice Y O t]) (ratQ ⟨pa, pn, pd⟩) := H.up hu 1 rfl rfl
          obtain ⟨sx0, Xx0, Nx0, fx0, Yx0, Ox0, tx0, ex0, vx0⟩ := qx0
          have qx6 : ∃ s X N f Y O t, vs 6 = .agg #[.bool s, .slice X N f, .slice Y O t] ∧ NumQ w (.agg #[.bool s, .slice X N f, .slice Y O t]) ((ratQ ⟨qa, qn, qd⟩ + -ratQ ⟨pa, pn, pd⟩) * mkRat (i - pa) (qa - pa).toNat) := H.up hu 7 rfl rfl
          obtain ⟨sx6, Xx6, Nx6, fx6, Yx6, Ox6, tx6, ex6, vx6⟩ := qx6
          have hKK := Lib.hid hK
          clear hK H
          go_simp
          refine (plusQ_any _ _ (ratQ ⟨pa, pn, pd⟩) ((ratQ ⟨qa, qn, qd⟩ + -ratQ ⟨pa, pn, pd⟩) * mkRat (i - pa) (qa - pa).toNat) w vx0 vx6 162 HLP.out HLX.out (by omega)).mono ?_
          rintro e w' ⟨v, rfl, hv, hb⟩
          obtain ⟨X, N, f, Y, O, t, rfl, -, -⟩ := num_agg hv
          refine ⟨_, rfl, hKK.out _ _ (fun f hf _ _ h => vrxK w0 (w0.heap.size + 1) gc gd gf i pa qa pn pd qn qd f hf _ _ _ hb h) ?_⟩
          exact fa_pick [8] (by kernel_rfl) <| fa_cons (fun _ => ⟨_, X, N, f, Y, O, t, rfl, hv⟩) <| fa_nil _
        · -- 8: Op.store 84 t4 t79
          intro Ls vs w Kk H hu hK
          replace hu : ∀ k ∈ ([0, 1, 2, 3, 4, 5, 6, 7] : List Nat), Ls k = true := hu
          have qbase : Gq w0 w ∧ w0.heap.size ≤ (w0.heap.size + 1) ∧ NB 62 w (w0.heap.size + 1) ∧ NQB w gc (ratQ ⟨pa, pn, pd⟩) ∧ NQB w gd (ratQ ⟨qa, qn, qd⟩) ∧ NQB w gf (mkRat (i - pa) (qa - pa).toNat) := H.up hu 0 rfl rfl
          obtain ⟨h0, hle, hnb, ra, rb, re⟩ := qbase
          have qx7 : ∃ s X N f Y O t, vs 7 = .agg #[.bool s, .slice X N f, .slice Y O t] ∧ NumQ w (.agg #[.bool s, .slice X N f, .slice Y O t]) (ratQ ⟨pa, pn, pd⟩ + (ratQ ⟨qa, qn, qd⟩ + -ratQ ⟨pa, pn, pd⟩) * mkRat (i - pa) (qa - pa).toNat) := H.up hu 8 rfl rfl
          obtain ⟨sx7, Xx7, Nx7, fx7, Yx7, Ox7, tx7, ex7, vx7⟩ := qx7
          obtain ⟨x0, x1, x2, c0, c1, c2, d0, d1, d2⟩ := hnb.cells
          have hKK := Lib.hid hK
          clear hK H
          go_simp
          have ho := otr3 w ((w0.heap.size + 1)) (.bool sx7) (.slice Xx7 Nx7 fx7) (.slice Yx7 Ox7 tx7)
          refine hKK.out _ _ (fa_cons (fun _ _ h => ⟨gq_set3r h.1 h.2.1 _ _ _, h.2.1, hnb.stored (noI_bool _) (noI_slice _ _ _) (noI_slice _ _ _), h.2.2.2.1.other hnb ho HNA.out, h.2.2.2.2.1.other hnb ho HNB.out, h.2.2.2.2.2.other hnb ho HNE.out⟩) <|
            fa_cons (fun _ _ h => (by obtain ⟨s, X, N, f, Y, O, t, h1, h2⟩ := h; exact ⟨s, X, N, f, Y, O, t, h1, hnb.num ho h2⟩)) <|
            fa_cons (fun _ _ h => (by obtain ⟨s, X, N, f, Y, O, t, h1, h2⟩ := h; exact ⟨s, X, N, f, Y, O, t, h1, hnb.num ho h2⟩)) <|
            fa_cons (fun _ _ h => (by obtain ⟨s, X, N, f, Y, O, t, h1, h2⟩ := h; exact ⟨s, X, N, f, Y, O, t, h1, hnb.num ho h2⟩)) <|
            fa_cons (fun _ _ h => (by obtain ⟨s, X, N, f, Y, O, t, h1, h2⟩ := h; exact ⟨s, X, N, f, Y, O, t, h1, hnb.num ho h2⟩)) <|
            fa_cons (fun _ _ h => (by obtain ⟨s, X, N, f, Y, O, t, h1, h2⟩ := h; exact ⟨s, X, N, f, Y, O, t, h1, hnb.num ho h2⟩)) <|
            fa_cons (fun _ _ h => (by obtain ⟨s, X, N, f, Y, O, t, h1, h2⟩ := h; exact ⟨s, X, N, f, Y, O, t, h1, hnb.num ho h2⟩)) <|
            fa_cons (fun _ _ h => (by obtain ⟨s, X, N, f, Y, O, t, h1, h2⟩ := h; exact ⟨s, X, N, f, Y, O, t, h1, hnb.num ho h2⟩)) <|
            fa_cons (fun _ _ h => (by obtain ⟨s, X, N, f, Y, O, t, h1, h2⟩ := h; exact ⟨s, X, N, f, Y, O, t, h1, hnb.num ho h2⟩)) <|
            fa_cons (fun hn => absurd (show (8 : Nat) ∈ ([8] : List Nat) from by decide) hn) <| fa_nil _) ?_
          exact fa_pick [9] (by kernel_rfl) <| fa_cons (fun _ => ⟨sx7, Xx7, Nx7, fx7, Yx7, Ox7, tx7, hnb.store, hnb.num ho vx7⟩) <| fa_nil _
        · intro vs w H
          have qbase : Gq w0 w ∧ w0.heap.size ≤ (w0.heap.size + 1) ∧ NB 62 w (w0.heap.size + 1) ∧ NQB w gc (ratQ ⟨pa, pn, pd⟩) ∧ NQB w gd (ratQ ⟨qa, qn, qd⟩) ∧ NQB w gf (mkRat (i - pa) (qa - pa).toNat) := fa_at H 0 rfl
          obtain ⟨h0, hle, hnb, ra, rb, re⟩ := qbase
          have qres : ∃ s X N f Y O t, Blk w (w0.heap.size + 1) 62 [.bool s, .slice X N f, .slice Y O t] ∧ NumQ w (.agg #[.bool s, .slice X N f, .slice Y O t]) (ratQ ⟨pa, pn, pd⟩ + (ratQ ⟨qa, qn, qd⟩ + -ratQ ⟨pa, pn, pd⟩) * mkRat (i - pa) (qa - pa).toNat) := fa_at H 9 rfl
          obtain ⟨s, X, N, f, Y, O, t, hk, hv⟩ := qres
          clear H
          simp only [Nat.zero_add, Nat.reduceAdd]
          have k2 := hk.cell 0
          have k3 := hk.cell 1
          have k4 := hk.cell 2
          simp only [List.getElem?_cons_zero, List.getElem?_cons_succ] at k2 k3 k4
          have HH : Hid (NumQ w (.agg #[.bool s, .slice X N f, .slice Y O t]) R ∧ Gq w0 w) := ⟨by rw [← HR.out]; exact hv, h0⟩
          clear hk hv h0 hle hnb ra rb re
          generalize vs 0 = z0
          generalize vs 1 = z1
          generalize vs 2 = z2
          generalize vs 3 = z3
          generalize vs 4 = z4
          generalize vs 5 = z5
          generalize vs 6 = z6
          generalize vs 7 = z7
          go_wp2_with fail
          exact bodyPost_ret (v := .agg #[.bool s, .slice X N f, .slice Y O t]) (by simp [results, Tryz.results46, go_sem, k2, k3, k4]) rfl ⟨_, rfl, HH.out.1, HH.out.2⟩
end Go.Proofs.YtmknpeoflafaoabGreatDoor
