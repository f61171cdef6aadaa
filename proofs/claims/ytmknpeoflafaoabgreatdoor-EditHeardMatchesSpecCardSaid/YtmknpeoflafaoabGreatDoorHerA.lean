/- The contract of the reference's heard. -/
import Derived.Test.YtmknpeoflafaoabGreatDoorBef
import Derived.Test.YtmknpeoflafaoabGreatDoorHeaZ
import Derived.Test.YtmknpeoflafaoabGreatDoorValR
import Derived.Test.YtmknpeoflafaoabGreatDoorSgn
import Derived.Test.YtmknpeoflafaoabGreatDoorNumC
import Derived.Test.YtmknpeoflafaoabGreatDoorCrrZ
import Derived.Deep.DeepCutAuto
import Derived.Deep.CutBlock
import Derived.Deep.RegionHeld3
import Derived.Deep.DrawnRows
import Derived.Laws.Tables
namespace Go.Proofs.YtmknpeoflafaoabGreatDoor
open Go.RowKit Go.Dw
attribute [local go_sem ↓] Go.wp_at_zero Go.wp_at_succ
attribute [local go_sem] Go.Dw.Oper.tame

theorem infoG6 : (Tryz.prog.info? 64).map (fun i => (i.zero, i.size, i.bytes)) = some (some (.agg #[.string ⟨#[]⟩, .int .i64 0, .int .i64 0, .bool false, .slice none 0 0, .slice none 0 0]), 6, 88) := by kernel_rfl
theorem built6 (xm : ByteArray) (xc z : Int) (s : Bool) (X : Option Addr) (N f : Nat) (Y : Option Addr) (O t : Nat) : Tryz.prog.built 64 [(0, .string xm), (1, .int .i64 xc), (2, .int .i64 z), (3, .agg #[.bool s, .slice X N f, .slice Y O t])] = some #[.string xm, .int .i64 xc, .int .i64 z, .bool s, .slice X N f, .slice Y O t] := by
  kernel_rfl
theorem tame_build {P : Program} {o : Oper} {a : Act} {w : World} {K : Value → World → Prop} (t : TypeId) (parts : Array (Nat × Operand)) (ho : o.op = .build t parts) (cells : Array Value) (hc : P.built t (parts.map fun (i, x) => (i, a.eval x)).toList = some cells) (hk : K (.agg cells) w) : Go.Dw.Oper.tame P o a w K :=
  tame_val (by unfold execOp; simp only [ho, Sem.run_bind, run_build w t _ cells hc, Result.andThen_ok]; rfl) hk
/-- six cells of a box are written -/
def set6 (W : World) (g : Nat) (a b c d e f : Value) : World := (((((W.setCell ⟨g, 0, none⟩ a).setCell ⟨g, 1, none⟩ b).setCell ⟨g, 2, none⟩ c).setCell ⟨g, 3, none⟩ d).setCell ⟨g, 4, none⟩ e).setCell ⟨g, 5, none⟩ f
theorem grown_setD (W W0 : World) (g i : Nat) (v : Value) (h : W0.grownBy W (some g)) : W0.grownBy (W.setCell ⟨g, i, none⟩ v) (some g) :=
  ⟨h.os, h.tape, h.output, by have := h.size; simpa [World.setCell] using this, fun j hj hne => (Below.heap_setCell W ⟨g, i, none⟩ v j (fun e => hne (by rw [e]))).trans (h.block j hj hne)⟩
theorem set6_grown (W : World) (g : Nat) (a b c d e f : Value) : W.grownBy (set6 W g a b c d e f) (some g) :=
  grown_setD _ _ _ _ _ (grown_setD _ _ _ _ _ (grown_setD _ _ _ _ _ (grown_setD _ _ _ _ _ (grown_setD _ _ _ _ _ (grown_setD _ _ _ _ _ (World.grownBy.refl _ _))))))
theorem set6_blk {W : World} {g : Nat} {x0 x1 x2 x3 x4 x5 : Value} (h : Blk W g 64 [x0, x1, x2, x3, x4, x5]) (a b c d e f : Value) : Blk (set6 W g a b c d e f) g 64 [a, b, c, d, e, f] :=
  (((((h.set_ 0 a).set_ 1 b).set_ 2 c).set_ 3 d).set_ 4 e).set_ 5 f
theorem gr6_at {w : World} {A : Option Addr} {xs : List Gr6} (h : Rd w A (xs.flatMap Gr6.cs)) (hn : 0 < xs.length) :
    ∃ b off, A = some ⟨b, off, none⟩ ∧ b < w.heap.size ∧ ∀ k (hk : k < xs.length), w.cell? ⟨b, off + k * 6, none⟩ = some (.string xs[k].g.m) ∧ w.cell? ⟨b, off + k * 6 + 1, none⟩ = some (.int .i64 xs[k].g.ch) ∧ w.cell? ⟨b, off + k * 6 + 2, none⟩ = some (.int .i64 xs[k].g.s) ∧
      w.cell? ⟨b, off + k * 6 + 3, none⟩ = some (.bool xs[k].s) ∧ w.cell? ⟨b, off + k * 6 + 4, none⟩ = some (.slice xs[k].a xs[k].l xs[k].c) ∧ w.cell? ⟨b, off + k * 6 + 5, none⟩ = some (.slice xs[k].b xs[k].m xs[k].d) := by
  obtain ⟨b, off, e, hb, hc⟩ := h.at_ (by rw [flat_len Gr6.cs 6 (fun _ => rfl)]; omega)
  have hk6 : ∀ k (hk : k < xs.length) i, i < 6 → (xs.flatMap Gr6.cs)[k * 6 + i]? = (xs[k].cs)[i]? := fun k hk i hi => flat_get Gr6.cs 6 (fun _ => rfl) xs k i hk hi
  have key : ∀ k (hk : k < xs.length) i u, 0 < i → i < 6 → (xs[k].cs)[i]? = some u → w.cell? ⟨b, off + k * 6 + i, none⟩ = some u := fun k hk i u _ hi hu => by
    have := hc (k * 6 + i) u (by rw [hk6 k hk i hi]; exact hu)
    rw [Nat.add_assoc]; exact this
  refine ⟨b, off, e, hb, fun k hk => ⟨?_, key k hk 1 _ (by omega) (by omega) rfl, key k hk 2 _ (by omega) (by omega) rfl, key k hk 3 _ (by omega) (by omega) rfl, key k hk 4 _ (by omega) (by omega) rfl, key k hk 5 _ (by omega) (by omega) rfl⟩⟩
  exact hc (k * 6) _ (by have := hk6 k hk 0 (by omega); rw [Nat.add_zero] at this; rw [this]; rfl)
theorem flat_set3 : ∀ (R : List Gr6) (k : Nat) (hk : k < R.length) (s : Bool) (a : Option Addr) (l c : Nat) (b : Option Addr) (m d : Nat),
    ((((R.flatMap Gr6.cs).set (k * 6 + 3) (.bool s)).set (k * 6 + 4) (.slice a l c)).set (k * 6 + 5) (.slice b m d)) = (R.set k ⟨R[k].g, s, a, l, c, b, m, d⟩).flatMap Gr6.cs
  | [], _, h, _, _, _, _, _, _, _ => by simp at h
  | x :: R, 0, _, _, _, _, _, _, _, _ => rfl
  | x :: R, k + 1, h, s, a, l, c, b, m, d => by
    have ih := flat_set3 R k (by simpa using h) s a l c b m d
    rw [show (k + 1) * 6 + 3 = (k * 6 + 3) + 6 by omega, show (k + 1) * 6 + 4 = (k * 6 + 4) + 6 by omega, show (k + 1) * 6 + 5 = (k * 6 + 5) + 6 by omega]
    show Gr6.cs x ++ ((((R.flatMap Gr6.cs).set (k * 6 + 3) (.bool s)).set (k * 6 + 4) (.slice a l c)).set (k * 6 + 5) (.slice b m d)) = _
    rw [ih]; rfl
theorem flat_set6 : ∀ (R : List Gr6) (k : Nat) (_ : k < R.length) (y : Gr6),
    (((((((R.flatMap Gr6.cs).set (k * 6) (.string y.g.m)).set (k * 6 + 1) (.int .i64 y.g.ch)).set (k * 6 + 2) (.int .i64 y.g.s)).set (k * 6 + 3) (.bool y.s)).set (k * 6 + 4) (.slice y.a y.l y.c)).set (k * 6 + 5) (.slice y.b y.m y.d)) = (R.set k y).flatMap Gr6.cs
  | [], _, h, _ => by simp at h
  | x :: R, 0, _, _ => rfl
  | x :: R, k + 1, h, y => by
    have ih := flat_set6 R k (by simpa using h) y
    rw [show (k + 1) * 6 = k * 6 + 6 by omega]
    show Gr6.cs x ++ (((((((R.flatMap Gr6.cs).set (k * 6) (.string y.g.m)).set (k * 6 + 1) (.int .i64 y.g.ch)).set (k * 6 + 2) (.int .i64 y.g.s)).set (k * 6 + 3) (.bool y.s)).set (k * 6 + 4) (.slice y.a y.l y.c)).set (k * 6 + 5) (.slice y.b y.m y.d)) = _
    rw [ih]; rfl
/-- a grain put in at place k -/
theorem rel_ins {w : World} {R : List Gr6} {l : Gs} {k : Nat} {x : Gr6} {g : Gk} {q : Rat} (h : RelG w R l) (hk : k ≤ R.length) (hn : NumQ w x.n q) (hg : x.g = g) : RelG w (R.take k ++ x :: R.drop k) (l.take k ++ (g, q) :: l.drop k) := by
  have hl := h.1
  refine ⟨by simp only [List.length_append, List.length_cons, List.length_take, List.length_drop]; omega, fun i hi hi2 => ?_⟩
  have hiR : i < R.length + 1 := by simp only [List.length_append, List.length_cons, List.length_take, List.length_drop] at hi; omega
  rcases Nat.lt_trichotomy i k with c | c | c
  · have e1 : (R.take k ++ x :: R.drop k)[i] = R[i]'(by omega) := by rw [List.getElem_append_left (by rw [List.length_take]; omega), List.getElem_take]
    have e2 : (l.take k ++ (g, q) :: l.drop k)[i] = l[i]'(by omega) := by rw [List.getElem_append_left (by rw [List.length_take]; omega), List.getElem_take]
    rw [e1, e2]
    exact h.2 i (by omega) (by omega)
  · subst c
    have e1 : (R.take i ++ x :: R.drop i)[i] = x := by rw [List.getElem_append_right (by rw [List.length_take]; omega)]; simp [List.length_take, Nat.min_eq_left hk]
    have e2 : (l.take i ++ (g, q) :: l.drop i)[i] = (g, q) := by rw [List.getElem_append_right (by rw [List.length_take]; omega)]; simp [List.length_take, Nat.min_eq_left (show i ≤ l.length by omega)]
    rw [e1, e2]
    exact ⟨hg, hn⟩
  · obtain ⟨j, rfl⟩ : ∃ j, i = j + 1 := ⟨i - 1, by omega⟩
    have e1 : (R.take k ++ x :: R.drop k)[j + 1] = R[j]'(by omega) := by
      rw [List.getElem_append_right (by rw [List.length_take]; omega)]
      simp only [List.length_take, Nat.min_eq_left hk, show j + 1 - k = (j - k) + 1 by omega, List.getElem_cons_succ, List.getElem_drop]
      congr 1; omega
    have e2 : (l.take k ++ (g, q) :: l.drop k)[j + 1] = l[j]'(by omega) := by
      rw [List.getElem_append_right (by rw [List.length_take]; omega)]
      simp only [List.length_take, Nat.min_eq_left (show k ≤ l.length by omega), show j + 1 - k = (j - k) + 1 by omega, List.getElem_cons_succ, List.getElem_drop]
      congr 1; omega
    rw [e1, e2]
    exact h.2 j (by omega) (by omega)
/-- what is made of a clip that is heard -/
def NewG (wa : World) (k : Gk) (V : Rat) (p : Value) (wx : World) : Prop := ∃ gb x, p = .pointer (some ⟨gb, 0, none⟩) ∧ wa.heap.size ≤ gb ∧ Blk wx gb 64 (Gr6.cs x) ∧ x.g = k ∧ NumQ wx x.n V ∧ Gq wa wx
theorem newG_of {wa W : World} {gb : Nat} {x0 x1 x2 x3 x4 x5 : Value} (x : Gr6) {V : Rat} (hB : Blk W gb 64 [x0, x1, x2, x3, x4, x5]) (hgb : wa.heap.size ≤ gb) (hn : NumQ W x.n V) (hg : Gq wa W) :
    NewG wa x.g V (.pointer (some ⟨gb, 0, none⟩)) (set6 W gb (.string x.g.m) (.int .i64 x.g.ch) (.int .i64 x.g.s) (.bool x.s) (.slice x.a x.l x.c) (.slice x.b x.m x.d)) := by
  have hgr := set6_grown W gb (.string x.g.m) (.int .i64 x.g.ch) (.int .i64 x.g.s) (.bool x.s) (.slice x.a x.l x.c) (.slice x.b x.m x.d)
  refine ⟨gb, x, rfl, hgb, set6_blk hB _ _ _ _ _ _, rfl, numQ_typed hgr (fun g hg => ?_) hn, Below.grown hg hgr (Below.size hg) (fun j hj => by cases hj; exact hgb)⟩
  injection hg with hg
  subst hg
  exact ⟨_, _, _, hB, by decide⟩
def herF (wa : World) (qr : Nat) (xm : ByteArray) (xc xf xt xa xl : Int) (EA : Option Addr) (en ed : Nat) (at_ : Int) (V : Rat) : List Fact := [
  ⟨[], fun _ W => Gq wa W ∧ Blk W qr 40 [.string xm, .int .i64 xc, .int .i64 xf, .int .i64 xt, .int .i64 xa, .int .i64 xl, .slice EA en ed]⟩,
  ⟨[0], fun vs _ => vs 0 = .pointer (some ⟨qr, 0, none⟩)⟩,
  ⟨[1], fun vs _ => vs 1 = .string xm⟩,
  ⟨[2], fun vs _ => vs 2 = .pointer (some ⟨qr, 1, none⟩)⟩,
  ⟨[3], fun vs _ => vs 3 = .int .i64 xc⟩,
  ⟨[4], fun vs _ => vs 4 = .int .i64 at_⟩,
  ⟨[5], fun vs _ => vs 5 = .pointer (some ⟨qr, 4, none⟩)⟩,
  ⟨[6], fun vs _ => vs 6 = .int .i64 xa⟩,
  ⟨[7], fun vs _ => vs 7 = .int .i64 (at_ - xa)⟩,
  ⟨[8], fun vs _ => vs 8 = .pointer (some ⟨qr, 2, none⟩)⟩,
  ⟨[9], fun vs _ => vs 9 = .int .i64 xf⟩,
  ⟨[10], fun vs _ => vs 10 = .int .i64 (at_ - xa + xf)⟩,
  ⟨[11], fun vs _ => vs 11 = .agg #[.string xm, .int .i64 xc, .int .i64 xf, .int .i64 xt, .int .i64 xa, .int .i64 xl, .slice EA en ed]⟩,
  ⟨[12], fun vs _ => vs 12 = .int .i64 at_⟩,
  ⟨[13], fun vs _ => vs 13 = .pointer (some ⟨qr, 4, none⟩)⟩,
  ⟨[14], fun vs _ => vs 14 = .int .i64 xa⟩,
  ⟨[15], fun vs _ => vs 15 = .int .i64 (at_ - xa)⟩,
  ⟨[16], fun vs W => ∃ s X N f Y O t, vs 16 = .agg #[.bool s, .slice X N f, .slice Y O t] ∧ NumQ W (.agg #[.bool s, .slice X N f, .slice Y O t]) (V)⟩,
  ⟨[17], fun vs W => ∃ s X N f Y O t, vs 17 = .agg #[.string xm, .int .i64 xc, .int .i64 (at_ - xa + xf), .bool s, .slice X N f, .slice Y O t] ∧ NumQ W (.agg #[.bool s, .slice X N f, .slice Y O t]) V⟩,
  ⟨[18], fun vs W => ∃ g x0 x1 x2 x3 x4 x5, vs 18 = .pointer (some ⟨g, 0, none⟩) ∧ wa.heap.size ≤ g ∧ Blk W g 64 [x0, x1, x2, x3, x4, x5]⟩,
  ⟨[18, 19], fun vs W => ∃ g, ∃ x : Gr6, vs 18 = .pointer (some ⟨g, 0, none⟩) ∧ wa.heap.size ≤ g ∧ Blk W g 64 (Gr6.cs x) ∧ x.g = ⟨xm, xc, at_ - xa + xf⟩ ∧ NumQ W x.n V⟩]
theorem herK (wa : World) (qr : Nat) (xm : ByteArray) (xc xf xt xa xl : Int) (EA : Option Addr) (en ed : Nat) (at_ : Int) (V : Rat) : ∀ f ∈ herF wa qr xm xc xf xt xa xl EA en ed at_ V, ∀ vs w w', Gq w w' → f.says vs w → f.says vs w' :=
  fa_cons (fun _ _ _ hg h => ⟨h.1.trans hg, blk_gqr h.2 hg⟩) <|
  fa_cons (fun _ _ _ _ h => h) <|
  fa_cons (fun _ _ _ _ h => h) <|
  fa_cons (fun _ _ _ _ h => h) <|
  fa_cons (fun _ _ _ _ h => h) <|
  fa_cons (fun _ _ _ _ h => h) <|
  fa_cons (fun _ _ _ _ h => h) <|
  fa_cons (fun _ _ _ _ h => h) <|
  fa_cons (fun _ _ _ _ h => h) <|
  fa_cons (fun _ _ _ _ h => h) <|
  fa_cons (fun _ _ _ _ h => h) <|
  fa_cons (fun _ _ _ _ h => h) <|
  fa_cons (fun _ _ _ _ h => h) <|
  fa_cons (fun _ _ _ _ h => h) <|
  fa_cons (fun _ _ _ _ h => h) <|
  fa_cons (fun _ _ _ _ h => h) <|
  fa_cons (fun _ _ _ _ h => h) <|
  fa_cons (fun _ _ _ hg h => (by obtain ⟨s, X, N, f, Y, O, t, h1, h2⟩ := h; exact ⟨s, X, N, f, Y, O, t, h1, NumR.gq h2 hg⟩)) <|
  fa_cons (fun _ _ _ hg h => (by obtain ⟨s, X, N, f, Y, O, t, h1, h2⟩ := h; exact ⟨s, X, N, f, Y, O, t, h1, numQ_below h2 hg⟩)) <|
  fa_cons (fun _ _ _ hg h => (by obtain ⟨g, x0, x1, x2, x3, x4, x5, h1, h2, h3⟩ := h; exact ⟨g, x0, x1, x2, x3, x4, x5, h1, h2, blk_gqr h3 hg⟩)) <|
  fa_cons (fun _ _ _ hg h => (by obtain ⟨g, x, h1, h2, h3, h4, h5⟩ := h; exact ⟨g, x, h1, h2, blk_gqr h3 hg, h4, numQ_below h5 hg⟩)) <|
  fa_nil _
set_option maxRecDepth 100000 in
set_option maxHeartbeats 16000000 in
theorem heardR_any (e : EdtM) (tr at_ : Int) (w : World) (h : EdtOk w e) (hok : ediF isNm 1000000 e.x = 0) (hp : 0 ≤ at_ ∧ at_ < 100000) (hpw : HasPow w) :
    Calls Tryz.prog 20 #[e.v, .int .i64 tr, .int .i64 at_] w fun en w' => ∃ A c, ∃ R : List Gr6, en = .returned (.slice A R.length c) ∧ Rd w' A (R.flatMap Gr6.cs) ∧ RelG w' R (heaL tr at_ e.x.cs) ∧ Below w.heap.size w w' := by
  obtain ⟨E, hE⟩ : ∃ E, e = E := ⟨_, rfl⟩
  obtain ⟨rt, tk, ⟨A, d, xs⟩⟩ := e
  have hEv : E.v = .agg #[.int .i64 rt, .int .i64 tk, .slice A xs.length d] := by rw [← hE]; rfl
  have HEX : Hid (E.x.cs = xs.map CliM.x ∧ E.x.tracks = tk ∧ E.cs.a = A ∧ E.cs.xs = xs) := by rw [← hE]; exact ⟨rfl, rfl, rfl, rfl⟩
  rw [hE] at h hok ⊢
  rw [hEv, HEX.out.1]
  clear hE
  obtain ⟨w0, hw0⟩ : ∃ w0, w0 = w.alloc (.cells #[.int .i64 rt, .int .i64 tk, .slice A xs.length d] 24) := ⟨_, rfl⟩
  have HB0 : Hid (Gq w w0) := by rw [hw0]; exact (Gq.refl _).alloc _
  have HKE : Hid (Blk w0 w.heap.size 24 [.int .i64 rt, .int .i64 tk, .slice A xs.length d]) := by rw [hw0]; exact Blk.new w _ _
  have HOK : Hid (∀ W, Gq w0 W → EdtOk W E) := fun W hW => (h.below HB0.out).below hW
  have HPW : Hid (∀ W, Gq w0 W → HasPow W) := fun W hW => (hpw.below HB0.out).below hW
  have HCE : Hid (∀ W, Gq w0 W → W.cell? ⟨w.heap.size, 2, none⟩ = some (.slice A xs.length d)) := fun W hW => (blk_gq HKE.out hW).cell 2
  have HFE := Lib.hid hok
  have HRT := Lib.hid (ediF_ok HFE.out)
  have hxl : xs.length ≤ 300 := by have := HRT.out.l; rw [HEX.out.1] at this; simpa using this
  have HMS : Hid (∀ c ∈ E.x.cs, c.m.size ≤ 9223372036854775807) := fun c hc => by
    rw [HEX.out.1] at hc
    obtain ⟨x, hx, rfl⟩ := List.mem_map.1 hc
    exact ((HOK.out w0 (Gq.refl _)).co x (by rw [HEX.out.2.2.2]; exact hx)).m
  obtain ⟨L, hL⟩ : ∃ L : Nat → Gs, L = fun i => hrdL tr at_ ((xs.map CliM.x).take i) := ⟨_, rfl⟩
  have HL0 : Hid (L 0 = [] ∧ L xs.length = hrdL tr at_ (xs.map CliM.x)) := by
    rw [hL]
    refine ⟨rfl, ?_⟩
    show hrdL tr at_ ((xs.map CliM.x).take xs.length) = _
    rw [List.take_of_length_le (by simp)]
  have HLN : Hid (∀ i (hi : i < xs.length), L (i + 1) = hrdS tr at_ (L i) xs[i].x) := fun i hi => by
    rw [hL]
    have := hrdL_next tr at_ (xs.map CliM.x) i (by simpa using hi)
    simpa using this
  have HLS : Hid (∀ i, SrtG (L i)) := fun i => by rw [hL]; exact hrdL_srt _ _ _
  have HLL : Hid (∀ i, LimG 90300 (L i)) := fun i => by
    rw [hL]; have := hrdL_lim' HFE.out hp (tr := tr) i; rw [HEX.out.1] at this; exact this
  have HLC : Hid (∀ i, i ≤ xs.length → (L i).length ≤ i) := fun i hi => by
    rw [hL]
    have := hrdL_len tr at_ ((xs.map CliM.x).take i)
    rw [List.length_take] at this
    show (hrdL tr at_ ((xs.map CliM.x).take i)).length ≤ i
    omega
  have HHC : Hid (∀ i (hi : i < xs.length), onC tr at_ xs[i].x = true → HrdC tr at_ xs[i].x) := fun i hi ho => by
    refine hrdC_of HFE.out hp ?_ ho
    rw [HEX.out.1]; exact List.mem_map.2 ⟨_, List.getElem_mem hi, rfl⟩
  have HCR : Hid (∀ i (hi : i < xs.length), (0 ≤ xs[i].at_ ∧ xs[i].at_ < 100000) ∧ 1 ≤ xs[i].ln ∧ xs[i].ln ≤ 100000) := fun i hi => by
    have hm : xs[i].x ∈ E.x.cs := by rw [HEX.out.1]; exact List.mem_map.2 ⟨_, List.getElem_mem hi, rfl⟩
    have := (HRT.out.c _ hm).r
    obtain ⟨_, _, _, r4, r5, _⟩ := this
    simp only [CliM.x] at r4 r5
    exact ⟨r4, by omega, by omega⟩
  have HW0 := Lib.hid hw0
  obtain ⟨hp1, hp2⟩ := hp
  clear hw0 h hEv hL hpw hok
  obtain ⟨ii, hii, hzi0, hzi1, hzi2⟩ := info_parts infoG6
  have HII := Lib.hid (And.intro hii (And.intro hzi0 (And.intro hzi1 hzi2)))
  clear hii hzi0 hzi1 hzi2
  go_enter Tryz.func20, Tryz.ntmps20
  go_upto_region 1 with (fail)
  rw [← HW0.out]
  go_wp2_with fail
  go_loopw [7, 8] (fun lv iv wr => ∃ (i : Nat) (R : List Gr6), i ≤ xs.length ∧ iv = .int .i64 (i : Int) ∧ Hid (wr.ownsRow w0.heap.size 64 6 lv R.length (R.flatMap Gr6.cs)) ∧ Hid (RelG wr R (L i)) ∧ Hid (Gq w0 wr)) (fun _ iv _ => xs.length - (intOf iv).toNat)
  case atStart => exact ⟨0, [], Nat.zero_le _, rfl, World.ownsRow_nil _ _ _ _, by rw [HL0.out.1]; exact ⟨rfl, fun i hi => by simp at hi⟩, Gq.refl _⟩
  case round =>
    obtain ⟨i, R, hi, rfl, HOW, HRL, HG⟩ := hrel
    obtain ⟨AO, cO, rfl⟩ := slice_of_own HOW.out
    have e2 := HCE.out wr HG.out
    by_cases hlt : i < xs.length
    case neg =>
      have hd0 : decide (i < xs.length) = false := by simpa using hlt
      have hie : i = xs.length := by omega
      have HLE : Hid (L i = hrdL tr at_ (xs.map CliM.x)) := by show _ = _; rw [hie, HL0.out.2]
      obtain ⟨l, hl⟩ : ∃ l, L i = l := ⟨_, rfl⟩
      have hrl : R.length ≤ 300 := by have := HRL.out.1; have := HLC.out i hi; omega
      rw [hl] at HRL HLE
      clear hie hl HLN HLS HLL HHC HCR HFE HRT HMS HL0 HLC
      obtain ⟨wz, hwz⟩ : ∃ wz, wz = wr := ⟨_, rfl⟩
      subst hwz
      have HBZ : Hid (Gq w wz) := Below.trans HB0.out (Below.mono HG.out (Below.size HB0.out))
      have HZ1 : Hid (w.heap.size ≤ wz.heap.size) := Below.size HBZ.out
      go_wp2_with fail
      go_loopw [13, 14] (fun ov jv wq => ∃ (j : Nat) (O : List Gr6), j ≤ R.length ∧ jv = .int .i64 (j : Int) ∧ O.length ≤ j ∧ Hid (wq.ownsRow wz.heap.size 64 6 ov O.length (O.flatMap Gr6.cs)) ∧ Hid (RelG wz O ((l.take j).filter fun x => decide (x.2 ≠ 0))) ∧ Hid (Gq wz wq)) (fun _ jv _ => R.length - (intOf jv).toNat)
      case atStart => exact ⟨0, [], Nat.zero_le _, rfl, Nat.le_refl _, World.ownsRow_nil _ _ _ _, ⟨rfl, fun q hq => by simp at hq⟩, Gq.refl _⟩
      case round =>
        obtain ⟨j, O, hj, rfl, hoj, HOO, HRO, HGZ⟩ := hrel
        obtain ⟨AP, cP, rfl⟩ := slice_of_own HOO.out
        by_cases hjl : j < R.length
        case neg =>
          have hd1 : decide (j < R.length) = false := by simpa using hjl
          have HFI : Hid (RelG wz O (heaL tr at_ (xs.map CliM.x))) := by
            have h1 := HRO.out
            rw [List.take_of_length_le (by rw [← HRL.out.1]; omega), HLE.out] at h1
            exact h1
          go_wp2_with fail
          go_ret
          exact ⟨AP, cP, O, rfl, Rd.of_own HOO.out, HFI.out.below HGZ.out, Below.trans HBZ.out (Below.mono HGZ.out HZ1.out)⟩
        have hd1 : decide (j < R.length) = true := by simpa using hjl
        have hjl2 : j < l.length := by rw [← HRL.out.1]; exact hjl
        obtain ⟨rb, roff, hAO, hrb, hcs⟩ := gr6_at (Rd.of_own (own_belowL HOW.out HGZ.out)) (show 0 < R.length by omega)
        subst hAO
        obtain ⟨c0, c1, c2, c3, c4, c5⟩ := hcs j hjl
        have HRJ : Hid (R[j].g = l[j].1 ∧ NumQ wz R[j].n l[j].2) := HRL.out.2 j hjl hjl2
        have HTK : Hid (l.take (j + 1) = l.take j ++ [l[j]]) := List.take_succ_eq_append_getElem hjl2
        clear hcs
        obtain ⟨Y, hY⟩ : ∃ Y, R[j] = Y := ⟨_, rfl⟩
        rw [hY] at c0 c1 c2 c3 c4 c5 HRJ
        clear hY
        obtain ⟨⟨gq, q⟩, hlj⟩ : ∃ g : Gk × Rat, l[j] = g := ⟨_, rfl⟩
        rw [hlj] at HRJ HTK
        clear hlj
        obtain ⟨⟨ym, yc, yg⟩, ys, yA, yL, yC, yB, yM, yD⟩ := Y
        simp only at c0 c1 c2 c3 c4 c5
        obtain ⟨zb, hzb⟩ : ∃ zb, decide (q.num = 0) = zb := ⟨_, rfl⟩
        have HIZ : Hid (Calls Tryz.prog 49 #[.agg #[.bool ys, .slice yA yL yC, .slice yB yM yD]] wr fun e w' => e = .returned (.bool zb) ∧ Gq wr w') := by
          rw [← hzb]; exact isZeroR_any _ q wr (numQ_below HRJ.out.2 HGZ.out)
        have HZB := Lib.hid hzb
        have i0 : (0 : Int) ≤ (j : Int) := by omega
        have i1 : (j : Int) < (R.length : Int) := by omega
        have hj1 : j + 1 ≤ R.length := hjl
        clear hzb HRL HOW
        go_wp2_with fail
        refine HIZ.out.mono ?_
        rintro e wy ⟨rfl, hgy⟩
        have HGY : Hid (Gq wr wy) := hgy
        have HGZ2 : Hid (Gq wz wy) := HGZ.out.trans HGY.out
        have HO2 : Hid (wy.ownsRow wz.heap.size 64 6 (.slice AP O.length cP) O.length (O.flatMap Gr6.cs)) := own_belowL HOO.out HGY.out
        have d0 : wy.cell? ⟨rb, roff + j * 6, none⟩ = some (.string ym) := by rw [Below.cell HGY.out (by exact hrb)]; exact c0
        have d1 : wy.cell? ⟨rb, roff + j * 6 + 1, none⟩ = some (.int .i64 yc) := by rw [Below.cell HGY.out (by exact hrb)]; exact c1
        have d2 : wy.cell? ⟨rb, roff + j * 6 + 2, none⟩ = some (.int .i64 yg) := by rw [Below.cell HGY.out (by exact hrb)]; exact c2
        have d3 : wy.cell? ⟨rb, roff + j * 6 + 3, none⟩ = some (.bool ys) := by rw [Below.cell HGY.out (by exact hrb)]; exact c3
        have d4 : wy.cell? ⟨rb, roff + j * 6 + 4, none⟩ = some (.slice yA yL yC) := by rw [Below.cell HGY.out (by exact hrb)]; exact c4
        have d5 : wy.cell? ⟨rb, roff + j * 6 + 5, none⟩ = some (.slice yB yM yD) := by rw [Below.cell HGY.out (by exact hrb)]; exact c5
        clear hgy c0 c1 c2 c3 c4 c5 HIZ
        cases zb with
        | true =>
          have HRO2 : Hid (RelG wz O ((l.take (j + 1)).filter fun x => decide (x.2 ≠ 0))) := by
            have hq : q = 0 := Rat.num_eq_zero.1 (of_decide_eq_true HZB.out)
            have h1 := HRO.out
            rw [HTK.out, List.filter_append]
            have : List.filter (fun x : Gk × Rat => decide (x.2 ≠ 0)) [(gq, q)] = [] := by simp [hq]
            rw [this, List.append_nil]; exact h1
          go_wp2_with fail
          go_roundw
          case rel => exact ⟨j + 1, O, hj1, by go_num, by omega, HO2, HRO2, HGZ2⟩
          case measure => simp [intOf]; omega
        | false =>
          have HRO2 : Hid (RelG wz (O ++ [(⟨⟨ym, yc, yg⟩, ys, yA, yL, yC, yB, yM, yD⟩ : Gr6)]) ((l.take (j + 1)).filter fun x => decide (x.2 ≠ 0))) := by
            have hq : ¬ q = 0 := fun h => of_decide_eq_false HZB.out (by rw [h]; rfl)
            rw [HTK.out, List.filter_append]
            have : List.filter (fun x : Gk × Rat => decide (x.2 ≠ 0)) [(gq, q)] = [(gq, q)] := by simp [hq]
            rw [this]
            have h1 := rel_ins (k := O.length) HRO.out (Nat.le_refl _) HRJ.out.2 HRJ.out.1
            rw [List.take_length, List.drop_length, List.take_of_length_le (by rw [← HRO.out.1]; exact Nat.le_refl _), List.drop_of_length_le (by rw [← HRO.out.1]; exact Nat.le_refl _)] at h1
            exact h1
          have hz9 : O.length + 1 ≤ 300 := by omega
          have HZW : Hid (wz.heap.size ≤ wy.heap.size) := Below.size HGZ2.out
          go_wp2_with (at_builtin; (refine wpList_append_lies _ rfl _ _ 58 rfl wz.heap.size 64 ii _ 6 88 Tryz.underlying58 HII.out.1 HII.out.2.1 HII.out.2.2.1 HII.out.2.2.2 rfl (by decide) _ _ _ rfl (HO2.out.alloc _) ⟨wy.heap.size, 0, none⟩ 1 1 [.string ym, .int .i64 yc, .int .i64 yg, .bool ys, .slice yA yL yC, .slice yB yM yD] (by rfl) (by rfl) (World.news_of_block (cs := #[.string ym, .int .i64 yc, .int .i64 yg, .bool ys, .slice yA yL yC, .slice yB yM yD]) (t := 64) (fr := (0, 0)) (by exact heap_alloc_new wy _)) (by simp [Value.oneCell']) (by decide) (by unfold maxLen; omega) (by omega) (by have := HZW.out; simp; omega) _ rfl ?_); intro g9 cap9 w9 hown9 hgrow9 hat9 hg9)
          have HO9 : Hid (w9.ownsRow wz.heap.size 64 6 (.slice (some ⟨g9, 0, none⟩) (O.length + 1) cap9) (O ++ [(⟨⟨ym, yc, yg⟩, ys, yA, yL, yC, yB, yM, yD⟩ : Gr6)]).length ((O ++ [(⟨⟨ym, yc, yg⟩, ys, yA, yL, yC, yB, yM, yD⟩ : Gr6)]).flatMap Gr6.cs)) := by
            show World.ownsRow _ _ _ _ _ _ _
            rw [flat_snoc, List.length_append, List.length_singleton]; exact hown9
          have HGZ9 : Hid (Gq wz w9) := below_app' HGZ2.out (Below.size HGZ2.out) (e := 64) (size := 6) HO2.out hgrow9
          clear hown9 hgrow9 hat9 d0 d1 d2 d3 d4 d5
          go_wp2_with fail
          go_roundw
          case rel => exact ⟨j + 1, _, hj1, by go_num, by rw [List.length_append, List.length_singleton]; omega, HO9, HRO2, HGZ9⟩
          case measure => simp [intOf]; omega
    have hd1 : decide (i < xs.length) = true := by simpa using hlt
    have HEO : Hid (EdtOk wr E) := HOK.out wr HG.out
    obtain ⟨b, off, hA, hb, hcs⟩ := cli_at (HEO.out.cr) (by rw [HEX.out.2.2.2]; omega)
    rw [HEX.out.2.2.1] at hA
    subst hA
    obtain ⟨p0, p1, p2, p3, p4, p5, p6⟩ := hcs i (by rw [HEX.out.2.2.2]; exact hlt)
    simp only [HEX.out.2.2.2] at p0 p1 p2 p3 p4 p5 p6
    have HCO : Hid (CliOk wr xs[i]) := HEO.out.co _ (by rw [HEX.out.2.2.2]; exact List.getElem_mem hlt)
    have HNX := Lib.hid (HLN.out i hlt)
    have HHR := Lib.hid (HHC.out i hlt)
    obtain ⟨hxa, hxl1, hxl2⟩ := HCR.out i hlt
    clear hcs HEO
    obtain ⟨X, hX⟩ : ∃ X, xs[i] = X := ⟨_, rfl⟩
    rw [hX] at p0 p1 p2 p3 p4 p5 p6 HCO HNX HHR hxa hxl1 hxl2
    clear hX
    obtain ⟨xm, xc, xf, xt, xa, xl, ⟨EA, ed, es⟩⟩ := X
    simp only at p0 p1 p2 p3 p4 p5 p6 hxa hxl1 hxl2
    obtain ⟨en, hen⟩ : ∃ en, es.length = en := ⟨_, rfl⟩
    rw [hen] at p6
    have HXV : Hid (CliM.v ⟨xm, xc, xf, xt, xa, xl, ⟨EA, ed, es⟩⟩ = .agg #[.string xm, .int .i64 xc, .int .i64 xf, .int .i64 xt, .int .i64 xa, .int .i64 xl, .slice EA en ed]) := by show _ = _; rw [← hen]; rfl
    clear hen
    obtain ⟨wa, hwa⟩ : ∃ wa, wa = wr.alloc (.cells #[.string xm, .int .i64 xc, .int .i64 xf, .int .i64 xt, .int .i64 xa, .int .i64 xl, .slice EA en ed] 40) := ⟨_, rfl⟩
    have HGA : Hid (Gq wr wa) := by rw [hwa]; exact (Gq.refl _).alloc _
    have HKC : Hid (Blk wa wr.heap.size 40 [.string xm, .int .i64 xc, .int .i64 xf, .int .i64 xt, .int .i64 xa, .int .i64 xl, .slice EA en ed]) := by rw [hwa]; exact Blk.new wr _ _
    have HCC : Hid (∀ W, Gq wa W → W.cell? ⟨wr.heap.size, 0, none⟩ = some (.string xm) ∧ W.cell? ⟨wr.heap.size, 1, none⟩ = some (.int .i64 xc) ∧ W.cell? ⟨wr.heap.size, 2, none⟩ = some (.int .i64 xf) ∧ W.cell? ⟨wr.heap.size, 3, none⟩ = some (.int .i64 xt) ∧ W.cell? ⟨wr.heap.size, 4, none⟩ = some (.int .i64 xa) ∧ W.cell? ⟨wr.heap.size, 5, none⟩ = some (.int .i64 xl) ∧ W.cell? ⟨wr.heap.size, 6, none⟩ = some (.slice EA en ed)) := fun W hW => by
      have k1 := blk_gq HKC.out hW
      exact ⟨k1.cell 0, k1.cell 1, k1.cell 2, k1.cell 3, k1.cell 4, k1.cell 5, k1.cell 6⟩
    obtain ⟨a0, a1, a2, a3, a4, a5, a6⟩ := HCC.out wa (Gq.refl _)
    have HWA := Lib.hid hwa
    have HZA : Hid (wr.heap.size < wa.heap.size) := by show _ < _; rw [hwa]; simp
    clear hwa
    by_cases ho : xt = tr ∧ xa ≤ at_ ∧ at_ < xa + xl
    case neg =>
      have HN2 : Hid (L (i + 1) = L i) := by
        show _ = _
        rw [HNX.out]; unfold hrdS
        rw [if_neg (show ¬ onC tr at_ (CliM.x ⟨xm, xc, xf, xt, xa, xl, ⟨EA, ed, es⟩⟩) = true from fun hh => ho (of_decide_eq_true hh))]
      have HRA : Hid (RelG wa R (L (i + 1))) := by rw [HN2.out]; exact HRL.out.below HGA.out
      have HOA : Hid (wa.ownsRow w0.heap.size 64 6 (.slice AO R.length cO) R.length (R.flatMap Gr6.cs)) := own_belowL HOW.out HGA.out
      have HGR : Hid (Gq w0 wa) := HG.out.trans HGA.out
      have hcs : (xt != tr) = true ∨ ((xt != tr) = false ∧ decide (at_ < xa) = true) ∨ ((xt != tr) = false ∧ decide (at_ < xa) = false ∧ decide (xa + xl ≤ at_) = true) := by
        by_cases q1 : xt = tr
        · have e1 : (xt != tr) = false := by simpa using q1
          by_cases q2 : at_ < xa
          · exact .inr (.inl ⟨e1, decide_eq_true q2⟩)
          · exact .inr (.inr ⟨e1, decide_eq_false q2, decide_eq_true (by omega)⟩)
        · exact .inl (by simpa using q1)
      clear ho HOW HRL HHR HCO HNX HN2
      go_upto_region 6 with (fail)
      rw [← HWA.out]
      rcases hcs with q1 | ⟨q1, q2⟩ | ⟨q1, q2, q3⟩
      all_goals
        go_wp2_with fail
        go_roundw
        case rel => exact ⟨i + 1, R, by omega, by go_num, HOA, HRA, HGR⟩
        case measure => simp [intOf]; omega
    obtain ⟨ho1, ho2, ho3⟩ := ho
    have HH : Hid (HrdC tr at_ (CliM.x ⟨xm, xc, xf, xt, xa, xl, ⟨EA, ed, es⟩⟩)) := HHR.out (decide_eq_true ⟨ho1, ho2, ho3⟩)
    have HN2 : Hid (L (i + 1) = insG (L i) ⟨xm, xc, at_ - xa + xf⟩ (valQ es (at_ - xa))) := by
      show _ = _
      rw [HNX.out]; unfold hrdS
      rw [if_pos (show onC tr at_ (CliM.x ⟨xm, xc, xf, xt, xa, xl, ⟨EA, ed, es⟩⟩) = true from decide_eq_true ⟨ho1, ho2, ho3⟩)]; rfl
    have q1 : (xt != tr) = false := by simpa using ho1
    have q2 : decide (at_ < xa) = false := decide_eq_false (by omega)
    have q3 : decide (xa + xl ≤ at_) = false := decide_eq_false (by omega)
    obtain ⟨hi1, hi2⟩ := HH.out.i
    obtain ⟨hs1, hs2⟩ := HH.out.s
    simp only [CliM.x] at hi1 hi2 hs1 hs2
    have HVE : Hid (∀ W, Gq wr W → Calls Tryz.prog 46 #[.agg #[.string xm, .int .i64 xc, .int .i64 xf, .int .i64 xt, .int .i64 xa, .int .i64 xl, .slice EA en ed], .int .i64 (at_ - xa)] W fun e w' => ∃ v, e = .returned v ∧ NumQ w' v (valQ es (at_ - xa)) ∧ Gq W w') := fun W hW => by
      rw [← HXV.out]
      exact valueR_any ⟨xm, xc, xf, xt, xa, xl, ⟨EA, ed, es⟩⟩ (at_ - xa) W (HCO.out.below hW) HH.out.e HH.out.l HH.out.i (HPW.out W (HG.out.trans hW))
    have HLQ : Hid (RLim 300 (valQ es (at_ - xa))) := HH.out.q
    clear ho1 ho2 ho3 HHR HNX HCO HXV HH
    obtain ⟨V, hV⟩ : ∃ V, valQ es (at_ - xa) = V := ⟨_, rfl⟩
    rw [hV] at HN2 HVE HLQ
    clear hV
    have hrw1 : IntKind.i64.wrap (at_ - xa) = at_ - xa := IntWalk.i64_in _ ⟨by omega, by omega⟩
    have hrw2 : IntKind.i64.wrap (at_ - xa + xf) = at_ - xa + xf := IntWalk.i64_in _ ⟨by omega, by omega⟩
    have HVW : Hid (∀ W, Gq wa W → Calls Tryz.prog 46 #[.agg #[.string xm, .int .i64 xc, .int .i64 xf, .int .i64 xt, .int .i64 xa, .int .i64 xl, .slice EA en ed], .int .i64 (at_ - xa)] W fun e w' => ∃ v, e = .returned v ∧ NumQ w' v V ∧ Gq W w') := fun W hW => HVE.out W (HGA.out.trans hW)
    have HRW1 := Lib.hid hrw1
    have HRW2 := Lib.hid hrw2
    have HQR : Hid (∀ g, wa.heap.size ≤ g → wr.heap.size ≠ g) := fun g hg => by have := HZA.out; omega
    have HBASE : Hid (Gq wa wa.drew ∧ Blk wa.drew wr.heap.size 40 [.string xm, .int .i64 xc, .int .i64 xf, .int .i64 xt, .int .i64 xa, .int .i64 xl, .slice EA en ed]) := ⟨(Gq.refl _).drew, blk_gqr HKC.out ((Gq.refl _).drew)⟩
    go_upto_region 6 with (fail)
    rw [← HWA.out]
    clear p0 p1 p2 p3 p4 p5 p6 e2 hrw1 hrw2
    have HCC2 : Hid (∀ W, Gq wa W → W.cell? ⟨wr.heap.size, 0, none⟩ = some (.string xm) ∧ W.cell? ⟨wr.heap.size, 1, none⟩ = some (.int .i64 xc) ∧ W.cell? ⟨wr.heap.size, 2, none⟩ = some (.int .i64 xf) ∧ W.cell? ⟨wr.heap.size, 3, none⟩ = some (.int .i64 xt) ∧ W.cell? ⟨wr.heap.size, 4, none⟩ = some (.int .i64 xa) ∧ W.cell? ⟨wr.heap.size, 5, none⟩ = some (.int .i64 xl) ∧ W.cell? ⟨wr.heap.size, 6, none⟩ = some (.slice EA en ed) ∧ Gq wa W) := fun W hW => by
      obtain ⟨k0, k1, k2, k3, k4, k5, k6⟩ := HCC.out W hW
      exact ⟨k0, k1, k2, k3, k4, k5, k6, hW⟩
    go_upto_region 7 with (fail)
    go_cut [10] (fun v wx => Hid (NewG wa ⟨xm, xc, at_ - xa + xf⟩ V v wx))
    case first =>
      as_aux_lemma =>
      clear HLN HLS HLL HLC HHC HCR HFE HRT HMS HL0 HOW HRL HN2 HLQ HII HKE HOK HPW HCE HVE HEX a0 a1 a2 a3 a4 a5 a6 HCC HKC HWA HZA HG HGA
      obtain ⟨HVE, hve⟩ : ∃ H : Hid _, H = HVW := ⟨HVW, rfl⟩
      clear hve HVW
      refine wp_region_factsK _ (by kernel_rfl) (by kernel_rfl) [[], [0], [], [2], [], [], [5], [4, 5, 6], [], [8], [4, 5, 6, 7, 8, 9], [], [], [], [13], [12, 13, 14], [11, 12, 13, 14, 15], [0, 1, 2, 3, 4, 5, 6, 7, 8, 9, 10, 11, 12, 13, 14, 15, 16], [], [0, 1, 2, 3, 4, 5, 6, 7, 8, 9, 10, 11, 12, 13, 14, 15, 16, 17, 18]] (by kernel_rfl) [some 46, some 47, some 48, some 49, some 50, some 51, some 52, some 53, some 54, some 55, some 56, some 57, some 58, some 59, some 60, some 61, some 62, some 63, some 10, none] (by kernel_rfl) (fun vs => by simp only [putA, putL, if_true, Act.put, List.setIfInBounds_toArray, List.set_cons_zero, List.set_cons_succ]; rfl) (herF wa wr.heap.size xm xc xf xt xa xl EA en ed at_ V) (by kernel_rfl) ?_ ⟨?_, ?_, ?_, ?_, ?_, ?_, ?_, ?_, ?_, ?_, ?_, ?_, ?_, ?_, ?_, ?_, ?_, ?_, ?_, ?_, trivial⟩ ?_
      · exact fa_zero [0] (by kernel_rfl) <| fa_cons (HBASE.out) <| fa_nil _
      · -- 0: Op.fieldAddr 70 t9 0
        intro Ls vs w Kk H hu hK
        replace hu : ∀ k ∈ ([] : List Nat), Ls k = true := hu
        have qbase : Gq wa w ∧ Blk w wr.heap.size 40 [.string xm, .int .i64 xc, .int .i64 xf, .int .i64 xt, .int .i64 xa, .int .i64 xl, .slice EA en ed] := H.up hu 0 rfl rfl
        obtain ⟨h0, hk⟩ := qbase
        have hKK := Lib.hid hK
        clear hK H
        go_simp
        refine hKK.out _ _ (fun f _ _ _ h => h) ?_
        exact fa_pick [1] (by kernel_rfl) <| fa_cons (fun _ => rfl) <| fa_nil _
      · -- 1: Op.load 9 t46
        intro Ls vs w Kk H hu hK
        replace hu : ∀ k ∈ ([0] : List Nat), Ls k = true := hu
        have qbase : Gq wa w ∧ Blk w wr.heap.size 40 [.string xm, .int .i64 xc, .int .i64 xf, .int .i64 xt, .int .i64 xa, .int .i64 xl, .slice EA en ed] := H.up hu 0 rfl rfl
        obtain ⟨h0, hk⟩ := qbase
        have f0 : vs 0 = .pointer (some ⟨wr.heap.size, 0, none⟩) := H.up hu 1 rfl rfl
        have d0 : w.cell? ⟨wr.heap.size, 0, none⟩ = _ := hk.cell 0
        simp only [List.getElem?_cons_zero] at d0
        have hKK := Lib.hid hK
        clear hK H
        go_simp
        refine hKK.out _ _ (fun f _ _ _ h => h) ?_
        exact fa_pick [2] (by kernel_rfl) <| fa_cons (fun _ => rfl) <| fa_nil _
      · -- 2: Op.fieldAddr 70 t9 1
        intro Ls vs w Kk H hu hK
        replace hu : ∀ k ∈ ([] : List Nat), Ls k = true := hu
        have qbase : Gq wa w ∧ Blk w wr.heap.size 40 [.string xm, .int .i64 xc, .int .i64 xf, .int .i64 xt, .int .i64 xa, .int .i64 xl, .slice EA en ed] := H.up hu 0 rfl rfl
        obtain ⟨h0, hk⟩ := qbase
        have hKK := Lib.hid hK
        clear hK H
        go_simp
        refine hKK.out _ _ (fun f _ _ _ h => h) ?_
        exact fa_pick [3] (by kernel_rfl) <| fa_cons (fun _ => rfl) <| fa_nil _
      · -- 3: Op.load 3 t48
        intro Ls vs w Kk H hu hK
        replace hu : ∀ k ∈ ([2] : List Nat), Ls k = true := hu
        have qbase : Gq wa w ∧ Blk w wr.heap.size 40 [.string xm, .int .i64 xc, .int .i64 xf, .int .i64 xt, .int .i64 xa, .int .i64 xl, .slice EA en ed] := H.up hu 0 rfl rfl
        obtain ⟨h0, hk⟩ := qbase
        have f2 : vs 2 = .pointer (some ⟨wr.heap.size, 1, none⟩) := H.up hu 3 rfl rfl
        have d1 : w.cell? ⟨wr.heap.size, 1, none⟩ = _ := hk.cell 1
        simp only [List.getElem?_cons_zero, List.getElem?_cons_succ] at d1
        have hKK := Lib.hid hK
        clear hK H
        go_simp
        refine hKK.out _ _ (fun f _ _ _ h => h) ?_
        exact fa_pick [4] (by kernel_rfl) <| fa_cons (fun _ => rfl) <| fa_nil _
      · -- 4: Op.move t2
        intro Ls vs w Kk H hu hK
        replace hu : ∀ k ∈ ([] : List Nat), Ls k = true := hu
        have qbase : Gq wa w ∧ Blk w wr.heap.size 40 [.string xm, .int .i64 xc, .int .i64 xf, .int .i64 xt, .int .i64 xa, .int .i64 xl, .slice EA en ed] := H.up hu 0 rfl rfl
        obtain ⟨h0, hk⟩ := qbase
        have hKK := Lib.hid hK
        clear hK H
        go_simp
        refine hKK.out _ _ (fun f _ _ _ h => h) ?_
        exact fa_pick [5] (by kernel_rfl) <| fa_cons (fun _ => rfl) <| fa_nil _
      · -- 5: Op.fieldAddr 70 t9 4
        intro Ls vs w Kk H hu hK
        replace hu : ∀ k ∈ ([] : List Nat), Ls k = true := hu
        have qbase : Gq wa w ∧ Blk w wr.heap.size 40 [.string xm, .int .i64 xc, .int .i64 xf, .int .i64 xt, .int .i64 xa, .int .i64 xl, .slice EA en ed] := H.up hu 0 rfl rfl
        obtain ⟨h0, hk⟩ := qbase
        have hKK := Lib.hid hK
        clear hK H
        go_simp
        refine hKK.out _ _ (fun f _ _ _ h => h) ?_
        exact fa_pick [6] (by kernel_rfl) <| fa_cons (fun _ => rfl) <| fa_nil _
      · -- 6: Op.load 3 t51
        intro Ls vs w Kk H hu hK
        replace hu : ∀ k ∈ ([5] : List Nat), Ls k = true := hu
        have qbase : Gq wa w ∧ Blk w wr.heap.size 40 [.string xm, .int .i64 xc, .int .i64 xf, .int .i64 xt, .int .i64 xa, .int .i64 xl, .slice EA en ed] := H.up hu 0 rfl rfl
        obtain ⟨h0, hk⟩ := qbase
        have f5 : vs 5 = .pointer (some ⟨wr.heap.size, 4, none⟩) := H.up hu 6 rfl rfl
        have d4 : w.cell? ⟨wr.heap.size, 4, none⟩ = _ := hk.cell 4
        simp only [List.getElem?_cons_zero, List.getElem?_cons_succ] at d4
        have hKK := Lib.hid hK
        clear hK H
        go_simp
        refine hKK.out _ _ (fun f _ _ _ h => h) ?_
        exact fa_pick [7] (by kernel_rfl) <| fa_cons (fun _ => rfl) <| fa_nil _
      · -- 7: Op.binOp BinOp.sub 3 t50 t52 3
        intro Ls vs w Kk H hu hK
        replace hu : ∀ k ∈ ([4, 5, 6] : List Nat), Ls k = true := hu
        have qbase : Gq wa w ∧ Blk w wr.heap.size 40 [.string xm, .int .i64 xc, .int .i64 xf, .int .i64 xt, .int .i64 xa, .int .i64 xl, .slice EA en ed] := H.up hu 0 rfl rfl
        obtain ⟨h0, hk⟩ := qbase
        have f4 : vs 4 = .int .i64 at_ := H.up hu 5 rfl rfl
        have f6 : vs 6 = .int .i64 xa := H.up hu 7 rfl rfl
        have hrw1 := HRW1.out
        have hKK := Lib.hid hK
        clear hK H
        go_simp
        refine hKK.out _ _ (fun f _ _ _ h => h) ?_
        exact fa_pick [8] (by kernel_rfl) <| fa_cons (fun _ => rfl) <| fa_nil _
      · -- 8: Op.fieldAddr 70 t9 2
        intro Ls vs w Kk H hu hK
        replace hu : ∀ k ∈ ([] : List Nat), Ls k = true := hu
        have qbase : Gq wa w ∧ Blk w wr.heap.size 40 [.string xm, .int .i64 xc, .int .i64 xf, .int .i64 xt, .int .i64 xa, .int .i64 xl, .slice EA en ed] := H.up hu 0 rfl rfl
        obtain ⟨h0, hk⟩ := qbase
        have hKK := Lib.hid hK
        clear hK H
        go_simp
        refine hKK.out _ _ (fun f _ _ _ h => h) ?_
        exact fa_pick [9] (by kernel_rfl) <| fa_cons (fun _ => rfl) <| fa_nil _
      · -- 9: Op.load 3 t54
        intro Ls vs w Kk H hu hK
        replace hu : ∀ k ∈ ([8] : List Nat), Ls k = true := hu
        have qbase : Gq wa w ∧ Blk w wr.heap.size 40 [.string xm, .int .i64 xc, .int .i64 xf, .int .i64 xt, .int .i64 xa, .int .i64 xl, .slice EA en ed] := H.up hu 0 rfl rfl
        obtain ⟨h0, hk⟩ := qbase
        have f8 : vs 8 = .pointer (some ⟨wr.heap.size, 2, none⟩) := H.up hu 9 rfl rfl
        have d2 : w.cell? ⟨wr.heap.size, 2, none⟩ = _ := hk.cell 2
        simp only [List.getElem?_cons_zero, List.getElem?_cons_succ] at d2
        have hKK := Lib.hid hK
        clear hK H
        go_simp
        refine hKK.out _ _ (fun f _ _ _ h => h) ?_
        exact fa_pick [10] (by kernel_rfl) <| fa_cons (fun _ => rfl) <| fa_nil _
      · -- 10: Op.binOp BinOp.add 3 t53 t55 3
        intro Ls vs w Kk H hu hK
        replace hu : ∀ k ∈ ([4, 5, 6, 7, 8, 9] : List Nat), Ls k = true := hu
        have qbase : Gq wa w ∧ Blk w wr.heap.size 40 [.string xm, .int .i64 xc, .int .i64 xf, .int .i64 xt, .int .i64 xa, .int .i64 xl, .slice EA en ed] := H.up hu 0 rfl rfl
        obtain ⟨h0, hk⟩ := qbase
        have f7 : vs 7 = .int .i64 (at_ - xa) := H.up hu 8 rfl rfl
        have f9 : vs 9 = .int .i64 xf := H.up hu 10 rfl rfl
        have hrw2 := HRW2.out
        have hKK := Lib.hid hK
        clear hK H
        go_simp
        refine hKK.out _ _ (fun f _ _ _ h => h) ?_
        exact fa_pick [11] (by kernel_rfl) <| fa_cons (fun _ => rfl) <| fa_nil _
      · -- 11: Op.load 70 t9
        intro Ls vs w Kk H hu hK
        replace hu : ∀ k ∈ ([] : List Nat), Ls k = true := hu
        have qbase : Gq wa w ∧ Blk w wr.heap.size 40 [.string xm, .int .i64 xc, .int .i64 xf, .int .i64 xt, .int .i64 xa, .int .i64 xl, .slice EA en ed] := H.up hu 0 rfl rfl
        obtain ⟨h0, hk⟩ := qbase
        have d0 : w.cell? ⟨wr.heap.size, 0, none⟩ = _ := hk.cell 0
        simp only [List.getElem?_cons_zero] at d0
        have d1 : w.cell? ⟨wr.heap.size, 1, none⟩ = _ := hk.cell 1
        simp only [List.getElem?_cons_zero, List.getElem?_cons_succ] at d1
        have d2 : w.cell? ⟨wr.heap.size, 2, none⟩ = _ := hk.cell 2
        simp only [List.getElem?_cons_zero, List.getElem?_cons_succ] at d2
        have d3 : w.cell? ⟨wr.heap.size, 3, none⟩ = _ := hk.cell 3
        simp only [List.getElem?_cons_zero, List.getElem?_cons_succ] at d3
        have d4 : w.cell? ⟨wr.heap.size, 4, none⟩ = _ := hk.cell 4
        simp only [List.getElem?_cons_zero, List.getElem?_cons_succ] at d4
        have d5 : w.cell? ⟨wr.heap.size, 5, none⟩ = _ := hk.cell 5
        simp only [List.getElem?_cons_zero, List.getElem?_cons_succ] at d5
        have d6 : w.cell? ⟨wr.heap.size, 6, none⟩ = _ := hk.cell 6
        simp only [List.getElem?_cons_zero, List.getElem?_cons_succ] at d6
        have hKK := Lib.hid hK
        clear hK H
        go_simp
        refine hKK.out _ _ (fun f _ _ _ h => h) ?_
        exact fa_pick [12] (by kernel_rfl) <| fa_cons (fun _ => rfl) <| fa_nil _
      · -- 12: Op.move t2
        intro Ls vs w Kk H hu hK
        replace hu : ∀ k ∈ ([] : List Nat), Ls k = true := hu
        have qbase : Gq wa w ∧ Blk w wr.heap.size 40 [.string xm, .int .i64 xc, .int .i64 xf, .int .i64 xt, .int .i64 xa, .int .i64 xl, .slice EA en ed] := H.up hu 0 rfl rfl
        obtain ⟨h0, hk⟩ := qbase
        have hKK := Lib.hid hK
        clear hK H
        go_simp
        refine hKK.out _ _ (fun f _ _ _ h => h) ?_
        exact fa_pick [13] (by kernel_rfl) <| fa_cons (fun _ => rfl) <| fa_nil _
      · -- 13: Op.fieldAddr 70 t9 4
        intro Ls vs w Kk H hu hK
        replace hu : ∀ k ∈ ([] : List Nat), Ls k = true := hu
        have qbase : Gq wa w ∧ Blk w wr.heap.size 40 [.string xm, .int .i64 xc, .int .i64 xf, .int .i64 xt, .int .i64 xa, .int .i64 xl, .slice EA en ed] := H.up hu 0 rfl rfl
        obtain ⟨h0, hk⟩ := qbase
        have hKK := Lib.hid hK
        clear hK H
        go_simp
        refine hKK.out _ _ (fun f _ _ _ h => h) ?_
        exact fa_pick [14] (by kernel_rfl) <| fa_cons (fun _ => rfl) <| fa_nil _
      · -- 14: Op.load 3 t59
        intro Ls vs w Kk H hu hK
        replace hu : ∀ k ∈ ([13] : List Nat), Ls k = true := hu
        have qbase : Gq wa w ∧ Blk w wr.heap.size 40 [.string xm, .int .i64 xc, .int .i64 xf, .int .i64 xt, .int .i64 xa, .int .i64 xl, .slice EA en ed] := H.up hu 0 rfl rfl
        obtain ⟨h0, hk⟩ := qbase
        have f13 : vs 13 = .pointer (some ⟨wr.heap.size, 4, none⟩) := H.up hu 14 rfl rfl
        have d4 : w.cell? ⟨wr.heap.size, 4, none⟩ = _ := hk.cell 4
        simp only [List.getElem?_cons_zero, List.getElem?_cons_succ] at d4
        have hKK := Lib.hid hK
        clear hK H
        go_simp
        refine hKK.out _ _ (fun f _ _ _ h => h) ?_
        exact fa_pick [15] (by kernel_rfl) <| fa_cons (fun _ => rfl) <| fa_nil _
      · -- 15: Op.binOp BinOp.sub 3 t58 t60 3
        intro Ls vs w Kk H hu hK
        replace hu : ∀ k ∈ ([12, 13, 14] : List Nat), Ls k = true := hu
        have qbase : Gq wa w ∧ Blk w wr.heap.size 40 [.string xm, .int .i64 xc, .int .i64 xf, .int .i64 xt, .int .i64 xa, .int .i64 xl, .slice EA en ed] := H.up hu 0 rfl rfl
        obtain ⟨h0, hk⟩ := qbase
        have f12 : vs 12 = .int .i64 at_ := H.up hu 13 rfl rfl
        have f14 : vs 14 = .int .i64 xa := H.up hu 15 rfl rfl
        have hrw1 := HRW1.out
        have hKK := Lib.hid hK
        clear hK H
        go_simp
        refine hKK.out _ _ (fun f _ _ _ h => h) ?_
        exact fa_pick [16] (by kernel_rfl) <| fa_cons (fun _ => rfl) <| fa_nil _
      · -- 16: Op.call { value (Operand.func 114), args := #[t57, t61], argTypes := #[70, 3] }
        intro Ls vs w Kk H hu hK
        replace hu : ∀ k ∈ ([11, 12, 13, 14, 15] : List Nat), Ls k = true := hu
        have qbase : Gq wa w ∧ Blk w wr.heap.size 40 [.string xm, .int .i64 xc, .int .i64 xf, .int .i64 xt, .int .i64 xa, .int .i64 xl, .slice EA en ed] := H.up hu 0 rfl rfl
        obtain ⟨h0, hk⟩ := qbase
        have f11 : vs 11 = .agg #[.string xm, .int .i64 xc, .int .i64 xf, .int .i64 xt, .int .i64 xa, .int .i64 xl, .slice EA en ed] := H.up hu 12 rfl rfl
        have f15 : vs 15 = .int .i64 (at_ - xa) := H.up hu 16 rfl rfl
        have hKK := Lib.hid hK
        clear hK H
        go_simp
        refine (HVE.out w h0).mono ?_
        rintro e w' ⟨v, rfl, hv, hb⟩
        obtain ⟨X, N, f, Y, O, t, rfl, -, -⟩ := num_agg hv
        refine ⟨_, rfl, hKK.out _ _ (fun f hf _ _ h => herK wa wr.heap.size xm xc xf xt xa xl EA en ed at_ V f hf _ _ _ hb h) ?_⟩
        exact fa_pick [17] (by kernel_rfl) <| fa_cons (fun _ => ⟨_, X, N, f, Y, O, t, rfl, hv⟩) <| fa_nil _
      · -- 17: Op.build 114 #[(0, t47), (1, t49), (2, t56), (3, t62)]
        intro Ls vs w Kk H hu hK
        replace hu : ∀ k ∈ ([0, 1, 2, 3, 4, 5, 6, 7, 8, 9, 10, 11, 12, 13, 14, 15, 16] : List Nat), Ls k = true := hu
        have qbase : Gq wa w ∧ Blk w wr.heap.size 40 [.string xm, .int .i64 xc, .int .i64 xf, .int .i64 xt, .int .i64 xa, .int .i64 xl, .slice EA en ed] := H.up hu 0 rfl rfl
        obtain ⟨h0, hk⟩ := qbase
        have f1 : vs 1 = .string xm := H.up hu 2 rfl rfl
        have f3 : vs 3 = .int .i64 xc := H.up hu 4 rfl rfl
        have f10 : vs 10 = .int .i64 (at_ - xa + xf) := H.up hu 11 rfl rfl
        have qn16 : ∃ s X N f Y O t, vs 16 = .agg #[.bool s, .slice X N f, .slice Y O t] ∧ NumQ w (.agg #[.bool s, .slice X N f, .slice Y O t]) (V) := H.up hu 17 rfl rfl
        obtain ⟨sn16, Xn16, Nn16, fn16, Yn16, On16, tn16, en16, vn16⟩ := qn16
        have hKK := Lib.hid hK
        clear hK H
        simp only [Nat.zero_add, Nat.reduceAdd, f1, f3, f10, en16]
        refine Eq.mpr (if_pos rfl) ?_
        refine tame_build _ _ rfl _ (by simp [Act.eval]; exact built6 xm xc (at_ - xa + xf) sn16 Xn16 Nn16 fn16 Yn16 On16 tn16) ?_
        refine hKK.out _ _ (fun f _ _ _ h => h) ?_
        exact fa_pick [18] (by kernel_rfl) <| fa_cons (fun _ => ⟨sn16, Xn16, Nn16, fn16, Yn16, On16, tn16, rfl, vn16⟩) <| fa_nil _
      · -- 18: Op.alloc 114
        intro Ls vs w Kk H hu hK
        replace hu : ∀ k ∈ ([] : List Nat), Ls k = true := hu
        have qbase : Gq wa w ∧ Blk w wr.heap.size 40 [.string xm, .int .i64 xc, .int .i64 xf, .int .i64 xt, .int .i64 xa, .int .i64 xl, .slice EA en ed] := H.up hu 0 rfl rfl
        obtain ⟨h0, hk⟩ := qbase
        have hKK := Lib.hid hK
        clear hK H
        go_simp
        refine hKK.out _ _ (fun f hf _ _ h => herK wa wr.heap.size xm xc xf xt xa xl EA en ed at_ V f hf _ _ _ (Gq.alloc (Gq.refl _) _) h) ?_
        exact fa_pick [19, 20] (by kernel_rfl) <| fa_cons (fun _ => ⟨_, _, _, _, _, _, _, rfl, Below.size h0, Blk.new w 64 [.string ⟨#[]⟩, .int .i64 0, .int .i64 0, .bool false, .slice none 0 0, .slice none 0 0]⟩) <|
            fa_cons (fun hL => absurd (show (18 : Nat) ∈ ([0, 1, 2, 3, 4, 5, 6, 7, 8, 9, 10, 11, 12, 13, 14, 15, 16, 17, 18] : List Nat) from by decide) (hL 19 (show (19 : Nat) ∈ ([18, 19] : List Nat) from by decide) (show (19 : Nat) ≠ 18 from by decide)).2) <| fa_nil _
      · -- 19: Op.store 114 t10 t63
        intro Ls vs w Kk H hu hK
        replace hu : ∀ k ∈ ([0, 1, 2, 3, 4, 5, 6, 7, 8, 9, 10, 11, 12, 13, 14, 15, 16, 17, 18] : List Nat), Ls k = true := hu
        have qbase : Gq wa w ∧ Blk w wr.heap.size 40 [.string xm, .int .i64 xc, .int .i64 xf, .int .i64 xt, .int .i64 xa, .int .i64 xl, .slice EA en ed] := H.up hu 0 rfl rfl
        obtain ⟨h0, hk⟩ := qbase
        have qf17 : ∃ s X N f Y O t, vs 17 = .agg #[.string xm, .int .i64 xc, .int .i64 (at_ - xa + xf), .bool s, .slice X N f, .slice Y O t] ∧ NumQ w (.agg #[.bool s, .slice X N f, .slice Y O t]) V := H.up hu 18 rfl rfl
        obtain ⟨sb, Xb, Nb, fb, Yb, Ob, tb, eb, vb⟩ := qf17
        have qbox : ∃ g x0 x1 x2 x3 x4 x5, vs 18 = .pointer (some ⟨g, 0, none⟩) ∧ wa.heap.size ≤ g ∧ Blk w g 64 [x0, x1, x2, x3, x4, x5] := H.up hu 19 rfl rfl
        obtain ⟨g, x0, x1, x2, x3, x4, x5, eg, lg, bg⟩ := qbox
        have d0 : w.cell? ⟨g, 0, none⟩ = _ := bg.cell 0
        have f0b := bg.frozen 0
        have d1 : w.cell? ⟨g, 1, none⟩ = _ := bg.cell 1
        have f1b := bg.frozen 1
        have d2 : w.cell? ⟨g, 2, none⟩ = _ := bg.cell 2
        have f2b := bg.frozen 2
        have d3 : w.cell? ⟨g, 3, none⟩ = _ := bg.cell 3
        have f3b := bg.frozen 3
        have d4 : w.cell? ⟨g, 4, none⟩ = _ := bg.cell 4
        have f4b := bg.frozen 4
        have d5 : w.cell? ⟨g, 5, none⟩ = _ := bg.cell 5
        have f5b := bg.frozen 5
        simp only [List.getElem?_cons_zero, List.getElem?_cons_succ] at d0 d1 d2 d3 d4 d5
        have hKK := Lib.hid hK
        clear hK H
        go_simp
        have hgr := set6_grown w g (.string xm) (.int .i64 xc) (.int .i64 (at_ - xa + xf)) (.bool sb) (.slice Xb Nb fb) (.slice Yb Ob tb)
        have hty : ∀ g', (some g : Option Nat) = some g' → ∃ cs fr, ∃ T : TypeId, w.heap[g']? = some (.cells cs T fr) ∧ T ≠ 3 := fun g' hg' => by injection hg' with hg'; subst hg'; exact ⟨_, _, _, bg, by decide⟩
        have hne : wr.heap.size ≠ g := HQR.out g lg
        refine hKK.out _ _ (fa_cons (fun _ _ h => ⟨Below.grown h.1 hgr (Below.size h.1) (fun j hj => by cases hj; exact lg), (hgr.block _ h.2.lt (fun e => by injection e with e; exact hne e)).trans h.2⟩) <|
          fa_cons (fun _ _ h => h) <|
          fa_cons (fun _ _ h => h) <|
          fa_cons (fun _ _ h => h) <|
          fa_cons (fun _ _ h => h) <|
          fa_cons (fun _ _ h => h) <|
          fa_cons (fun _ _ h => h) <|
          fa_cons (fun _ _ h => h) <|
          fa_cons (fun _ _ h => h) <|
          fa_cons (fun _ _ h => h) <|
          fa_cons (fun _ _ h => h) <|
          fa_cons (fun _ _ h => h) <|
          fa_cons (fun _ _ h => h) <|
          fa_cons (fun _ _ h => h) <|
          fa_cons (fun _ _ h => h) <|
          fa_cons (fun _ _ h => h) <|
          fa_cons (fun _ _ h => h) <|
          fa_cons (fun _ _ h => (by obtain ⟨s, X, N, f, Y, O, t, h1, h2⟩ := h; exact ⟨s, X, N, f, Y, O, t, h1, numQ_typed hgr hty h2⟩)) <|
          fa_cons (fun _ _ h => (by obtain ⟨s, X, N, f, Y, O, t, h1, h2⟩ := h; exact ⟨s, X, N, f, Y, O, t, h1, numQ_typed hgr hty h2⟩)) <|
          fa_cons (fun _ _ h => (by obtain ⟨g1, y0, y1, y2, y3, y4, y5, h1, h2, h3⟩ := h; have e4 := (Eq.symm eg).trans h1; injection e4 with e4; injection e4 with e4; injection e4 with e4; subst e4; exact ⟨g, _, _, _, _, _, _, h1, h2, set6_blk bg _ _ _ _ _ _⟩)) <|
          fa_cons (fun hn => absurd (show (19 : Nat) ∈ ([18, 19] : List Nat) from by decide) hn) <| fa_nil _) ?_
        exact fa_pick [20] (by kernel_rfl) <| fa_cons (fun _ => ⟨g, ⟨⟨xm, xc, at_ - xa + xf⟩, sb, Xb, Nb, fb, Yb, Ob, tb⟩, eg, lg, set6_blk bg _ _ _ _ _ _, rfl, numQ_typed hgr hty vb⟩) <| fa_nil _
      · intro vs w H
        have qbase : Gq wa w ∧ Blk w wr.heap.size 40 [.string xm, .int .i64 xc, .int .i64 xf, .int .i64 xt, .int .i64 xa, .int .i64 xl, .slice EA en ed] := fa_at H 0 rfl
        obtain ⟨h0, hk⟩ := qbase
        have f0 : vs 0 = .pointer (some ⟨wr.heap.size, 0, none⟩) := fa_at H 1 rfl
        have f1 : vs 1 = .string xm := fa_at H 2 rfl
        have f2 : vs 2 = .pointer (some ⟨wr.heap.size, 1, none⟩) := fa_at H 3 rfl
        have f3 : vs 3 = .int .i64 xc := fa_at H 4 rfl
        have f4 : vs 4 = .int .i64 at_ := fa_at H 5 rfl
        have f5 : vs 5 = .pointer (some ⟨wr.heap.size, 4, none⟩) := fa_at H 6 rfl
        have f6 : vs 6 = .int .i64 xa := fa_at H 7 rfl
        have f7 : vs 7 = .int .i64 (at_ - xa) := fa_at H 8 rfl
        have f8 : vs 8 = .pointer (some ⟨wr.heap.size, 2, none⟩) := fa_at H 9 rfl
        have f9 : vs 9 = .int .i64 xf := fa_at H 10 rfl
        have f10 : vs 10 = .int .i64 (at_ - xa + xf) := fa_at H 11 rfl
        have f11 : vs 11 = .agg #[.string xm, .int .i64 xc, .int .i64 xf, .int .i64 xt, .int .i64 xa, .int .i64 xl, .slice EA en ed] := fa_at H 12 rfl
        have f12 : vs 12 = .int .i64 at_ := fa_at H 13 rfl
        have f13 : vs 13 = .pointer (some ⟨wr.heap.size, 4, none⟩) := fa_at H 14 rfl
        have f14 : vs 14 = .int .i64 xa := fa_at H 15 rfl
        have f15 : vs 15 = .int .i64 (at_ - xa) := fa_at H 16 rfl
        have qst : ∃ g, ∃ x : Gr6, vs 18 = .pointer (some ⟨g, 0, none⟩) ∧ wa.heap.size ≤ g ∧ Blk w g 64 (Gr6.cs x) ∧ x.g = ⟨xm, xc, at_ - xa + xf⟩ ∧ NumQ w x.n V := fa_at H 20 rfl
        obtain ⟨g, x, eg, lg, bg, gg, ng⟩ := qst
        clear H
        simp only [Nat.zero_add, Nat.reduceAdd]
        have HNEW : Hid (NewG wa ⟨xm, xc, at_ - xa + xf⟩ V (vs 18) w) := ⟨g, x, eg, lg, bg, gg, ng, h0⟩
        clear h0 hk eg lg bg gg ng
        simp only [f0, f1, f2, f3, f4, f5, f6, f7, f8, f9, f10, f11, f12, f13, f14, f15]
        clear f0 f1 f2 f3 f4 f5 f6 f7 f8 f9 f10 f11 f12 f13 f14 f15
        generalize vs 16 = z16
        generalize vs 17 = z17
        generalize vs 18 = z18 at HNEW ⊢
        go_wp2_with fail
        go_meet
        case rel => exact HNEW
    case rest =>
    obtain ⟨w7, hw7⟩ : ∃ w7, w7 = wc := ⟨_, rfl⟩
    subst hw7
    obtain ⟨gb, x, rfl, hgb, hBx, hxg, hxn, hgx⟩ := hcut.out
    have HBX := Lib.hid hBx
    have HXN := Lib.hid hxn
    have HGC : Hid (Gq wa w7) := hgx
    have HXK := Lib.hid hxg
    have HOC : Hid (w7.ownsRow w0.heap.size 64 6 (.slice AO R.length cO) R.length (R.flatMap Gr6.cs)) := own_belowL HOW.out (HGA.out.trans HGC.out)
    have HRC : Hid (RelG w7 R (L i)) := HRL.out.below (HGA.out.trans HGC.out)
    have HGW : Hid (Gq w0 w7) := HG.out.trans (HGA.out.trans HGC.out)
    have HLI : Hid ((L i).length ≤ i) := HLC.out i hi
    have HSI : Hid (SrtG (L i)) := HLS.out i
    have HQI : Hid (LimG 90300 (L i)) := HLL.out i
    have HZB : Hid (wr.heap.size ≤ gb ∧ gb < w7.heap.size) := ⟨by have := HZA.out; show _ ≤ _; omega, hBx.lt⟩
    have HRB : Hid (∀ g, (Value.slice AO R.length cO).ownBlock = some g → g < wr.heap.size) := fun g hg => (HOW.out.lt g hg).2
    clear hcut hBx hgb hxg hxn hgx HOW HRL HCC HKC HWA a0 a1 a2 a3 a4 a5 a6 HVE HQR HBASE HVW HZA HGA
    have hrl : R.length ≤ 300 := by have := HRC.out.1; have := HLI.out; omega
    obtain ⟨l, hl⟩ : ∃ l, L i = l := ⟨_, rfl⟩
    rw [hl] at HN2 HRC HLI HSI HQI
    clear hl
    obtain ⟨⟨km, kc, kg⟩, kks, kA, kL, kC, kB, kM, kD⟩ := x
    have HXK2 : Hid ((⟨km, kc, kg⟩ : Gk) = ⟨xm, xc, at_ - xa + xf⟩) := HXK.out
    clear HXK
    rw [← HXK2.out] at HN2
    clear HXK2 HRW1 HRW2
    obtain ⟨K0, hK0⟩ : ∃ K0 : Gk, K0 = ⟨km, kc, kg⟩ := ⟨_, rfl⟩
    rw [← hK0] at HN2
    have HK0 := Lib.hid hK0
    clear hK0 q1 q2 q3 hs1 hs2 hi1 hi2 hxa hxl1 hxl2
    have HXC : Hid (∀ W, Gq w7 W → W.cell? ⟨gb, 0, none⟩ = some (.string km) ∧ W.cell? ⟨gb, 1, none⟩ = some (.int .i64 kc) ∧ W.cell? ⟨gb, 2, none⟩ = some (.int .i64 kg) ∧ W.cell? ⟨gb, 3, none⟩ = some (.bool kks) ∧ W.cell? ⟨gb, 4, none⟩ = some (.slice kA kL kC) ∧ W.cell? ⟨gb, 5, none⟩ = some (.slice kB kM kD)) := fun W hW => by
      have k1 := blk_gq HBX.out hW
      exact ⟨k1.cell 0, k1.cell 1, k1.cell 2, k1.cell 3, k1.cell 4, k1.cell 5⟩
    obtain ⟨z0, z1, z2, z3, z4, z5⟩ := HXC.out w7 (Gq.refl _)
    go_upto_block 2 with (fail)
    go_cut [11] (fun kv wx => ∃ k : Nat, kv = .int .i64 (k : Int) ∧ k ≤ R.length ∧ Hid (∀ j (hj : j < R.length), j < k → gLt R[j].g K0) ∧ Hid (∀ h : k < R.length, ¬ gLt R[k].g K0) ∧ Hid (Gq w7 wx))
    case first =>
      as_aux_lemma =>
      clear HLN HLS HLL HLC HHC HCR HFE HRT HMS HL0 HN2 HLQ HII HKE HOK HPW HCE HEX HG HGW HQI HSI
      go_wp2_with fail
      go_loopw [11] (fun kv wx => ∃ k : Nat, kv = .int .i64 (k : Int) ∧ k ≤ R.length ∧ Hid (∀ j (hj : j < R.length), j < k → gLt R[j].g K0) ∧ Hid (Gq w7 wx)) (fun kv _ => R.length - (intOf kv).toNat)
      case atStart => exact ⟨0, rfl, Nat.zero_le _, fun j hj h => by omega, Gq.refl _⟩
      case round =>
        obtain ⟨k, rfl, hk, HB, HGK⟩ := hrel
        by_cases hkl : k < R.length
        case neg =>
          have hd0 : decide (k < R.length) = false := by simpa using hkl
          have hke : k ≤ R.length := hk
          have HNo : Hid (∀ h : k < R.length, ¬ gLt R[k].g K0) := fun h => absurd h hkl
          go_wp2_with fail
          go_quiet (fail)
          all_goals
            go_wp2_with fail
            go_meet
            case rel => exact ⟨k, rfl, hke, HB, HNo, by first | exact HGK | exact Gq.drew HGK.out | exact below_drewN HGK.out _⟩
        have hd0 : decide (k < R.length) = true := by simpa using hkl
        obtain ⟨rb, roff, hAO, hrb, hcs⟩ := gr6_at (Rd.of_own (own_belowL HOC.out HGK.out)) (show 0 < R.length by omega)
        subst hAO
        obtain ⟨c0, c1, c2, c3, c4, c5⟩ := hcs k hkl
        have HSTEP : Hid (gLt R[k].g K0 → ∀ j (hj : j < R.length), j < k + 1 → gLt R[j].g K0) := fun h j hj hjk => by
          by_cases e : j = k
          · subst e; exact h
          · exact HB.out j hj (by omega)
        have HNo : Hid (¬ gLt R[k].g K0 → ∀ h : k < R.length, ¬ gLt R[k].g K0) := fun h _ => h
        have HBE : Hid (∀ W, Calls Tryz.prog 47 #[R[k].v, .agg #[.string km, .int .i64 kc, .int .i64 kg, .bool kks, .slice kA kL kC, .slice kB kM kD]] W fun e w' => e = .returned (.bool (decide (gLt R[k].g K0))) ∧ Gq W w') := fun W => by
          rw [HK0.out]; exact before_any R[k] ⟨⟨km, kc, kg⟩, kks, kA, kL, kC, kB, kM, kD⟩ W
        clear hcs
        obtain ⟨Y, hY⟩ : ∃ Y, R[k] = Y := ⟨_, rfl⟩
        rw [hY] at c0 c1 c2 c3 c4 c5 HSTEP HBE
        have HNo2 : Hid (¬ gLt Y.g K0 → ∀ h : k < R.length, ¬ gLt R[k].g K0) := fun h _ => by rw [hY]; exact h
        clear hY HNo
        obtain ⟨⟨ym, yc, yg⟩, ys, yA, yL, yC, yB, yM, yD⟩ := Y
        simp only at c0 c1 c2 c3 c4 c5
        obtain ⟨bt, hbt⟩ : ∃ bt, decide (gLt ⟨ym, yc, yg⟩ K0) = bt := ⟨_, rfl⟩
        have HBE2 : Hid (∀ W, Gq wr W → Calls Tryz.prog 47 #[.agg #[.string ym, .int .i64 yc, .int .i64 yg, .bool ys, .slice yA yL yC, .slice yB yM yD], .agg #[.string km, .int .i64 kc, .int .i64 kg, .bool kks, .slice kA kL kC, .slice kB kM kD]] W fun e w' => e = .returned (.bool bt) ∧ Gq wr w') := fun W hW => by
          rw [← hbt]
          exact (HBE.out W).mono fun e w' ⟨h1, h2⟩ => ⟨h1, hW.trans h2⟩
        have HBT := Lib.hid hbt
        have HS : Hid (∀ W, Gq wr W → W.cell? ⟨rb, roff + k * 6, none⟩ = some (.string ym) ∧ W.cell? ⟨rb, roff + k * 6 + 1, none⟩ = some (.int .i64 yc) ∧ W.cell? ⟨rb, roff + k * 6 + 2, none⟩ = some (.int .i64 yg) ∧ W.cell? ⟨rb, roff + k * 6 + 3, none⟩ = some (.bool ys) ∧ W.cell? ⟨rb, roff + k * 6 + 4, none⟩ = some (.slice yA yL yC) ∧ W.cell? ⟨rb, roff + k * 6 + 5, none⟩ = some (.slice yB yM yD) ∧ W.cell? ⟨gb, 0, none⟩ = some (.string km) ∧ W.cell? ⟨gb, 1, none⟩ = some (.int .i64 kc) ∧ W.cell? ⟨gb, 2, none⟩ = some (.int .i64 kg) ∧ W.cell? ⟨gb, 3, none⟩ = some (.bool kks) ∧ W.cell? ⟨gb, 4, none⟩ = some (.slice kA kL kC) ∧ W.cell? ⟨gb, 5, none⟩ = some (.slice kB kM kD) ∧ Gq wr W) := fun W hW => by
          obtain ⟨k0, k1, k2, k3, k4, k5⟩ := HXC.out W (HGK.out.trans hW)
          exact ⟨by rw [Below.cell hW (by exact hrb)]; exact c0, by rw [Below.cell hW (by exact hrb)]; exact c1, by rw [Below.cell hW (by exact hrb)]; exact c2, by rw [Below.cell hW (by exact hrb)]; exact c3, by rw [Below.cell hW (by exact hrb)]; exact c4, by rw [Below.cell hW (by exact hrb)]; exact c5, k0, k1, k2, k3, k4, k5, hW⟩
        have hBD : Gq wr wr.drew := (Gq.refl _).drew
        have j0 : (0 : Int) ≤ (k : Int) := by omega
        have j1 : (k : Int) < (R.length : Int) := by omega
        have hk1 : k + 1 ≤ R.length := hkl
        clear hbt HBE c0 c1 c2 c3 c4 c5 z0 z1 z2 z3 z4 z5 hrb HXC HOC HRC HBX HXN HRB HZB HGC HLI HK0
        go_wp2_with fail
        go_region_held3 (fun W => W.cell? ⟨rb, roff + k * 6, none⟩ = some (.string ym) ∧ W.cell? ⟨rb, roff + k * 6 + 1, none⟩ = some (.int .i64 yc) ∧ W.cell? ⟨rb, roff + k * 6 + 2, none⟩ = some (.int .i64 yg) ∧ W.cell? ⟨rb, roff + k * 6 + 3, none⟩ = some (.bool ys) ∧ W.cell? ⟨rb, roff + k * 6 + 4, none⟩ = some (.slice yA yL yC) ∧ W.cell? ⟨rb, roff + k * 6 + 5, none⟩ = some (.slice yB yM yD) ∧ W.cell? ⟨gb, 0, none⟩ = some (.string km) ∧ W.cell? ⟨gb, 1, none⟩ = some (.int .i64 kc) ∧ W.cell? ⟨gb, 2, none⟩ = some (.int .i64 kg) ∧ W.cell? ⟨gb, 3, none⟩ = some (.bool kks) ∧ W.cell? ⟨gb, 4, none⟩ = some (.slice kA kL kC) ∧ W.cell? ⟨gb, 5, none⟩ = some (.slice kB kM kD) ∧ Gq wr W)
          (first | exact HS.out _ hBD | exact HS.out _ hqB)
          (first | (go_at_call 47; with_reducible refine (HBE2.out _ hBD).mono ?_; rintro e wA ⟨rfl, hqB⟩))
        all_goals
          have HGA2 : Hid (Gq w7 wA) := HGK.out.trans hqB
          clear hqB hBD HS HBE2
          cases bt with
          | true =>
            have HB2 := Lib.hid (HSTEP.out (of_decide_eq_true HBT.out))
            go_wp2_with fail
            go_roundw
            case rel => exact ⟨k + 1, by go_num, hk1, HB2, HGA2⟩
            case measure => simp [intOf]; omega
          | false =>
            have HN3 := Lib.hid (HNo2.out (of_decide_eq_false HBT.out))
            go_wp2_with fail
            go_meet
            case rel => exact ⟨k, rfl, hk, HB, HN3, HGA2⟩
    case rest =>
    obtain ⟨k, rfl, hk, HB, HNo, HGK⟩ := hcut
    have HZC : Hid (Gq w7 wc) := HGK.out
    have HOD : Hid (wc.ownsRow w0.heap.size 64 6 (.slice AO R.length cO) R.length (R.flatMap Gr6.cs)) := own_belowL HOC.out HGK.out
    have HRD : Hid (RelG wc R l) := HRC.out.below HGK.out
    have HKB : Hid (Blk wc gb 64 (Gr6.cs ⟨⟨km, kc, kg⟩, kks, kA, kL, kC, kB, kM, kD⟩)) := blk_gq HBX.out HGK.out
    have HXD : Hid (NumQ wc (Gr6.n ⟨⟨km, kc, kg⟩, kks, kA, kL, kC, kB, kM, kD⟩) V) := numQ_below HXN.out HGK.out
    have HGE : Hid (Gq w0 wc) := HGW.out.trans HGK.out
    obtain ⟨w8, hw8⟩ : ∃ w8, w8 = wc := ⟨_, rfl⟩
    subst hw8
    obtain ⟨hb, hhb⟩ : ∃ hb : Bool, hb = (if h : k < R.length then decide (¬ gLt K0 R[k].g) else false) := ⟨_, rfl⟩
    have HHB := Lib.hid hhb
    clear hhb z0 z1 z2 z3 z4 z5 HOC HRC HXN HGW HBX
    go_upto_region 11 with (fail)
    go_cut [90] (fun v wx => v = .bool hb ∧ Hid (Gq w8 wx))
    case first =>
      as_aux_lemma =>
      clear HLN HLS HLL HLC HHC HCR HFE HRT HMS HL0 HN2 HLQ HII HKE HOK HPW HCE HEX HG HQI HSI HNo HB
      by_cases hkl : k < R.length
      case neg =>
        have hd0 : decide (k < R.length) = false := by simpa using hkl
        have HH : Hid (hb = false) := by show _ = _; rw [HHB.out, dif_neg hkl]
        go_quiet (fail)
        all_goals
          go_wp2_with fail
          go_meet
          case rel => exact ⟨by rw [HH.out], by first | exact Gq.refl _ | exact (Gq.refl _).drew | exact below_drewN (Gq.refl _) _⟩
      have hd0 : decide (k < R.length) = true := by simpa using hkl
      obtain ⟨rb, roff, hAO, hrb, hcs⟩ := gr6_at (Rd.of_own HOD.out) (show 0 < R.length by omega)
      subst hAO
      obtain ⟨c0, c1, c2, c3, c4, c5⟩ := hcs k hkl
      have HBE : Hid (∀ W, Gq w8 W → Calls Tryz.prog 47 #[.agg #[.string km, .int .i64 kc, .int .i64 kg, .bool kks, .slice kA kL kC, .slice kB kM kD], R[k].v] W fun e w' => e = .returned (.bool (!hb)) ∧ Gq w8 w') := fun W hW => by
        rw [HHB.out, dif_pos hkl, HK0.out]
        refine (before_any ⟨⟨km, kc, kg⟩, kks, kA, kL, kC, kB, kM, kD⟩ R[k] W).mono fun e w' ⟨h1, h2⟩ => ⟨?_, hW.trans h2⟩
        rw [h1]; simp
      clear hcs
      obtain ⟨Y, hY⟩ : ∃ Y, R[k] = Y := ⟨_, rfl⟩
      rw [hY] at c0 c1 c2 c3 c4 c5 HBE
      clear hY
      obtain ⟨⟨ym, yc, yg⟩, ys, yA, yL, yC, yB, yM, yD⟩ := Y
      simp only at c0 c1 c2 c3 c4 c5
      have HBE2 : Hid (∀ W, Gq w8 W → Calls Tryz.prog 47 #[.agg #[.string km, .int .i64 kc, .int .i64 kg, .bool kks, .slice kA kL kC, .slice kB kM kD], .agg #[.string ym, .int .i64 yc, .int .i64 yg, .bool ys, .slice yA yL yC, .slice yB yM yD]] W fun e w' => e = .returned (.bool (!hb)) ∧ Gq w8 w') := HBE.out
      have HS : Hid (∀ W, Gq w8 W → W.cell? ⟨rb, roff + k * 6, none⟩ = some (.string ym) ∧ W.cell? ⟨rb, roff + k * 6 + 1, none⟩ = some (.int .i64 yc) ∧ W.cell? ⟨rb, roff + k * 6 + 2, none⟩ = some (.int .i64 yg) ∧ W.cell? ⟨rb, roff + k * 6 + 3, none⟩ = some (.bool ys) ∧ W.cell? ⟨rb, roff + k * 6 + 4, none⟩ = some (.slice yA yL yC) ∧ W.cell? ⟨rb, roff + k * 6 + 5, none⟩ = some (.slice yB yM yD) ∧ W.cell? ⟨gb, 0, none⟩ = some (.string km) ∧ W.cell? ⟨gb, 1, none⟩ = some (.int .i64 kc) ∧ W.cell? ⟨gb, 2, none⟩ = some (.int .i64 kg) ∧ W.cell? ⟨gb, 3, none⟩ = some (.bool kks) ∧ W.cell? ⟨gb, 4, none⟩ = some (.slice kA kL kC) ∧ W.cell? ⟨gb, 5, none⟩ = some (.slice kB kM kD) ∧ Gq w8 W) := fun W hW => by
        have k1 := blk_gq HKB.out hW
        exact ⟨by rw [Below.cell hW (by exact hrb)]; exact c0, by rw [Below.cell hW (by exact hrb)]; exact c1, by rw [Below.cell hW (by exact hrb)]; exact c2, by rw [Below.cell hW (by exact hrb)]; exact c3, by rw [Below.cell hW (by exact hrb)]; exact c4, by rw [Below.cell hW (by exact hrb)]; exact c5, k1.cell 0, k1.cell 1, k1.cell 2, k1.cell 3, k1.cell 4, k1.cell 5, hW⟩
      have hBD : Gq w8 w8.drew := (Gq.refl _).drew
      have j0 : (0 : Int) ≤ (k : Int) := by omega
      have j1 : (k : Int) < (R.length : Int) := by omega
      clear HBE c0 c1 c2 c3 c4 c5 hrb HXC HOD HRD HKB HXD HRB HZB HGC HLI HK0
      go_region_held3 (fun W => W.cell? ⟨rb, roff + k * 6, none⟩ = some (.string ym) ∧ W.cell? ⟨rb, roff + k * 6 + 1, none⟩ = some (.int .i64 yc) ∧ W.cell? ⟨rb, roff + k * 6 + 2, none⟩ = some (.int .i64 yg) ∧ W.cell? ⟨rb, roff + k * 6 + 3, none⟩ = some (.bool ys) ∧ W.cell? ⟨rb, roff + k * 6 + 4, none⟩ = some (.slice yA yL yC) ∧ W.cell? ⟨rb, roff + k * 6 + 5, none⟩ = some (.slice yB yM yD) ∧ W.cell? ⟨gb, 0, none⟩ = some (.string km) ∧ W.cell? ⟨gb, 1, none⟩ = some (.int .i64 kc) ∧ W.cell? ⟨gb, 2, none⟩ = some (.int .i64 kg) ∧ W.cell? ⟨gb, 3, none⟩ = some (.bool kks) ∧ W.cell? ⟨gb, 4, none⟩ = some (.slice kA kL kC) ∧ W.cell? ⟨gb, 5, none⟩ = some (.slice kB kM kD) ∧ Gq w8 W)
        (first | exact HS.out _ hBD | exact HS.out _ hqB)
        (first | (go_at_call 47; with_reducible refine (HBE2.out _ hBD).mono ?_; rintro e wA ⟨rfl, hqB⟩))
      all_goals
        go_wp2_with fail
        go_meet
        case rel => exact ⟨by first | rfl | (cases hb <;> rfl), hqB⟩
    case rest =>
    obtain ⟨rfl, HG9⟩ := hcut
    have HO9 : Hid (wc.ownsRow w0.heap.size 64 6 (.slice AO R.length cO) R.length (R.flatMap Gr6.cs)) := own_belowL HOD.out HG9.out
    have HR9 : Hid (RelG wc R l) := HRD.out.below HG9.out
    have HK9 : Hid (Blk wc gb 64 (Gr6.cs ⟨⟨km, kc, kg⟩, kks, kA, kL, kC, kB, kM, kD⟩)) := blk_gq HKB.out HG9.out
    have HX9 : Hid (NumQ wc (.agg #[.bool kks, .slice kA kL kC, .slice kB kM kD]) V) := numQ_below HXD.out HG9.out
    have HE9 : Hid (Gq w0 wc) := HGE.out.trans HG9.out
    have HP9 : Hid (∀ W, Gq wc W → HasPow W) := fun W hW => HPW.out W (HE9.out.trans hW)
    clear HOD HRD HKB HXD HGE
    cases hb with
    | true =>
      have hkl : k < R.length := by
        refine Classical.byContradiction fun h => ?_
        have := HHB.out
        rw [dif_neg h] at this
        cases this
      have HN9 : Hid (¬ gLt K0 R[k].g) := by
        have := HHB.out
        rw [dif_pos hkl] at this
        exact of_decide_eq_true (p := ¬ gLt K0 R[k].g) this.symm
      have hkl2 : k < l.length := by rw [← HR9.out.1]; exact hkl
      have HRK : Hid (R[k].g = l[k].1 ∧ NumQ wc R[k].n l[k].2) := HR9.out.2 k hkl hkl2
      have HIN : Hid (L (i + 1) = l.set k (l[k].1, l[k].2 + V)) := by
        show _ = _
        rw [HN2.out]
        refine (insG_hit hkl2 (fun j hj => ?_) ?_ ?_).1
        · have := HB.out j (by omega) hj
          rw [(HR9.out.2 j (by omega) (by omega)).1] at this
          exact this
        · rw [← HRK.out.1]; exact HNo.out hkl
        · rw [← HRK.out.1]; exact HN9.out
      have HQK : Hid (RLim 90300 l[k].2) := HQI.out _ (List.getElem_mem hkl2)
      obtain ⟨rb, rcap, hAO, hrb0, hrb, hfz, hcl⟩ := ownU_some HO9.out (show 0 < R.length by omega)
      injection hAO with hAO1 hAO2 hAO3
      subst hAO1
      have key : ∀ j u, j < 6 → (R[k].cs)[j]? = some u → wc.cell? ⟨rb, k * 6 + j, none⟩ = some u := fun j u hj hu => hcl _ _ (by rw [flat_get Gr6.cs 6 (fun _ => rfl) R k j hkl hj]; exact hu)
      have HCL : Hid (wc.cell? ⟨rb, k * 6 + 3, none⟩ = some (.bool R[k].s) ∧ wc.cell? ⟨rb, k * 6 + 3 + 1, none⟩ = some (.slice R[k].a R[k].l R[k].c) ∧ wc.cell? ⟨rb, k * 6 + 3 + 2, none⟩ = some (.slice R[k].b R[k].m R[k].d)) := ⟨key 3 _ (by omega) rfl, key 4 _ (by omega) rfl, key 5 _ (by omega) rfl⟩
      have HST : Hid (∀ (W : World) (vs : Bool) (vA : Option Addr) (vL vc : Nat) (vB : Option Addr) (vM vd : Nat), Gq wc W → NumQ W (.agg #[.bool vs, .slice vA vL vc, .slice vB vM vd]) (l[k].2 + V) →
          ∃ R' : List Gr6, R'.length = R.length ∧ (((W.setCell ⟨rb, k * 6 + 3, none⟩ (.bool vs)).setCell ⟨rb, k * 6 + 3 + 1, none⟩ (.slice vA vL vc)).setCell ⟨rb, k * 6 + 3 + 2, none⟩ (.slice vB vM vd)).ownsRow w0.heap.size 64 6 (.slice (some ⟨rb, 0, none⟩) R'.length cO) R'.length (R'.flatMap Gr6.cs) ∧
            RelG (((W.setCell ⟨rb, k * 6 + 3, none⟩ (.bool vs)).setCell ⟨rb, k * 6 + 3 + 1, none⟩ (.slice vA vL vc)).setCell ⟨rb, k * 6 + 3 + 2, none⟩ (.slice vB vM vd)) R' (L (i + 1)) ∧ Gq w0 (((W.setCell ⟨rb, k * 6 + 3, none⟩ (.bool vs)).setCell ⟨rb, k * 6 + 3 + 1, none⟩ (.slice vA vL vc)).setCell ⟨rb, k * 6 + 3 + 2, none⟩ (.slice vB vM vd))) := fun W vs vA vL vc vB vM vd hW hn => by
        have hO := own_belowL HO9.out hW
        have hgr : W.grownBy (((W.setCell ⟨rb, k * 6 + 3, none⟩ (.bool vs)).setCell ⟨rb, k * 6 + 3 + 1, none⟩ (.slice vA vL vc)).setCell ⟨rb, k * 6 + 3 + 2, none⟩ (.slice vB vM vd)) (some rb) := grown_setD _ _ _ _ _ (grown_setD _ _ _ _ _ (grown_setD _ _ _ _ _ (World.grownBy.refl _ _)))
        have hty : ∀ g, some rb = some g → ∃ cs fr, ∃ T : TypeId, W.heap[g]? = some (.cells cs T fr) ∧ T ≠ 3 := fun g hg => by injection hg with hg; subst hg; exact own_type hO rb rfl
        refine ⟨R.set k ⟨R[k].g, vs, vA, vL, vc, vB, vM, vd⟩, by simp, ?_, ?_, ?_⟩
        · rw [List.length_set, ← flat_set3 R k hkl]
          exact ownU_set (ownU_set (ownU_set hO _ _) _ _) _ _
        · rw [HIN.out]
          refine ⟨by rw [List.length_set, List.length_set]; exact HR9.out.1, fun j hj hj2 => ?_⟩
          rw [List.length_set] at hj hj2
          by_cases e : j = k
          · subst e
            rw [List.getElem_set_self, List.getElem_set_self]
            exact ⟨HRK.out.1, numQ_typed hgr hty hn⟩
          · rw [List.getElem_set_ne (by omega), List.getElem_set_ne (by omega)]
            have := (HR9.out.below hW).2 j hj hj2
            exact ⟨this.1, numQ_typed hgr hty this.2⟩
        · have h1 : Below w0.heap.size w0 W := HE9.out.trans hW
          exact Below.grown h1 hgr (Below.size h1) (fun j hj => by cases hj; exact hrb0)
      have HPL : Hid (∀ W, Gq wc W → Calls Tryz.prog 48 #[R[k].n, .agg #[.bool kks, .slice kA kL kC, .slice kB kM kD]] W fun e w' => ∃ vs vA vL vc vB vM vd, e = .returned (.agg #[.bool vs, .slice vA vL vc, .slice vB vM vd]) ∧ Hid (NumQ w' (.agg #[.bool vs, .slice vA vL vc, .slice vB vM vd]) (l[k].2 + V)) ∧ Gq wc w') := fun W hW => by
        refine (plusQ_any _ _ l[k].2 V W (numQ_below HRK.out.2 hW) (numQ_below HX9.out hW) 90300 HQK.out (HLQ.out.mono (by omega)) (by omega)).mono ?_
        rintro e w' ⟨v, rfl, hv, hg⟩
        obtain ⟨X1, X2, X3, X4, X5, X6, rfl, _, _⟩ := num_agg hv
        exact ⟨_, X1, X2, X3, X4, X5, X6, rfl, hv, hW.trans hg⟩
      obtain ⟨c3, c4, c5⟩ := HCL.out
      have HFR : Hid (∀ W, Gq wc W → (W.frozen? ⟨rb, k * 6 + 3, none⟩ = false ∧ W.frozen? ⟨rb, k * 6 + 3 + 1, none⟩ = false ∧ W.frozen? ⟨rb, k * 6 + 3 + 2, none⟩ = false) ∧ (W.cell? ⟨rb, k * 6 + 3, none⟩ = some (.bool R[k].s) ∧ W.cell? ⟨rb, k * 6 + 3 + 1, none⟩ = some (.slice R[k].a R[k].l R[k].c) ∧ W.cell? ⟨rb, k * 6 + 3 + 2, none⟩ = some (.slice R[k].b R[k].m R[k].d))) := fun W hW => by
        have hO := own_belowL HO9.out hW
        obtain ⟨g', cap', hv', _, _, hf', _⟩ := ownU_some hO (show 0 < R.length by omega)
        injection hv' with hv' _ _
        injection hv' with hv'
        injection hv' with hv'
        subst hv'
        exact ⟨⟨hf' _, hf' _, hf' _⟩, by rw [Below.cell hW (by exact hrb)]; exact HCL.out.1, by rw [Below.cell hW (by exact hrb)]; exact HCL.out.2.1, by rw [Below.cell hW (by exact hrb)]; exact HCL.out.2.2⟩
      obtain ⟨Y, hY⟩ : ∃ Y, R[k] = Y := ⟨_, rfl⟩
      rw [hY] at c3 c4 c5 HFR HPL
      clear hY
      obtain ⟨yk, ys, yA, yL, yC, yB, yM, yD⟩ := Y
      simp only at c3 c4 c5 HFR
      have HPL2 : Hid (∀ W, Gq wc W → Calls Tryz.prog 48 #[.agg #[.bool ys, .slice yA yL yC, .slice yB yM yD], .agg #[.bool kks, .slice kA kL kC, .slice kB kM kD]] W fun e w' => ∃ vs vA vL vc vB vM vd, e = .returned (.agg #[.bool vs, .slice vA vL vc, .slice vB vM vd]) ∧ Hid (NumQ w' (.agg #[.bool vs, .slice vA vL vc, .slice vB vM vd]) (l[k].2 + V)) ∧ Gq wc w' ∧ (w'.frozen? ⟨rb, k * 6 + 3, none⟩ = false ∧ w'.frozen? ⟨rb, k * 6 + 3 + 1, none⟩ = false ∧ w'.frozen? ⟨rb, k * 6 + 3 + 2, none⟩ = false) ∧ (w'.cell? ⟨rb, k * 6 + 3, none⟩ = some (.bool ys) ∧ w'.cell? ⟨rb, k * 6 + 3 + 1, none⟩ = some (.slice yA yL yC) ∧ w'.cell? ⟨rb, k * 6 + 3 + 2, none⟩ = some (.slice yB yM yD))) := fun W hW => by
        refine (HPL.out W hW).mono ?_
        rintro e w' ⟨vs, vA, vL, vc, vB, vM, vd, h1, h2, h3⟩
        obtain ⟨k1, k2⟩ := HFR.out w' h3
        exact ⟨vs, vA, vL, vc, vB, vM, vd, h1, h2, h3, k1, k2⟩
      have HRG : Hid (rb < wr.heap.size) := HRB.out rb rfl
      have HS : Hid (∀ W, Gq wc W → (W.cell? ⟨gb, 3, none⟩ = some (.bool kks) ∧ W.cell? ⟨gb, 4, none⟩ = some (.slice kA kL kC) ∧ W.cell? ⟨gb, 5, none⟩ = some (.slice kB kM kD)) ∧ Gz rb wc W) := fun W hW => by
        have k1 := blk_gq HK9.out hW
        exact ⟨⟨k1.cell 3, k1.cell 4, k1.cell 5⟩, (show Gz rb wc W from Below.mono hW (Nat.le_of_lt hrb))⟩
      have HSS : Hid (∀ W a b c, Gq wc W → ((((W.setCell ⟨rb, k * 6 + 3, none⟩ a).setCell ⟨rb, k * 6 + 3 + 1, none⟩ b).setCell ⟨rb, k * 6 + 3 + 2, none⟩ c).cell? ⟨gb, 3, none⟩ = some (.bool kks) ∧ (((W.setCell ⟨rb, k * 6 + 3, none⟩ a).setCell ⟨rb, k * 6 + 3 + 1, none⟩ b).setCell ⟨rb, k * 6 + 3 + 2, none⟩ c).cell? ⟨gb, 4, none⟩ = some (.slice kA kL kC) ∧ (((W.setCell ⟨rb, k * 6 + 3, none⟩ a).setCell ⟨rb, k * 6 + 3 + 1, none⟩ b).setCell ⟨rb, k * 6 + 3 + 2, none⟩ c).cell? ⟨gb, 5, none⟩ = some (.slice kB kM kD)) ∧ Gz rb wc (((W.setCell ⟨rb, k * 6 + 3, none⟩ a).setCell ⟨rb, k * 6 + 3 + 1, none⟩ b).setCell ⟨rb, k * 6 + 3 + 2, none⟩ c)) := fun W a b c hW => by
        have hgr : W.grownBy (((W.setCell ⟨rb, k * 6 + 3, none⟩ a).setCell ⟨rb, k * 6 + 3 + 1, none⟩ b).setCell ⟨rb, k * 6 + 3 + 2, none⟩ c) (some rb) := grown_setD _ _ _ _ _ (grown_setD _ _ _ _ _ (grown_setD _ _ _ _ _ (World.grownBy.refl _ _)))
        have hk0 := blk_gq HK9.out hW
        have k1 : Blk (((W.setCell ⟨rb, k * 6 + 3, none⟩ a).setCell ⟨rb, k * 6 + 3 + 1, none⟩ b).setCell ⟨rb, k * 6 + 3 + 2, none⟩ c) gb _ _ := (hgr.block _ hk0.lt (fun e => by injection e with e; have := HRG.out; have := HZB.out; omega)).trans hk0
        exact ⟨⟨k1.cell 3, k1.cell 4, k1.cell 5⟩, ((((show Gz rb wc W from Below.mono hW (Nat.le_of_lt hrb))).set _ (Nat.le_refl _) _).set _ (Nat.le_refl _) _).set _ (Nat.le_refl _) _⟩
      have hBD : Gq wc wc.drew := (Gq.refl _).drew
      have j0 : (0 : Int) ≤ (k : Int) := by omega
      have j1 : (k : Int) < (R.length : Int) := by omega
      obtain ⟨d3, d4, d5⟩ := (HS.out wc (Gq.refl _)).1
      have HI1 : Hid (i + 1 ≤ xs.length) := hlt
      clear HLN HLS HLL HLC HHC HCR HFE HRT HMS HL0 HN2 HLQ HII HKE HOK HPW HCE HEX HG HQI HSI HNo HB HCL HFR HPL hrb0 hrb hfz hcl key HRK HQK HN9 HIN HX9 HK9 HXC hAO2 hAO3 HO9 HR9 HE9 HP9 HGC HLI HK0 HG9 HHB
      go_upto_region 12 with (fail)
      go_region_with (first | (go_at_call 48; with_reducible refine (HPL2.out _ hBD).mono ?_; rintro e wA ⟨vs, vA, vL, vc, vB, vM, vd, rfl, hv, hqB, ⟨f3, f4, f5⟩, ⟨y3, y4, y5⟩⟩))
      all_goals
        obtain ⟨R', hR1, hR2, hR3, hR4⟩ := HST.out wA vs vA vL vc vB vM vd hqB hv.out
        have HO10 := Lib.hid hR2
        have HR10 := Lib.hid hR3
        have HG10 : Hid (Gq w0 _) := hR4
        rw [← hR1]
        clear hR1 hR2 hR3 hR4 HST hv hqB f3 f4 f5 y3 y4 y5
        go_wp2_with fail
        go_roundw
        case rel => exact ⟨i + 1, R', HI1.out, by go_num, HO10, HR10, HG10⟩
        case measure => simp [intOf]; omega
    | false =>
      have HIN : Hid (L (i + 1) = l.take k ++ (K0, V) :: l.drop k) := by
        show _ = _
        rw [HN2.out]
        refine insG_miss (by rw [← HR9.out.1]; exact hk) (fun j hj hl => ?_) (fun h => ?_)
        · have := HB.out j (by rw [HR9.out.1]; exact hl) hj
          rw [(HR9.out.2 j (by rw [HR9.out.1]; exact hl) hl).1] at this
          exact this
        · have hkl : k < R.length := by rw [HR9.out.1]; exact h
          have := HHB.out
          rw [dif_pos hkl] at this
          have h2 := of_decide_eq_false (p := ¬ gLt K0 R[k].g) this.symm
          rw [(HR9.out.2 k hkl h).1] at h2
          exact Classical.not_not.1 h2
      have HRBZ : Hid (∀ g, (Value.slice AO R.length cO).ownBlock = some g → g < gb) := fun g hg => by have := HRB.out g hg; have := HZB.out; omega
      have HZ0 : Hid (w0.heap.size ≤ wc.heap.size ∧ gb < wc.heap.size) := ⟨Below.size HE9.out, HK9.out.lt⟩
      clear HLN HLS HLL HLC HHC HCR HFE HRT HMS HL0 HN2 HLQ HKE HOK HPW HCE HEX HG HQI HSI HNo HB HXC HGC HLI HG9 HHB HP9 HRB HZB
      go_upto_region 13 with (fail)
      go_wp2_with (at_builtin; (refine wpList_append_lies _ rfl _ _ 58 rfl w0.heap.size 64 ii _ 6 88 Tryz.underlying58 HII.out.1 HII.out.2.1 HII.out.2.2.1 HII.out.2.2.2 rfl (by decide) _ _ _ rfl (HO9.out.alloc _) ⟨wc.heap.size, 0, none⟩ 1 1 [.string ⟨#[]⟩, .int .i64 0, .int .i64 0, .bool false, .slice none 0 0, .slice none 0 0] (by rfl) (by rfl) (World.news_of_block (cs := #[.string ⟨#[]⟩, .int .i64 0, .int .i64 0, .bool false, .slice none 0 0, .slice none 0 0]) (t := 64) (fr := (0, 0)) (by exact heap_alloc_new wc _)) (by simp [Value.oneCell']) (by decide) (by unfold maxLen; omega) (by omega) (by have := HZ0.out; simp; omega) _ rfl ?_); intro rb rcap w9 hown9 hgrow9 hat9 hrb)
      have HRBG : Hid (rb ≠ gb) := by
        show _ ≠ _
        have hz0 := HZ0.out
        rcases hat9 with h9 | h9
        · have := HRBZ.out _ h9; omega
        · simp at h9; omega
      have HO10 : Hid (w9.ownsRow w0.heap.size 64 6 (.slice (some ⟨rb, 0, none⟩) (R.length + 1) rcap) (R.length + 1) ((R ++ [(default : Gr6)]).flatMap Gr6.cs)) := by
        show World.ownsRow _ _ _ _ _ _ _
        rw [flat_snoc]; exact hown9
      have HR10 : Hid (RelG w9 R l) := by
        have h1 := HR9.out.below ((Gq.refl wc).alloc (.cells #[.string ⟨#[]⟩, .int .i64 0, .int .i64 0, .bool false, .slice none 0 0, .slice none 0 0] 64))
        exact h1.mono fun _ _ hv => numQ_typed hgrow9 (own_type (HO9.out.alloc _)) hv
      have HX10 : Hid (NumQ w9 (.agg #[.bool kks, .slice kA kL kC, .slice kB kM kD]) V) := numQ_typed hgrow9 (own_type (HO9.out.alloc _)) (numQ_below HX9.out ((Gq.refl wc).alloc (.cells #[.string ⟨#[]⟩, .int .i64 0, .int .i64 0, .bool false, .slice none 0 0, .slice none 0 0] 64)))
      have HK10 : Hid (Blk w9 gb 64 (Gr6.cs ⟨⟨km, kc, kg⟩, kks, kA, kL, kC, kB, kM, kD⟩)) := by
        have h1 := blk_gq HK9.out ((Gq.refl wc).alloc (.cells #[.string ⟨#[]⟩, .int .i64 0, .int .i64 0, .bool false, .slice none 0 0, .slice none 0 0] 64))
        exact (hgrow9.block _ h1.lt (fun e => by have := HRBZ.out _ e.symm; omega)).trans h1
      have HE10 : Hid (Gq w0 w9) := below_app' HE9.out (Below.size HE9.out) (e := 64) (size := 6) HO9.out hgrow9
      have hrb0 : w0.heap.size ≤ rb := (HO10.out.lt rb rfl).1
      clear hown9 hgrow9 hat9 HO9 HR9 HK9 HX9 HE9 HRBZ HZ0
      have hz6 : R.length + 1 ≤ 301 := by omega
      have hRl : (R.length : Int) + 1 - 1 = (R.length : Int) := by omega
      go_upto_region 14 with (fail)
      go_wp2_with fail
      go_loopw [12] (fun jv wx => ∃ (j : Nat) (x : Gr6), jv = .int .i64 (j : Int) ∧ k ≤ j ∧ j ≤ R.length ∧ Hid (wx.ownsRow w0.heap.size 64 6 (.slice (some ⟨rb, 0, none⟩) (R.length + 1) rcap) (R.length + 1) ((R.take j ++ x :: R.drop j).flatMap Gr6.cs)) ∧ Hid (w9.grownBy wx (some rb))) (fun jv _ => (intOf jv).toNat)
      case atStart => exact ⟨R.length, default, by go_num, hk, Nat.le_refl _, by rw [List.take_length, List.drop_length]; exact HO10.out, World.grownBy.refl _ _⟩
      case round =>
        obtain ⟨j, x, rfl, hkj, hjR, HOJ, HGJ⟩ := hrel
        obtain ⟨rb', rcap', hv', hrbx, hrby, hfz, hcl⟩ := ownU_some HOJ.out (by omega)
        injection hv' with hv' _ _
        injection hv' with hv'
        injection hv' with hv'
        subst hv'
        have HLL2 : Hid ((R.take j ++ x :: R.drop j).length = R.length + 1) := by show _ = _; rw [List.length_append, List.length_cons, List.length_take, List.length_drop]; omega
        have key : ∀ (q : Nat) (y : Gr6) o u, (R.take j ++ x :: R.drop j)[q]? = some y → o < 6 → (y.cs)[o]? = some u → wr.cell? ⟨rb, q * 6 + o, none⟩ = some u := fun q y o u hy ho hu => by
          obtain ⟨hq, hy2⟩ := List.getElem?_eq_some_iff.1 hy
          exact hcl _ _ (by rw [flat_get Gr6.cs 6 (fun _ => rfl) _ q o hq ho, hy2]; exact hu)
        have HKJ : Hid (Blk wr gb 64 (Gr6.cs ⟨⟨km, kc, kg⟩, kks, kA, kL, kC, kB, kM, kD⟩)) := (HGJ.out.block _ HK10.out.lt (fun e => by injection e with e; exact HRBG.out e.symm)).trans HK10.out
        have hxj : (R.take j ++ x :: R.drop j)[j]? = some x := by
          rw [List.getElem?_append_right (by rw [List.length_take]; omega), List.length_take, Nat.min_eq_left hjR, Nat.sub_self]; rfl
        by_cases hjk : k < j
        case neg =>
          have hje : j = k := by omega
          have hd0 : decide ((j : Int) > (k : Int)) = false := by simp; omega
          have HTK := Lib.hid hje
          have hkR : k ≤ R.length := hk
          have HCE6 : Hid (wr.cell? ⟨rb, j * 6, none⟩ = some (.string x.g.m) ∧ wr.cell? ⟨rb, j * 6 + 1, none⟩ = some (.int .i64 x.g.ch) ∧ wr.cell? ⟨rb, j * 6 + 2, none⟩ = some (.int .i64 x.g.s) ∧ wr.cell? ⟨rb, j * 6 + 3, none⟩ = some (.bool x.s) ∧ wr.cell? ⟨rb, j * 6 + 4, none⟩ = some (.slice x.a x.l x.c) ∧ wr.cell? ⟨rb, j * 6 + 5, none⟩ = some (.slice x.b x.m x.d)) := ⟨key j x 0 _ hxj (by omega) rfl, key j x 1 _ hxj (by omega) rfl, key j x 2 _ hxj (by omega) rfl, key j x 3 _ hxj (by omega) rfl, key j x 4 _ hxj (by omega) rfl, key j x 5 _ hxj (by omega) rfl⟩
          have HOW2 : Hid ((((((((wr.setCell ⟨rb, k * 6, none⟩ (.string km)).setCell ⟨rb, k * 6 + 1, none⟩ (.int .i64 kc)).setCell ⟨rb, k * 6 + 2, none⟩ (.int .i64 kg)).setCell ⟨rb, k * 6 + 3, none⟩ (.bool kks)).setCell ⟨rb, k * 6 + 4, none⟩ (.slice kA kL kC)).setCell ⟨rb, k * 6 + 5, none⟩ (.slice kB kM kD))).ownsRow w0.heap.size 64 6 (.slice (some ⟨rb, 0, none⟩) (R.length + 1) rcap) (R.take k ++ (⟨⟨km, kc, kg⟩, kks, kA, kL, kC, kB, kM, kD⟩ : Gr6) :: R.drop k).length ((R.take k ++ (⟨⟨km, kc, kg⟩, kks, kA, kL, kC, kB, kM, kD⟩ : Gr6) :: R.drop k).flatMap Gr6.cs)) := by
            have hO := HOJ.out
            rw [hje] at hO
            have hln : (R.take k ++ (⟨⟨km, kc, kg⟩, kks, kA, kL, kC, kB, kM, kD⟩ : Gr6) :: R.drop k).length = R.length + 1 := by rw [List.length_append, List.length_cons, List.length_take, List.length_drop]; omega
            have h6 := ownU_set (ownU_set (ownU_set (ownU_set (ownU_set (ownU_set hO (k * 6) (.string km)) (k * 6 + 1) (.int .i64 kc)) (k * 6 + 2) (.int .i64 kg)) (k * 6 + 3) (.bool kks)) (k * 6 + 4) (.slice kA kL kC)) (k * 6 + 5) (.slice kB kM kD)
            have hset : (R.take k ++ x :: R.drop k).set k (⟨⟨km, kc, kg⟩, kks, kA, kL, kC, kB, kM, kD⟩ : Gr6) = R.take k ++ (⟨⟨km, kc, kg⟩, kks, kA, kL, kC, kB, kM, kD⟩ : Gr6) :: R.drop k := by
              rw [List.set_append_right _ _ (by rw [List.length_take]; omega), List.length_take, Nat.min_eq_left hkR, Nat.sub_self]; rfl
            have := flat_set6 (R.take k ++ x :: R.drop k) k (by rw [List.length_append, List.length_cons, List.length_take, List.length_drop]; omega) ⟨⟨km, kc, kg⟩, kks, kA, kL, kC, kB, kM, kD⟩
            rw [hset] at this
            show World.ownsRow _ _ _ _ _ _ _
            rw [hln, ← this]
            exact h6
          have HGN : Hid (wr.grownBy (((((((wr.setCell ⟨rb, k * 6, none⟩ (.string km)).setCell ⟨rb, k * 6 + 1, none⟩ (.int .i64 kc)).setCell ⟨rb, k * 6 + 2, none⟩ (.int .i64 kg)).setCell ⟨rb, k * 6 + 3, none⟩ (.bool kks)).setCell ⟨rb, k * 6 + 4, none⟩ (.slice kA kL kC)).setCell ⟨rb, k * 6 + 5, none⟩ (.slice kB kM kD))) (some rb)) := grown_setD _ _ _ _ _ (grown_setD _ _ _ _ _ (grown_setD _ _ _ _ _ (grown_setD _ _ _ _ _ (grown_setD _ _ _ _ _ (grown_setD _ _ _ _ _ (World.grownBy.refl _ _))))))
          have HG99 : Hid (w9.grownBy (((((((wr.setCell ⟨rb, k * 6, none⟩ (.string km)).setCell ⟨rb, k * 6 + 1, none⟩ (.int .i64 kc)).setCell ⟨rb, k * 6 + 2, none⟩ (.int .i64 kg)).setCell ⟨rb, k * 6 + 3, none⟩ (.bool kks)).setCell ⟨rb, k * 6 + 4, none⟩ (.slice kA kL kC)).setCell ⟨rb, k * 6 + 5, none⟩ (.slice kB kM kD))) (some rb)) := ⟨HGN.out.os.trans HGJ.out.os, HGN.out.tape.trans HGJ.out.tape, HGN.out.output.trans HGJ.out.output, Nat.le_trans HGJ.out.size HGN.out.size, fun q hq hne => (HGN.out.block q (Nat.lt_of_lt_of_le hq HGJ.out.size) hne).trans (HGJ.out.block q hq hne)⟩
          have HTY : Hid (∀ g, some rb = some g → ∃ cs fr, ∃ T : TypeId, w9.heap[g]? = some (.cells cs T fr) ∧ T ≠ 3) := fun g hg => by injection hg with hg; subst hg; exact own_type HO10.out rb rfl
          have HRN : Hid (RelG (((((((wr.setCell ⟨rb, k * 6, none⟩ (.string km)).setCell ⟨rb, k * 6 + 1, none⟩ (.int .i64 kc)).setCell ⟨rb, k * 6 + 2, none⟩ (.int .i64 kg)).setCell ⟨rb, k * 6 + 3, none⟩ (.bool kks)).setCell ⟨rb, k * 6 + 4, none⟩ (.slice kA kL kC)).setCell ⟨rb, k * 6 + 5, none⟩ (.slice kB kM kD))) (R.take k ++ (⟨⟨km, kc, kg⟩, kks, kA, kL, kC, kB, kM, kD⟩ : Gr6) :: R.drop k) (L (i + 1))) := by
            have h1 := HR10.out.mono (fun _ _ hv => numQ_typed HG99.out HTY.out hv)
            have h2 := numQ_typed HG99.out HTY.out HX10.out
            rw [HIN.out]
            exact rel_ins h1 hkR h2 (by rw [HK0.out])
          have HGG : Hid (Gq w0 (((((((wr.setCell ⟨rb, k * 6, none⟩ (.string km)).setCell ⟨rb, k * 6 + 1, none⟩ (.int .i64 kc)).setCell ⟨rb, k * 6 + 2, none⟩ (.int .i64 kg)).setCell ⟨rb, k * 6 + 3, none⟩ (.bool kks)).setCell ⟨rb, k * 6 + 4, none⟩ (.slice kA kL kC)).setCell ⟨rb, k * 6 + 5, none⟩ (.slice kB kM kD)))) := Below.grown HE10.out HG99.out (Below.size HE10.out) (fun q hq => by cases hq; exact hrb0)
          have HI1 : Hid (i + 1 ≤ xs.length) := hlt
          obtain ⟨z0, z1, z2, z3, z4, z5⟩ : wr.cell? ⟨gb, 0, none⟩ = some (.string km) ∧ wr.cell? ⟨gb, 1, none⟩ = some (.int .i64 kc) ∧ wr.cell? ⟨gb, 2, none⟩ = some (.int .i64 kg) ∧ wr.cell? ⟨gb, 3, none⟩ = some (.bool kks) ∧ wr.cell? ⟨gb, 4, none⟩ = some (.slice kA kL kC) ∧ wr.cell? ⟨gb, 5, none⟩ = some (.slice kB kM kD) := ⟨HKJ.out.cell 0, HKJ.out.cell 1, HKJ.out.cell 2, HKJ.out.cell 3, HKJ.out.cell 4, HKJ.out.cell 5⟩
          have HSET : Hid (∃ W, W = ((((((wr.setCell ⟨rb, k * 6, none⟩ (.string km)).setCell ⟨rb, k * 6 + 1, none⟩ (.int .i64 kc)).setCell ⟨rb, k * 6 + 2, none⟩ (.int .i64 kg)).setCell ⟨rb, k * 6 + 3, none⟩ (.bool kks)).setCell ⟨rb, k * 6 + 4, none⟩ (.slice kA kL kC)).setCell ⟨rb, k * 6 + 5, none⟩ (.slice kB kM kD))) := ⟨_, rfl⟩
          rw [hje] at HCE6
          obtain ⟨o0, o1, o2, o3, o4, o5⟩ := HCE6.out
          have g0 := hfz (k * 6)
          have g1 := hfz (k * 6 + 1)
          have g2 := hfz (k * 6 + 2)
          have g3 := hfz (k * 6 + 3)
          have g4 := hfz (k * 6 + 4)
          have g5 := hfz (k * 6 + 5)
          have hkl1 : (k : Int) < (R.length : Int) + 1 := by omega
          have hkl0 : (0 : Int) ≤ (k : Int) := by omega
          subst hje
          clear key hcl hfz HOJ HGJ HKJ HO10 HR10 HX10 HK10 HE10 HRBG HLL2 hxj HGN HG99 HTY HIN HCE6 HSET HTK
          go_wp2_with fail
          go_roundw
          case rel => exact ⟨i + 1, _, HI1.out, by go_num, HOW2, HRN, HGG⟩
          case measure => simp [intOf]; omega
        have hd0 : decide ((j : Int) > (k : Int)) = true := by simp; omega
        obtain ⟨p, rfl⟩ : ∃ p, j = p + 1 := ⟨j - 1, by omega⟩
        have hpR : p < R.length := by omega
        have hyp : (R.take (p + 1) ++ x :: R.drop (p + 1))[p]? = some R[p] := by
          rw [List.getElem?_append_left (by rw [List.length_take]; omega), List.getElem?_take, if_pos (by omega), List.getElem?_eq_getElem hpR]
        have HCY : Hid (∀ y, R[p] = y → (wr.cell? ⟨rb, p * 6, none⟩ = some (.string y.g.m) ∧ wr.cell? ⟨rb, p * 6 + 1, none⟩ = some (.int .i64 y.g.ch) ∧ wr.cell? ⟨rb, p * 6 + 2, none⟩ = some (.int .i64 y.g.s) ∧ wr.cell? ⟨rb, p * 6 + 3, none⟩ = some (.bool y.s) ∧ wr.cell? ⟨rb, p * 6 + 4, none⟩ = some (.slice y.a y.l y.c) ∧ wr.cell? ⟨rb, p * 6 + 5, none⟩ = some (.slice y.b y.m y.d)) ∧ (wr.cell? ⟨rb, (p + 1) * 6, none⟩ = some (.string x.g.m) ∧ wr.cell? ⟨rb, (p + 1) * 6 + 1, none⟩ = some (.int .i64 x.g.ch) ∧ wr.cell? ⟨rb, (p + 1) * 6 + 2, none⟩ = some (.int .i64 x.g.s) ∧ wr.cell? ⟨rb, (p + 1) * 6 + 3, none⟩ = some (.bool x.s) ∧ wr.cell? ⟨rb, (p + 1) * 6 + 4, none⟩ = some (.slice x.a x.l x.c) ∧ wr.cell? ⟨rb, (p + 1) * 6 + 5, none⟩ = some (.slice x.b x.m x.d))) := fun y hy => by
          rw [hy] at hyp
          exact ⟨⟨key p y 0 _ hyp (by omega) rfl, key p y 1 _ hyp (by omega) rfl, key p y 2 _ hyp (by omega) rfl, key p y 3 _ hyp (by omega) rfl, key p y 4 _ hyp (by omega) rfl, key p y 5 _ hyp (by omega) rfl⟩,
            ⟨key (p + 1) x 0 _ hxj (by omega) rfl, key (p + 1) x 1 _ hxj (by omega) rfl, key (p + 1) x 2 _ hxj (by omega) rfl, key (p + 1) x 3 _ hxj (by omega) rfl, key (p + 1) x 4 _ hxj (by omega) rfl, key (p + 1) x 5 _ hxj (by omega) rfl⟩⟩
        have HNW : Hid (∀ ym yc yg ys yA yL yC yB yM yD, R[p] = ⟨⟨ym, yc, yg⟩, ys, yA, yL, yC, yB, yM, yD⟩ → (((((((wr.setCell ⟨rb, (p + 1) * 6, none⟩ (.string ym)).setCell ⟨rb, (p + 1) * 6 + 1, none⟩ (.int .i64 yc)).setCell ⟨rb, (p + 1) * 6 + 2, none⟩ (.int .i64 yg)).setCell ⟨rb, (p + 1) * 6 + 3, none⟩ (.bool ys)).setCell ⟨rb, (p + 1) * 6 + 4, none⟩ (.slice yA yL yC)).setCell ⟨rb, (p + 1) * 6 + 5, none⟩ (.slice yB yM yD))).ownsRow w0.heap.size 64 6 (.slice (some ⟨rb, 0, none⟩) (R.length + 1) rcap) (R.length + 1) ((R.take p ++ (⟨⟨ym, yc, yg⟩, ys, yA, yL, yC, yB, yM, yD⟩ : Gr6) :: R.drop p).flatMap Gr6.cs) ∧ w9.grownBy (((((((wr.setCell ⟨rb, (p + 1) * 6, none⟩ (.string ym)).setCell ⟨rb, (p + 1) * 6 + 1, none⟩ (.int .i64 yc)).setCell ⟨rb, (p + 1) * 6 + 2, none⟩ (.int .i64 yg)).setCell ⟨rb, (p + 1) * 6 + 3, none⟩ (.bool ys)).setCell ⟨rb, (p + 1) * 6 + 4, none⟩ (.slice yA yL yC)).setCell ⟨rb, (p + 1) * 6 + 5, none⟩ (.slice yB yM yD))) (some rb)) := fun ym yc yg ys yA yL yC yB yM yD hy => by
          have h6 := ownU_set (ownU_set (ownU_set (ownU_set (ownU_set (ownU_set HOJ.out ((p + 1) * 6) (.string ym)) ((p + 1) * 6 + 1) (.int .i64 yc)) ((p + 1) * 6 + 2) (.int .i64 yg)) ((p + 1) * 6 + 3) (.bool ys)) ((p + 1) * 6 + 4) (.slice yA yL yC)) ((p + 1) * 6 + 5) (.slice yB yM yD)
          have hset : (R.take (p + 1) ++ x :: R.drop (p + 1)).set (p + 1) (⟨⟨ym, yc, yg⟩, ys, yA, yL, yC, yB, yM, yD⟩ : Gr6) = R.take p ++ (⟨⟨ym, yc, yg⟩, ys, yA, yL, yC, yB, yM, yD⟩ : Gr6) :: R.drop p := by
            rw [List.set_append_right _ _ (by rw [List.length_take]; omega), List.length_take, Nat.min_eq_left hjR, Nat.sub_self]
            rw [List.drop_eq_getElem_cons hpR, hy, List.take_succ_eq_append_getElem hpR, hy, List.append_assoc]; rfl
          have := flat_set6 (R.take (p + 1) ++ x :: R.drop (p + 1)) (p + 1) (by rw [HLL2.out]; omega) ⟨⟨ym, yc, yg⟩, ys, yA, yL, yC, yB, yM, yD⟩
          rw [hset] at this
          refine ⟨by rw [← this]; exact h6, ?_⟩
          exact grown_setD _ _ _ _ _ (grown_setD _ _ _ _ _ (grown_setD _ _ _ _ _ (grown_setD _ _ _ _ _ (grown_setD _ _ _ _ _ (grown_setD _ _ _ _ _ HGJ.out)))))
        obtain ⟨Y, hY⟩ : ∃ Y, R[p] = Y := ⟨_, rfl⟩
        obtain ⟨⟨ym, yc, yg⟩, ys, yA, yL, yC, yB, yM, yD⟩ := Y
        obtain ⟨⟨e0, e1, e2, e3, e4, e5⟩, o0, o1, o2, o3, o4, o5⟩ := HCY.out _ hY
        obtain ⟨hn1, hn2⟩ := HNW.out _ _ _ _ _ _ _ _ _ _ hY
        have HN1 := Lib.hid hn1
        have HN2' := Lib.hid hn2
        have g0 := hfz ((p + 1) * 6)
        have g1 := hfz ((p + 1) * 6 + 1)
        have g2 := hfz ((p + 1) * 6 + 2)
        have g3 := hfz ((p + 1) * 6 + 3)
        have g4 := hfz ((p + 1) * 6 + 4)
        have g5 := hfz ((p + 1) * 6 + 5)
        simp only at e0 e1 e2 e3 e4 e5
        have i0 : (0 : Int) ≤ (p : Int) := by omega
        have i1 : (p : Int) < (R.length : Int) + 1 := by omega
        have i2 : (0 : Int) ≤ (p : Int) + 1 := by omega
        have i3 : (p : Int) + 1 < (R.length : Int) + 1 := by omega
        have i4 : (p : Int) + 1 - 1 = (p : Int) := by omega
        clear hn1 hn2 hY HCY HNW hyp hxj key hcl hfz HOJ HGJ HKJ HLL2
        go_wp2_with fail
        go_roundw
        case rel => exact ⟨p, _, by go_num, by omega, by omega, HN1, HN2'⟩
        case measure => simp [intOf]
end Go.Proofs.YtmknpeoflafaoabGreatDoor
