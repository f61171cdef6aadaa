/- Several texts laid into one: A plan as cells: its three rows of clips; Generated (gen/chg.py): edit.change's function, with deadwax/edit.Slip$1; One clip of an edit changed; plain Lean; edit.Slip's function: a clip that starts elsewhere in its medium; Generated (gen/chg.py): edit.change's function, with deadwax/edit.Move$1; edit.Move's function: a clip elsewhere, on another track; -/
import Derived.Test.YteaghgbpcpileaaGreatDoorPlaP
import Derived.Test.YteaghgbpcpileaaGreatDoorApdZ
import Derived.Test.YteaghgbpcpileaaGreatDoorFacZ
/- A plan as cells: its three rows of clips. -/
namespace Go.Proofs.YteaghgbpcpileaaGreatDoor
open Go.RowKit Go.Dw

/-- the plan's box, and its rows: g gone, m made, k kept; gv, mv, kv: what the box holds for them -/
structure PlJ (B gP : Nat) (rt tk : Int) (xv gv mv kv : Value) (W : World) (g m k : Slc CliM) : Prop where
  blk : Blk W gP 50 [.int .i64 rt, .int .i64 tk, xv, gv, mv, kv]
  og : W.ownsRow B 39 7 g.v g.xs.length (g.xs.flatMap CliM.cs)
  om : W.ownsRow B 39 7 m.v m.xs.length (m.xs.flatMap CliM.cs)
  ok : W.ownsRow B 39 7 k.v k.xs.length (k.xs.flatMap CliM.cs)
  gm : ∀ b, g.v.ownBlock = some b → m.v.ownBlock ≠ some b
  gk : ∀ b, g.v.ownBlock = some b → k.v.ownBlock ≠ some b
  mq : ∀ b, m.v.ownBlock = some b → k.v.ownBlock ≠ some b
  tg : ∀ y ∈ g.xs, CliT W y
  tm : ∀ y ∈ m.xs, CliT W y
  tt : ∀ y ∈ k.xs, CliT W y
theorem PlJ.gq {B gP : Nat} {rt tk : Int} {xv gv mv kv : Value} {W W' : World} {g m k : Slc CliM} (h : PlJ B gP rt tk xv gv mv kv W g m k) (hg : Gq W W') : PlJ B gP rt tk xv gv mv kv W' g m k :=
  ⟨blkq h.blk hg, own_belowL h.og hg, own_belowL h.om hg, own_belowL h.ok hg, h.gm, h.gk, h.mq, fun y hy => (h.tg y hy).gq hg, fun y hy => (h.tm y hy).gq hg, fun y hy => (h.tt y hy).gq hg⟩
/-- a block of another type than clips', and points', is written -/
theorem PlJ.set_ {B gP i : Nat} {rt tk : Int} {xv gv mv kv gv' mv' kv' u : Value} {W : World} {g m k : Slc CliM} (h : PlJ B gP rt tk xv gv mv kv W g m k) (e : [Value.int .i64 rt, .int .i64 tk, xv, gv, mv, kv].set i u = [.int .i64 rt, .int .i64 tk, xv, gv', mv', kv']) : PlJ B gP rt tk xv gv' mv' kv' (W.setCell ⟨gP, i, none⟩ u) g m k := by
  have hp : KpT 75 W (W.setCell ⟨gP, i, none⟩ u) := (KpT.refl _ _).setCell ⟨_, _, h.blk⟩ (by decide)
  have hs := h.blk.set_ i u
  rw [e] at hs
  have ow : ∀ {s : Slc CliM}, W.ownsRow B 39 7 s.v s.xs.length (s.xs.flatMap CliM.cs) → (W.setCell ⟨gP, i, none⟩ u).ownsRow B 39 7 s.v s.xs.length (s.xs.flatMap CliM.cs) := fun {s} ho => by
    refine ho.kept (row := some gP) ⟨rfl, rfl, rfl, by simp [World.setCell], fun j _ hj => Below.heap_setCell _ _ _ j (fun e => hj (by rw [e]))⟩ ?_
    by_cases hv : s.v.ownBlock = none
    · exact .inl hv
    · refine .inr fun e2 => ?_
      obtain ⟨cs, fr, hgg⟩ := own_ty ho gP e2
      have hb : W.heap[gP]? = _ := h.blk
      rw [hb] at hgg
      injection hgg with hgg
      injection hgg with _ hgg
      exact absurd hgg (by decide)
  exact ⟨hs, ow h.og, ow h.om, ow h.ok, h.gm, h.gk, h.mq, fun y hy => (h.tg y hy).kp hp, fun y hy => (h.tm y hy).kp hp, fun y hy => (h.tt y hy).kp hp⟩
/-- a row grows: another row that lies apart stays, and lies apart from what it grew to -/
theorem own_other {B : Nat} {W W' : World} {s t : Slc CliM} {v : Value} {n : Nat} {xs : List Value} (ho : W.ownsRow B 39 7 s.v s.xs.length (s.xs.flatMap CliM.cs)) (hg : W.grownBy W' t.v.ownBlock) (hap : ∀ b, s.v.ownBlock = some b → t.v.ownBlock ≠ some b)
    (_hn : W'.ownsRow B 39 7 v n xs) (hat : ∀ b, v.ownBlock = some b → t.v.ownBlock = some b ∨ W.heap.size ≤ b) : W'.ownsRow B 39 7 s.v s.xs.length (s.xs.flatMap CliM.cs) ∧ (∀ b, s.v.ownBlock = some b → v.ownBlock ≠ some b) := by
  refine ⟨ho.kept hg ?_, fun b hb hv => ?_⟩
  · cases hv : s.v.ownBlock with
    | none => exact .inl rfl
    | some b => exact .inr (fun e => hap b hv e.symm)
  · rcases hat b hv with h1 | h1
    · exact hap b hb h1
    · have := (ho.lt b hb).2; omega
theorem PlJ.app_k {B gP : Nat} {rt tk : Int} {xv gv mv kv : Value} {W W' : World} {g m k s : Slc CliM} (h : PlJ B gP rt tk xv gv mv kv W g m k) (hP : gP < B) (hown : W'.ownsRow B 39 7 s.v s.xs.length (s.xs.flatMap CliM.cs))
    (hg : W.grownBy W' k.v.ownBlock) (hat : ∀ b, s.v.ownBlock = some b → k.v.ownBlock = some b ∨ W.heap.size ≤ b) (hs : ∀ y ∈ s.xs, CliT W' y) : PlJ B gP rt tk xv gv mv kv W' g m s := by
  have hp : KpT 75 W W' := KpT.own h.ok hg (by decide)
  have hb : Blk W' gP 50 [.int .i64 rt, .int .i64 tk, xv, gv, mv, kv] := (hg.block gP h.blk.lt (fun e => by have := (h.ok.lt gP e.symm).1; omega)).trans h.blk
  obtain ⟨h1, h2⟩ := own_other h.og hg h.gk hown hat
  obtain ⟨h3, h4⟩ := own_other h.om hg h.mq hown hat
  exact ⟨hb, h1, h3, hown, h.gm, h2, h4, fun y hy => (h.tg y hy).kp hp, fun y hy => (h.tm y hy).kp hp, hs⟩
theorem PlJ.app_g {B gP : Nat} {rt tk : Int} {xv gv mv kv : Value} {W W' : World} {g m k s : Slc CliM} (h : PlJ B gP rt tk xv gv mv kv W g m k) (hP : gP < B) (hown : W'.ownsRow B 39 7 s.v s.xs.length (s.xs.flatMap CliM.cs))
    (hg : W.grownBy W' g.v.ownBlock) (hat : ∀ b, s.v.ownBlock = some b → g.v.ownBlock = some b ∨ W.heap.size ≤ b) (hs : ∀ y ∈ s.xs, CliT W' y) : PlJ B gP rt tk xv gv mv kv W' s m k := by
  have hp : KpT 75 W W' := KpT.own h.og hg (by decide)
  have hb : Blk W' gP 50 [.int .i64 rt, .int .i64 tk, xv, gv, mv, kv] := (hg.block gP h.blk.lt (fun e => by have := (h.og.lt gP e.symm).1; omega)).trans h.blk
  obtain ⟨h1, h2⟩ := own_other h.om hg (fun b hb he => h.gm b he hb) hown hat
  obtain ⟨h3, h4⟩ := own_other h.ok hg (fun b hb he => h.gk b he hb) hown hat
  exact ⟨hb, hown, h1, h3, fun b hb he => h2 b he hb, fun b hb he => h4 b he hb, h.mq, hs, fun y hy => (h.tm y hy).kp hp, fun y hy => (h.tt y hy).kp hp⟩
theorem PlJ.app_m {B gP : Nat} {rt tk : Int} {xv gv mv kv : Value} {W W' : World} {g m k s : Slc CliM} (h : PlJ B gP rt tk xv gv mv kv W g m k) (hP : gP < B) (hown : W'.ownsRow B 39 7 s.v s.xs.length (s.xs.flatMap CliM.cs))
    (hg : W.grownBy W' m.v.ownBlock) (hat : ∀ b, s.v.ownBlock = some b → m.v.ownBlock = some b ∨ W.heap.size ≤ b) (hs : ∀ y ∈ s.xs, CliT W' y) : PlJ B gP rt tk xv gv mv kv W' g s k := by
  have hp : KpT 75 W W' := KpT.own h.om hg (by decide)
  have hb : Blk W' gP 50 [.int .i64 rt, .int .i64 tk, xv, gv, mv, kv] := (hg.block gP h.blk.lt (fun e => by have := (h.om.lt gP e.symm).1; omega)).trans h.blk
  obtain ⟨h1, h2⟩ := own_other h.og hg h.gm hown hat
  obtain ⟨h3, h4⟩ := own_other h.ok hg (fun b hb he => h.mq b he hb) hown hat
  exact ⟨hb, h1, hown, h3, h2, h.gk, fun b hb he => h4 b he hb, fun y hy => (h.tg y hy).kp hp, hs, fun y hy => (h.tt y hy).kp hp⟩
theorem PlJ.base {B B' gP : Nat} {rt tk : Int} {xv gv mv kv : Value} {W : World} {g m k : Slc CliM} (h : PlJ B gP rt tk xv gv mv kv W g m k) (hb : B' ≤ B) : PlJ B' gP rt tk xv gv mv kv W g m k :=
  ⟨h.blk, own_base h.og hb, own_base h.om hb, own_base h.ok hb, h.gm, h.gk, h.mq, h.tg, h.tm, h.tt⟩
theorem own_setN {B size n g : Nat} {e : TypeId} {v : Value} {xs : List Value} (hg : g < B) : ∀ (vs : List Value) (W : World) (i : Nat), W.ownsRow B e size v n xs → (setN W g i vs).ownsRow B e size v n xs
  | [], _, _, h => h
  | u :: vs, _, i, h => own_setN hg vs _ (i + 1) (own_set h (p := ⟨g, i, none⟩) hg u)
/-- a box below the rows is written -/
theorem PlJ.setN {B gP g1 : Nat} {rt tk : Int} {xv gv mv kv : Value} {W : World} {g m k : Slc CliM} {T : TypeId} {cs : List Value} (h : PlJ B gP rt tk xv gv mv kv W g m k) (hk : Blk W g1 T cs) (h1 : g1 < B) (h2 : gP ≠ g1) (h3 : T ≠ 75) (vs : List Value) : PlJ B gP rt tk xv gv mv kv (Go.Dw.setN W g1 0 vs) g m k :=
  have hp : KpT 75 W (Go.Dw.setN W g1 0 vs) := setN_kp vs hk h3 0
  ⟨(setN_heap vs W 0 gP h2).trans h.blk, own_setN h1 vs W 0 h.og, own_setN h1 vs W 0 h.om, own_setN h1 vs W 0 h.ok, h.gm, h.gk, h.mq, fun y hy => (h.tg y hy).kp hp, fun y hy => (h.tm y hy).kp hp, fun y hy => (h.tt y hy).kp hp⟩
theorem np_made {B gP : Nat} {rt tk : Int} {xv gv mv kv : Value} {W w9 : World} {g m k : Slc CliM} {ss : List CliM} {sn c9 : Nat} {A9 : Option Addr} (h : PlJ B gP rt tk xv gv mv kv W g m k) (hP : gP < B) (hcl : ∀ y ∈ ss, CliT W y) (hsn : ss.length = sn)
    (hown : w9.ownsRow B 39 7 (.slice A9 (m.xs.length + sn) c9) (m.xs.length + sn) (m.xs.flatMap CliM.cs ++ ss.flatMap CliM.cs)) (hg : W.grownBy w9 m.v.ownBlock) (hat : ∀ b, (Value.slice A9 (m.xs.length + sn) c9).ownBlock = some b → m.v.ownBlock = some b ∨ W.heap.size ≤ b) :
    PlJ B gP rt tk xv gv mv kv w9 g ⟨A9, c9, m.xs ++ ss⟩ k ∧ (⟨A9, c9, m.xs ++ ss⟩ : Slc CliM).v = .slice A9 (m.xs.length + sn) c9 := by
  have hv : (⟨A9, c9, m.xs ++ ss⟩ : Slc CliM).v = .slice A9 (m.xs.length + sn) c9 := by show Value.slice _ (m.xs ++ ss).length _ = _; rw [List.length_append, hsn]
  have hp : KpT 75 W w9 := KpT.own h.om hg (by decide)
  refine ⟨h.app_m hP ?_ hg (by rw [hv]; exact hat) (fun y hy => ?_), hv⟩
  · rw [hv]
    show w9.ownsRow _ _ _ _ (m.xs ++ ss).length ((m.xs ++ ss).flatMap CliM.cs)
    rw [List.length_append, hsn, List.flatMap_append]; exact hown
  · rcases List.mem_append.1 hy with hy | hy
    · exact (h.tm y hy).kp hp
    · exact (hcl y hy).kp hp
theorem rd_grw {w w' : World} {A : Option Addr} {vs : List Value} {row : Option Nat} (h : Rd w A vs) (hg : w.grownBy w' row) (hne : ∀ b off, A = some ⟨b, off, none⟩ → row ≠ some b) : Rd w' A vs := by
  rcases h with h | ⟨b, off, e, hb, hc⟩
  · exact .inl h
  · exact .inr ⟨b, off, e, Nat.lt_of_lt_of_le hb hg.size, fun j u hu => (hg.cell_far ⟨b, off + j, none⟩ hb (fun e2 => hne b off e e2.symm)).trans (hc j u hu)⟩
theorem rd_set {w : World} {A : Option Addr} {vs : List Value} {p : Addr} {u : Value} (h : Rd w A vs) (hne : ∀ b off, A = some ⟨b, off, none⟩ → b ≠ p.block) : Rd (w.setCell p u) A vs := by
  rcases h with h | ⟨b, off, e, hb, hc⟩
  · exact .inl h
  · refine .inr ⟨b, off, e, by simpa [World.setCell] using hb, fun j v hu => ?_⟩
    rw [← hc j v hu]
    have := Below.heap_setCell w p u b (hne b off e)
    simp only [World.cell?, this]
theorem cli_oneN (l : List CliM) : ∀ u ∈ l.flatMap CliM.cs, u.oneCell' = true := fun u hu => by
  obtain ⟨p, _, hp⟩ := List.mem_flatMap.1 hu
  simp [CliM.cs] at hp
  rcases hp with rfl | rfl | rfl | rfl | rfl | rfl | rfl <;> rfl
/-- what newPlan answers -/
def PlaR (rt tk : Int) (xv : Value) (p : Pla) (w : World) (e : Ending) (w' : World) : Prop :=
  Gq w w' ∧ ∃ (gP : Nat) (g m k : Slc CliM), e = .returned (.agg #[.int .i64 rt, .int .i64 tk, xv, g.v, m.v, k.v]) ∧ g.xs.map CliM.x = p.gone ∧ m.xs.map CliM.x = p.made ∧ k.xs.map CliM.x = p.kept ∧ PlJ w.heap.size gP rt tk xv g.v m.v k.v w' g m k
/-- what a plan's function answers of a clip -/
def CloR (o : Option (List Cli)) (W : World) (e : Ending) (W' : World) : Prop :=
  Gq W W' ∧ ((o = none ∧ e = .returned (.tuple #[.slice none 0 0, .bool false])) ∨ ∃ (l : List Cli) (s : Slc CliM), o = some l ∧ e = .returned (.tuple #[s.v, .bool true]) ∧ s.xs.map CliM.x = l ∧ s.xs.length ≤ 3 ∧ Rd W' s.a (s.xs.flatMap CliM.cs) ∧ (∀ y ∈ s.xs, CliT W' y) ∧ ∀ b off, s.a = some ⟨b, off, none⟩ → W.heap.size ≤ b)
end Go.Proofs.YteaghgbpcpileaaGreatDoor
/- Generated (gen/chg.py): edit.change's function, with deadwax/edit.Slip$1. -/
namespace Go.Proofs.YteaghgbpcpileaaGreatDoor
open Go.RowKit Go.Dw
attribute [local go_sem ↓] Go.wp_at_zero Go.wp_at_succ
attribute [local go_sem] Go.Dwo.Oper.tame

def chgSF (w0 : World) (b0 : Nat) (X Y : Cli) (fv : Value) (xm : ByteArray) (xc xf xt xa xl : Int) (EA : Option Addr) (en ed : Nat) (bf : Addr) : List Go.Dwo.Fact := [
  ⟨[], [], fun _ W => Gq w0 W ∧ b0 ≤ W.heap.size⟩,
  ⟨[], [], fun _ W => Blk W b0 39 [.string xm, .int .i64 xc, .int .i64 xf, .int .i64 xt, .int .i64 xa, .int .i64 xl, .slice EA en ed]⟩,
  ⟨[], [], fun _ W => W.cell? bf = some fv ∧ bf.block < W.heap.size⟩,
  ⟨[0], [], fun vs _ => vs 0 = fv⟩,
  ⟨[1], [], fun vs _ => vs 1 = .agg #[.string xm, .int .i64 xc, .int .i64 xf, .int .i64 xt, .int .i64 xa, .int .i64 xl, .slice EA en ed]⟩,
  ⟨[2], [], fun vs W => ∃ y : CliM, vs 2 = y.v ∧ y.x = X ∧ CliT W y⟩,
  ⟨[3], [], fun vs W => ∃ y : CliM, vs 3 = y.v ∧ y.x = Y ∧ CliT W y⟩,
  ⟨[4], [], fun vs W => ∃ (y : CliM) (b : Nat), vs 4 = .slice (some ⟨b, 0, none⟩) 1 1 ∧ Blk W b 39 y.cs ∧ y.x = Y ∧ CliT W y ∧ b0 ≤ b⟩,
  ⟨[5], [], fun vs W => ∃ (y : CliM) (b : Nat), vs 5 = .slice (some ⟨b, 0, none⟩) 1 1 ∧ Blk W b 39 y.cs ∧ y.x = Y ∧ CliT W y ∧ b0 ≤ b⟩,
  ⟨[6], [], fun vs _ => vs 6 = .bool true⟩]
theorem chgSK (w0 : World) (b0 : Nat) (X Y : Cli) (fv : Value) (xm : ByteArray) (xc xf xt xa xl : Int) (EA : Option Addr) (en ed : Nat) (bf : Addr) : ∀ f ∈ chgSF w0 b0 X Y fv xm xc xf xt xa xl EA en ed bf, ∀ vs w w', Gq w w' → f.says vs w → f.says vs w' :=
  Go.Dwo.fa_cons (fun _ _ _ hg h => ⟨h.1.trans hg, Nat.le_trans h.2 (Below.size hg)⟩) <|
  Go.Dwo.fa_cons (fun _ _ _ hg h => blkq h hg) <|
  Go.Dwo.fa_cons (fun _ _ _ hg h => ⟨(hg.cell h.2).trans h.1, Nat.lt_of_lt_of_le h.2 (Below.size hg)⟩) <|
  Go.Dwo.fa_cons (fun _ _ _ _ h => h) <|
  Go.Dwo.fa_cons (fun _ _ _ _ h => h) <|
  Go.Dwo.fa_cons (fun _ _ _ hg h => (by obtain ⟨y, h1, h2, h3⟩ := h; exact ⟨y, h1, h2, h3.gq hg⟩)) <|
  Go.Dwo.fa_cons (fun _ _ _ hg h => (by obtain ⟨y, h1, h2, h3⟩ := h; exact ⟨y, h1, h2, h3.gq hg⟩)) <|
  Go.Dwo.fa_cons (fun _ _ _ hg h => (by obtain ⟨y, b, h1, h2, h3, h4, h5⟩ := h; exact ⟨y, b, h1, blkq h2 hg, h3, h4.gq hg, h5⟩)) <|
  Go.Dwo.fa_cons (fun _ _ _ hg h => (by obtain ⟨y, b, h1, h2, h3, h4, h5⟩ := h; exact ⟨y, b, h1, blkq h2 hg, h3, h4.gq hg, h5⟩)) <|
  Go.Dwo.fa_cons (fun _ _ _ _ h => h) <|
  Go.Dwo.fa_nil _
set_option maxRecDepth 100000 in
set_option maxHeartbeats 16000000 in
theorem chgS_any (G : Cli → Cli) (i n : Int) (c : CliM) (bn bf p1 : Addr) (w0 : World) (hc : CliOk w0 c) (hl : c.e.xs.length ≤ 1000000000) (hn : w0.cell? bn = some (.int .i64 n)) (hnb : bn.block < w0.heap.size) (hf : w0.cell? bf = some (Value.func (.func 11) #[] #[.pointer (some p1)])) (hfb : bf.block < w0.heap.size)
    (hF : ∀ (y : CliM) (W : World), Gq w0 W → CliT W y → y.x = c.x → Calls Tryz.prog 11 #[y.v, .pointer (some p1)] W fun e w' => ∃ z : CliM, e = .returned z.v ∧ z.x = G y.x ∧ CliT w' z ∧ Gq W w') :
    Calls Tryz.prog 22 #[.int .i64 i, c.v, .pointer (some bn), .pointer (some bf)] w0 (CloR (if i = n then some [G c.x] else none) w0) := by
  obtain ⟨X, hX⟩ : ∃ X, c.x = X := ⟨_, rfl⟩
  obtain ⟨Y, hY⟩ : ∃ Y, G X = Y := ⟨_, rfl⟩
  have HOW : Hid (∀ W, Gq w0 W → Calls Tryz.prog 23 #[c.v] W fun e w' => ∃ y : CliM, e = .returned y.v ∧ y.x = X ∧ CliT w' y ∧ Gq W w') := fun W hW => by
    have := own_any c W (hc.below hW) hl
    rw [hX] at this
    exact this
  have HIN : Hid (∀ (y : CliM) (W : World), Gq w0 W → y.x = X → CliT W y → Calls Tryz.prog 11 #[y.v, .pointer (some p1)] W fun e w' => ∃ z : CliM, e = .returned z.v ∧ z.x = Y ∧ CliT w' z ∧ Gq W w') := fun y W h1 h2 h3 => by
    have := hF y W h1 h3 (by rw [h2, hX])
    rw [h2, hY] at this
    exact this
  obtain ⟨fv, hfv⟩ : ∃ fv, Value.func (.func 11) #[] #[.pointer (some p1)] = fv := ⟨_, rfl⟩
  have HFE : Hid (fv = Value.func (.func 11) #[] #[.pointer (some p1)]) := hfv.symm
  rw [hfv] at hf
  obtain ⟨q, hq⟩ : ∃ q, (if i = n then some [Y] else none) = q := ⟨_, rfl⟩
  have HQ0 : Hid (i ≠ n → q = none) := fun h => by rw [← hq, if_neg h]
  have HQ1 : Hid (i = n → q = some [Y]) := fun h => by rw [← hq, if_pos h]
  rw [hX, hY, hq]
  clear hq
  clear hF hc hl hX hY hfv
  obtain ⟨xm, xc, xf, xt, xa, xl, ⟨EA, ed, es⟩⟩ := c
  simp only [CliM.v, Slc.v] at HOW ⊢
  obtain ⟨en, hen⟩ : ∃ en : Nat, es.length = en := ⟨_, rfl⟩
  rw [hen] at HOW ⊢
  clear hen
  obtain ⟨b0, hb0⟩ : ∃ b, w0.heap.size = b := ⟨_, rfl⟩
  obtain ⟨wz, hwz⟩ : ∃ wz, wz = w0.alloc (.cells #[.string xm, .int .i64 xc, .int .i64 xf, .int .i64 xt, .int .i64 xa, .int .i64 xl, .slice EA en ed] 39) := ⟨_, rfl⟩
  have HKC : Hid (Blk wz b0 39 [.string xm, .int .i64 xc, .int .i64 xf, .int .i64 xt, .int .i64 xa, .int .i64 xl, .slice EA en ed]) := by rw [hwz, ← hb0]; exact Blk.new w0 _ _
  have HG : Hid (Gq w0 wz) := by rw [hwz]; exact (Gq.refl _).alloc _
  have HB0 : Hid (w0.heap.size ≤ b0) := by show _ ≤ _; omega
  have hn2 : wz.cell? bn = some (.int .i64 n) := (HG.out.cell hnb).trans hn
  have HBF0 : Hid (wz.cell? bf = some fv ∧ bf.block < wz.heap.size) := ⟨(HG.out.cell hfb).trans hf, Nat.lt_of_lt_of_le hfb (Below.size HG.out)⟩
  have HWZ := Lib.hid hwz
  have HZ : Hid (b0 + 1 ≤ wz.heap.size) := by rw [hwz, ← hb0]; show _ ≤ _; simp
  clear hwz hn hnb hf hfb
  go_enter Tryz.func22, Tryz.ntmps22
  go_upto_region 1 with (fail)
  rw [← HWZ.out]
  try simp only [hb0]
  by_cases hin : i = n
  case neg =>
    have hq := HQ0.out hin
    have hd : (i != n) = true := by simpa using hin
    have HFIN : Hid (CloR q w0 (.returned (.tuple #[.slice none 0 0, .bool false])) wz) := ⟨HG.out, .inl ⟨hq, rfl⟩⟩
    clear hb0 hin hq
    go_wp2_with fail
    exact bodyPost_ret (v := .tuple #[.slice none 0 0, .bool false]) (by simp [results, Tryz.results22, go_sem]) rfl HFIN.out
  have HQ : Hid (q = some [Y]) := HQ1.out hin
  have hd : (i != n) = false := by simpa using hin
  have HBASE : Hid (Gq w0 wz.drew ∧ b0 ≤ wz.drew.heap.size) := ⟨HG.out.drew, by have := HZ.out; show _ ≤ wz.heap.size; omega⟩
  have HBC : Hid (Blk wz.drew b0 39 [.string xm, .int .i64 xc, .int .i64 xf, .int .i64 xt, .int .i64 xa, .int .i64 xl, .slice EA en ed]) := blkq HKC.out (Gq.refl _).drew
  have HBF : Hid (wz.drew.cell? bf = some fv ∧ bf.block < wz.drew.heap.size) := HBF0.out
  clear hb0 hin
  go_upto_region 3 with (fail)
  refine Go.Dwo.wp_region_factsK _ (by kernel_rfl) [[], [], [1], [0, 1, 2], [0, 1, 2, 3], [0, 1, 2, 3, 4], []] (by kernel_rfl) (by kernel_rfl) [some 11, some 12, some 13, some 14, some 15, some 6, some 7] (by kernel_rfl) (fun vs => by simp only [Go.Dwo.putA, Go.Dwo.putL, if_true, Act.put, List.setIfInBounds_toArray, List.set_cons_zero, List.set_cons_succ]; rfl) (chgSF w0 b0 X Y fv xm xc xf xt xa xl EA en ed bf) (by kernel_rfl) ?_ ⟨?_, ?_, ?_, ?_, ?_, ?_, ?_, trivial⟩ ?_
  · exact Go.Dwo.fa_zero [0, 1, 2] (by kernel_rfl) <| Go.Dwo.fa_cons (HBASE.out) <| Go.Dwo.fa_cons (HBC.out) <| Go.Dwo.fa_cons (HBF.out) <| Go.Dwo.fa_nil _
  · -- 0: Op.load 40 t3
    intro Ls vs w Kk H hu hD hK
    replace hu : ∀ k ∈ ([] : List Nat), Ls k = true := hu
    replace hD : ∀ k ∈ ([0, 3, 4, 5] : List Nat), Ls k = false := Go.Dwo.fa_cons (hD 0 (.inl rfl)) <| Go.Dwo.fa_cons (hD 3 (.inr (by decide))) <| Go.Dwo.fa_cons (hD 4 (.inr (by decide))) <| Go.Dwo.fa_cons (hD 5 (.inr (by decide))) <| Go.Dwo.fa_nil _
    simp only [Go.Dwo.actOf, List.getD_cons_zero]
    have qbase : Gq w0 w ∧ b0 ≤ w.heap.size := H.up hu hD 0 rfl rfl rfl
    obtain ⟨h0, hz⟩ := qbase
    have bc : Blk w b0 39 [.string xm, .int .i64 xc, .int .i64 xf, .int .i64 xt, .int .i64 xa, .int .i64 xl, .slice EA en ed] := H.up hu hD 1 rfl rfl rfl
    have qbf : w.cell? bf = some fv ∧ bf.block < w.heap.size := H.up hu hD 2 rfl rfl rfl
    obtain ⟨cf, lf⟩ := qbf
    have hKK := Lib.hid hK
    clear hK H hu hD
    go_simp
    refine hKK.out _ _ (fun f _ _ _ _ h => h) ?_
    exact Go.Dwo.fa_pick [3] (by kernel_rfl) <| Go.Dwo.fa_cons (fun _ => rfl) <| Go.Dwo.fa_nil _
  · -- 1: Op.load 39 t5
    intro Ls vs w Kk H hu hD hK
    replace hu : ∀ k ∈ ([] : List Nat), Ls k = true := hu
    replace hD : ∀ k ∈ ([1, 2, 3, 4, 5] : List Nat), Ls k = false := Go.Dwo.fa_cons (hD 1 (.inl rfl)) <| Go.Dwo.fa_cons (hD 2 (.inr (by decide))) <| Go.Dwo.fa_cons (hD 3 (.inr (by decide))) <| Go.Dwo.fa_cons (hD 4 (.inr (by decide))) <| Go.Dwo.fa_cons (hD 5 (.inr (by decide))) <| Go.Dwo.fa_nil _
    simp only [Go.Dwo.actOf, List.getD_cons_succ, List.getD_cons_zero]
    have qbase : Gq w0 w ∧ b0 ≤ w.heap.size := H.up hu hD 0 rfl rfl rfl
    obtain ⟨h0, hz⟩ := qbase
    have bc : Blk w b0 39 [.string xm, .int .i64 xc, .int .i64 xf, .int .i64 xt, .int .i64 xa, .int .i64 xl, .slice EA en ed] := H.up hu hD 1 rfl rfl rfl
    have qbf : w.cell? bf = some fv ∧ bf.block < w.heap.size := H.up hu hD 2 rfl rfl rfl
    obtain ⟨cf, lf⟩ := qbf
    have d0 : w.cell? ⟨b0, 0, none⟩ = _ := bc.cell 0
    have d1 : w.cell? ⟨b0, 1, none⟩ = _ := bc.cell 1
    have d2 : w.cell? ⟨b0, 2, none⟩ = _ := bc.cell 2
    have d3 : w.cell? ⟨b0, 3, none⟩ = _ := bc.cell 3
    have d4 : w.cell? ⟨b0, 4, none⟩ = _ := bc.cell 4
    have d5 : w.cell? ⟨b0, 5, none⟩ = _ := bc.cell 5
    have d6 : w.cell? ⟨b0, 6, none⟩ = _ := bc.cell 6
    simp only [List.getElem?_cons_zero, List.getElem?_cons_succ] at d0 d1 d2 d3 d4 d5 d6
    have hKK := Lib.hid hK
    clear hK H hu hD
    go_simp
    refine hKK.out _ _ (fun f _ _ _ _ h => h) ?_
    exact Go.Dwo.fa_pick [4] (by kernel_rfl) <| Go.Dwo.fa_cons (fun _ => rfl) <| Go.Dwo.fa_nil _
  · -- 2: Op.call { value (Operand.func 23), args := #[t12], argTypes := #[39] }
    intro Ls vs w Kk H hu hD hK
    replace hu : ∀ k ∈ ([1] : List Nat), Ls k = true := hu
    replace hD : ∀ k ∈ ([2, 3, 4, 5] : List Nat), Ls k = false := Go.Dwo.fa_cons (hD 2 (.inl rfl)) <| Go.Dwo.fa_cons (hD 3 (.inr (by decide))) <| Go.Dwo.fa_cons (hD 4 (.inr (by decide))) <| Go.Dwo.fa_cons (hD 5 (.inr (by decide))) <| Go.Dwo.fa_nil _
    simp only [Go.Dwo.actOf, List.getD_cons_succ, List.getD_cons_zero]
    have qbase : Gq w0 w ∧ b0 ≤ w.heap.size := H.up hu hD 0 rfl rfl rfl
    obtain ⟨h0, hz⟩ := qbase
    have bc : Blk w b0 39 [.string xm, .int .i64 xc, .int .i64 xf, .int .i64 xt, .int .i64 xa, .int .i64 xl, .slice EA en ed] := H.up hu hD 1 rfl rfl rfl
    have qbf : w.cell? bf = some fv ∧ bf.block < w.heap.size := H.up hu hD 2 rfl rfl rfl
    obtain ⟨cf, lf⟩ := qbf
    have f1 : vs 1 = .agg #[.string xm, .int .i64 xc, .int .i64 xf, .int .i64 xt, .int .i64 xa, .int .i64 xl, .slice EA en ed] := H.up hu hD 4 rfl rfl rfl
    have hKK := Lib.hid hK
    clear hK H hu hD
    go_simp
    refine (HOW.out w h0).mono ?_
    rintro e w' ⟨y, rfl, hyx, hyt, hb⟩
    refine ⟨_, rfl, hKK.out _ _ (fun f hf _ _ _ h => chgSK w0 b0 X Y fv xm xc xf xt xa xl EA en ed bf f hf _ _ _ hb h) ?_⟩
    exact Go.Dwo.fa_pick [5] (by kernel_rfl) <| Go.Dwo.fa_cons (fun _ => ⟨y, rfl, hyx, hyt⟩) <| Go.Dwo.fa_nil _
  · -- 3: Op.call { value t11, args := #[t13], argTypes := #[39] }
    intro Ls vs w Kk H hu hD hK
    replace hu : ∀ k ∈ ([0, 1, 2] : List Nat), Ls k = true := hu
    replace hD : ∀ k ∈ ([3, 4, 5] : List Nat), Ls k = false := Go.Dwo.fa_cons (hD 3 (.inl rfl)) <| Go.Dwo.fa_cons (hD 4 (.inr (by decide))) <| Go.Dwo.fa_cons (hD 5 (.inr (by decide))) <| Go.Dwo.fa_nil _
    simp only [Go.Dwo.actOf, List.getD_cons_succ, List.getD_cons_zero]
    have qbase : Gq w0 w ∧ b0 ≤ w.heap.size := H.up hu hD 0 rfl rfl rfl
    obtain ⟨h0, hz⟩ := qbase
    have bc : Blk w b0 39 [.string xm, .int .i64 xc, .int .i64 xf, .int .i64 xt, .int .i64 xa, .int .i64 xl, .slice EA en ed] := H.up hu hD 1 rfl rfl rfl
    have qbf : w.cell? bf = some fv ∧ bf.block < w.heap.size := H.up hu hD 2 rfl rfl rfl
    obtain ⟨cf, lf⟩ := qbf
    have f0 : vs 0 = fv := H.up hu hD 3 rfl rfl rfl
    have qn2 : ∃ y : CliM, vs 2 = y.v ∧ y.x = X ∧ CliT w y := H.up hu hD 5 rfl rfl rfl
    obtain ⟨⟨ym, yc, yf, yt, ya, yl, ⟨YA, yd, yes⟩⟩, e2, x2, t2⟩ := qn2
    have HCA := Lib.hid (HIN.out ⟨ym, yc, yf, yt, ya, yl, ⟨YA, yd, yes⟩⟩ w h0 x2 t2)
    have HFV := HFE.out
    rw [HFV] at f0
    simp only [CliM.v, Slc.v] at e2 HCA
    have hKK := Lib.hid hK
    clear hK H hu hD
    go_simp
    refine (HCA.out).mono ?_
    rintro e w' ⟨y, rfl, hyx, hyt, hb⟩
    refine ⟨_, rfl, hKK.out _ _ (fun f hf _ _ _ h => chgSK w0 b0 X Y fv xm xc xf xt xa xl EA en ed bf f hf _ _ _ hb h) ?_⟩
    exact Go.Dwo.fa_pick [6] (by kernel_rfl) <| Go.Dwo.fa_cons (fun _ => ⟨y, rfl, hyx, hyt⟩) <| Go.Dwo.fa_nil _
  · -- 4: Op.buildSlice 22 1 #[(0, t14)]
    intro Ls vs w Kk H hu hD hK
    replace hu : ∀ k ∈ ([0, 1, 2, 3] : List Nat), Ls k = true := hu
    replace hD : ∀ k ∈ ([4, 5] : List Nat), Ls k = false := Go.Dwo.fa_cons (hD 4 (.inl rfl)) <| Go.Dwo.fa_cons (hD 5 (.inr (by decide))) <| Go.Dwo.fa_nil _
    simp only [Go.Dwo.actOf, List.getD_cons_succ, List.getD_cons_zero]
    have qbase : Gq w0 w ∧ b0 ≤ w.heap.size := H.up hu hD 0 rfl rfl rfl
    obtain ⟨h0, hz⟩ := qbase
    have bc : Blk w b0 39 [.string xm, .int .i64 xc, .int .i64 xf, .int .i64 xt, .int .i64 xa, .int .i64 xl, .slice EA en ed] := H.up hu hD 1 rfl rfl rfl
    have qbf : w.cell? bf = some fv ∧ bf.block < w.heap.size := H.up hu hD 2 rfl rfl rfl
    obtain ⟨cf, lf⟩ := qbf
    have qn3 : ∃ y : CliM, vs 3 = y.v ∧ y.x = Y ∧ CliT w y := H.up hu hD 6 rfl rfl rfl
    obtain ⟨⟨zm, zc, zf, zt, za, zl, ⟨ZA, zd, zes⟩⟩, e3, x3, t3⟩ := qn3
    simp only [CliM.v, Slc.v] at e3
    have hKK := Lib.hid hK
    clear hK H hu hD
    go_simp
    refine hKK.out _ _ (fun f hf _ _ _ h => chgSK w0 b0 X Y fv xm xc xf xt xa xl EA en ed bf f hf _ _ _ (Gq.alloc (Gq.refl _) _) h) ?_
    exact Go.Dwo.fa_pick [7] (by kernel_rfl) <| Go.Dwo.fa_cons (fun _ => ⟨⟨zm, zc, zf, zt, za, zl, ⟨ZA, zd, zes⟩⟩, _, rfl, Blk.new w 39 [.string zm, .int .i64 zc, .int .i64 zf, .int .i64 zt, .int .i64 za, .int .i64 zl, .slice ZA zes.length zd], x3, t3.gq (Gq.alloc (Gq.refl _) _), hz⟩) <| Go.Dwo.fa_nil _
  · -- 5: Op.assign t15
    intro Ls vs w Kk H hu hD hK
    replace hu : ∀ k ∈ ([0, 1, 2, 3, 4] : List Nat), Ls k = true := hu
    replace hD : ∀ k ∈ ([5] : List Nat), Ls k = false := Go.Dwo.fa_cons (hD 5 (.inl rfl)) <| Go.Dwo.fa_nil _
    simp only [Go.Dwo.actOf, List.getD_cons_succ, List.getD_cons_zero]
    have qbase : Gq w0 w ∧ b0 ≤ w.heap.size := H.up hu hD 0 rfl rfl rfl
    obtain ⟨h0, hz⟩ := qbase
    have bc : Blk w b0 39 [.string xm, .int .i64 xc, .int .i64 xf, .int .i64 xt, .int .i64 xa, .int .i64 xl, .slice EA en ed] := H.up hu hD 1 rfl rfl rfl
    have qbf : w.cell? bf = some fv ∧ bf.block < w.heap.size := H.up hu hD 2 rfl rfl rfl
    obtain ⟨cf, lf⟩ := qbf
    have qn4 : ∃ (y : CliM) (b : Nat), vs 4 = .slice (some ⟨b, 0, none⟩) 1 1 ∧ Blk w b 39 y.cs ∧ y.x = Y ∧ CliT w y ∧ b0 ≤ b := H.up hu hD 7 rfl rfl rfl
    obtain ⟨y4, b4, e4, k4, x4, t4, l4⟩ := qn4
    have hKK := Lib.hid hK
    clear hK H hu hD
    go_simp
    refine hKK.out _ _ (fun f _ _ _ _ h => h) ?_
    exact Go.Dwo.fa_pick [8] (by kernel_rfl) <| Go.Dwo.fa_cons (fun _ => ⟨y4, b4, rfl, k4, x4, t4, l4⟩) <| Go.Dwo.fa_nil _
  · -- 6: Op.assign (const (Value.bool true))
    intro Ls vs w Kk H hu hD hK
    replace hu : ∀ k ∈ ([] : List Nat), Ls k = true := hu
    replace hD : ∀ k ∈ ([6] : List Nat), Ls k = false := Go.Dwo.fa_cons (hD 6 (.inl rfl)) <| Go.Dwo.fa_nil _
    simp only [Go.Dwo.actOf, List.getD_cons_succ, List.getD_cons_zero]
    have qbase : Gq w0 w ∧ b0 ≤ w.heap.size := H.up hu hD 0 rfl rfl rfl
    obtain ⟨h0, hz⟩ := qbase
    have bc : Blk w b0 39 [.string xm, .int .i64 xc, .int .i64 xf, .int .i64 xt, .int .i64 xa, .int .i64 xl, .slice EA en ed] := H.up hu hD 1 rfl rfl rfl
    have qbf : w.cell? bf = some fv ∧ bf.block < w.heap.size := H.up hu hD 2 rfl rfl rfl
    obtain ⟨cf, lf⟩ := qbf
    have hKK := Lib.hid hK
    clear hK H hu hD
    go_simp
    refine hKK.out _ _ (fun f _ _ _ _ h => h) ?_
    exact Go.Dwo.fa_pick [9] (by kernel_rfl) <| Go.Dwo.fa_cons (fun _ => rfl) <| Go.Dwo.fa_nil _
  · intro vs w H
    have qbase : Gq w0 w ∧ b0 ≤ w.heap.size := Go.Dwo.fa_at H 0 rfl rfl
    obtain ⟨h0, hz⟩ := qbase
    have bc : Blk w b0 39 [.string xm, .int .i64 xc, .int .i64 xf, .int .i64 xt, .int .i64 xa, .int .i64 xl, .slice EA en ed] := Go.Dwo.fa_at H 1 rfl rfl
    have qbf : w.cell? bf = some fv ∧ bf.block < w.heap.size := Go.Dwo.fa_at H 2 rfl rfl
    obtain ⟨cf, lf⟩ := qbf
    have f0 : vs 0 = fv := Go.Dwo.fa_at H 3 rfl rfl
    have f1 : vs 1 = .agg #[.string xm, .int .i64 xc, .int .i64 xf, .int .i64 xt, .int .i64 xa, .int .i64 xl, .slice EA en ed] := Go.Dwo.fa_at H 4 rfl rfl
    have qn2 : ∃ y : CliM, vs 2 = y.v ∧ y.x = X ∧ CliT w y := Go.Dwo.fa_at H 5 rfl rfl
    obtain ⟨⟨ym, yc, yf, yt, ya, yl, ⟨YA, yd, yes⟩⟩, e2, x2, t2⟩ := qn2
    have qn3 : ∃ y : CliM, vs 3 = y.v ∧ y.x = Y ∧ CliT w y := Go.Dwo.fa_at H 6 rfl rfl
    obtain ⟨⟨zm, zc, zf, zt, za, zl, ⟨ZA, zd, zes⟩⟩, e3, x3, t3⟩ := qn3
    have qn4 : ∃ (y : CliM) (b : Nat), vs 4 = .slice (some ⟨b, 0, none⟩) 1 1 ∧ Blk w b 39 y.cs ∧ y.x = Y ∧ CliT w y ∧ b0 ≤ b := Go.Dwo.fa_at H 7 rfl rfl
    obtain ⟨y4, b4, e4, k4, x4, t4, l4⟩ := qn4
    have qn5 : ∃ (y : CliM) (b : Nat), vs 5 = .slice (some ⟨b, 0, none⟩) 1 1 ∧ Blk w b 39 y.cs ∧ y.x = Y ∧ CliT w y ∧ b0 ≤ b := Go.Dwo.fa_at H 8 rfl rfl
    obtain ⟨y5, b5, e5, k5, x5, t5, l5⟩ := qn5
    have f6 : vs 6 = .bool true := Go.Dwo.fa_at H 9 rfl rfl
    clear H
    simp only [Nat.zero_add, Nat.reduceAdd]
    have HFIN : Hid (CloR q w0 (.returned (.tuple #[.slice (some ⟨b5, 0, none⟩) 1 1, .bool true])) w) := by
      refine ⟨h0, .inr ⟨[Y], ⟨some ⟨b5, 0, none⟩, 1, [y5]⟩, HQ.out, rfl, by rw [← x5]; rfl, by show 1 ≤ 3; omega, ?_, fun y hy => by rw [List.mem_singleton.1 hy]; exact t5, fun b off e => ?_⟩⟩
      · refine .inr ⟨b5, 0, rfl, k5.lt, fun j u hu => ?_⟩
        have h1 := k5.cell j
        rw [Nat.zero_add, h1]
        simpa using hu
      · have e2 : (some (⟨b5, 0, none⟩ : Addr)) = some ⟨b, off, none⟩ := e
        injection e2 with e2
        injection e2 with e2 _
        have := HB0.out
        omega
    simp only [e5, f6]
    clear f0 f1 e5 f6 h0 k5 t5 x5
    go_wp2_with fail
    exact bodyPost_ret (v := .tuple #[.slice (some ⟨b5, 0, none⟩) 1 1, .bool true]) (by simp [results, Tryz.results22, go_sem]) rfl HFIN.out
end Go.Proofs.YteaghgbpcpileaaGreatDoor
/- One clip of an edit changed; plain Lean. -/
namespace Go.Dw

/-- the clip at the place n becomes G of it -/
def chgD (n : Int) (G : Cli → Cli) (i : Nat) (c : Cli) : Option (List Cli) := if (i : Int) = n then some [G c] else none
theorem chg_out (n : Int) (G : Cli → Cli) : ∀ (cs : List Cli) (i : Nat), (outL (chgD n G) cs i).length = cs.length ∧ ∀ y ∈ outL (chgD n G) cs i, ∃ c ∈ cs, y = c ∨ y = G c
  | [], _ => ⟨rfl, fun y hy => by simp [outL] at hy⟩
  | c :: cs, i => by
    obtain ⟨h1, h2⟩ := chg_out n G cs (i + 1)
    have h3 : ∃ z, (chgD n G i c).getD [c] = [z] ∧ (z = c ∨ z = G c) := by
      unfold chgD
      split
      · exact ⟨G c, rfl, .inr rfl⟩
      · exact ⟨c, rfl, .inl rfl⟩
    obtain ⟨z, h4, h5⟩ := h3
    rw [outL, h4]
    refine ⟨by simp [h1], fun y hy => ?_⟩
    rcases List.mem_append.1 hy with hy | hy
    · rw [List.mem_singleton.1 hy]; exact ⟨c, List.mem_cons_self, h5⟩
    · obtain ⟨d, hd, e⟩ := h2 y hy
      exact ⟨d, List.mem_cons_of_mem _ hd, e⟩
theorem chg_plan {cs : List Cli} {G : Cli → Cli} (n : Int) (hG : ∀ c, (G c).e = c.e) (hl : cs.length ≤ 300) (he : ∀ c ∈ cs, c.e.length ≤ 1000000) :
    (plaF (chgD n G) cs).gone.length ≤ 300 ∧ (plaF (chgD n G) cs).made.length ≤ 300 ∧ (plaF (chgD n G) cs).kept.length ≤ 300 ∧ (∀ y ∈ (plaF (chgD n G) cs).gone, y.e.length ≤ 1000000) ∧ ∀ y ∈ (plaF (chgD n G) cs).made, y.e.length ≤ 1000000 := by
  obtain ⟨h1, h2⟩ := plaF_perm (chgD n G) cs
  obtain ⟨h3, h4⟩ := chg_out n G cs 0
  have l1 := h1.length_eq
  have l2 := h2.length_eq
  rw [List.length_append] at l1 l2
  refine ⟨by omega, by omega, by omega, fun y hy => he y (h1.subset (List.mem_append_right _ hy)), fun y hy => ?_⟩
  obtain ⟨c, hc, e⟩ := h4 y (h2.subset (List.mem_append_right _ hy))
  rcases e with rfl | rfl
  · exact he y hc
  · rw [hG]; exact he c hc
end Go.Dw
/- edit.Slip's function: a clip that starts elsewhere in its medium. -/
namespace Go.Proofs.YteaghgbpcpileaaGreatDoor
open Go.RowKit Go.Dw
attribute [local go_sem ↓] Go.wp_at_zero Go.wp_at_succ

def slpC (n : Int) (c : Cli) : Cli := ⟨c.m, c.ch, c.fr + n, c.tr, c.at_, c.ln, c.e⟩
set_option maxRecDepth 100000 in
set_option maxHeartbeats 8000000 in
theorem slip1_any (c : CliM) (n : Int) (p : Addr) (w : World) (h : CliT w c) (hp : w.cell? p = some (.int .i64 n)) (hpb : p.block < w.heap.size) (hr : inI64 (c.fr + n)) :
    Calls Tryz.prog 11 #[c.v, .pointer (some p)] w fun e w' => ∃ z : CliM, e = .returned z.v ∧ z.x = slpC n c.x ∧ CliT w' z ∧ Gq w w' := by
  obtain ⟨xm, xc, xf, xt, xa, xl, ⟨A, d, es⟩⟩ := c
  have HOK := Lib.hid h
  simp only at hr
  have HR : Hid (inI64 (xf + n)) := hr
  simp only [CliM.v, Slc.v]
  obtain ⟨k, hk⟩ : ∃ n, es.length = n := ⟨_, rfl⟩
  have HN := Lib.hid hk
  rw [hk]
  clear h hk hr
  obtain ⟨b0, hb0⟩ : ∃ b, w.heap.size = b := ⟨_, rfl⟩
  obtain ⟨s, hs⟩ : ∃ s, xf + n = s := ⟨_, rfl⟩
  have hsw : IntKind.i64.wrap (xf + n) = s := by rw [← hs]; have := HR.out; unfold inI64 at this; exact IntWalk.i64_in _ (by omega)
  have HS := Lib.hid hs
  clear hs
  obtain ⟨wa, hwa⟩ : ∃ wa, wa = w.alloc (.cells #[.string xm, .int .i64 xc, .int .i64 xf, .int .i64 xt, .int .i64 xa, .int .i64 xl, .slice A k d] 39) := ⟨_, rfl⟩
  obtain ⟨wb, hwb⟩ : ∃ wb, wb = wa.alloc (.cells #[.string ⟨#[]⟩, .int .i64 0, .int .i64 0, .int .i64 0, .int .i64 0, .int .i64 0, .slice none 0 0] 39) := ⟨_, rfl⟩
  have hz : wa.heap.size = b0 + 1 := by rw [hwa]; simp; omega
  have HGA : Hid (Gq w wa) := by rw [hwa]; exact (Gq.refl _).alloc _
  have HGB : Hid (Gq wa wb) := by rw [hwb]; exact (Gq.refl _).alloc _
  have HKA : Hid (Blk wb b0 39 [.string xm, .int .i64 xc, .int .i64 xf, .int .i64 xt, .int .i64 xa, .int .i64 xl, .slice A k d]) := by
    refine blkq (?_ : Blk wa b0 _ _) HGB.out; rw [hwa, ← hb0]; exact Blk.new w _ _
  have HKB : Hid (Blk wb (b0 + 1) 39 [.string ⟨#[]⟩, .int .i64 0, .int .i64 0, .int .i64 0, .int .i64 0, .int .i64 0, .slice none 0 0]) := by rw [hwb, ← hz]; exact Blk.new wa _ _
  have k2 : wb.cell? ⟨b0, 2, none⟩ = some (.int .i64 xf) := HKA.out.cell 2
  have f2 := HKA.out.frozen 2
  have p0 : wb.cell? p = some (.int .i64 n) := ((HGA.out.trans HGB.out).cell hpb).trans hp
  have hk3 := HKA.out.set_ 2 (.int .i64 s)
  have hb3 : Blk (wb.setCell ⟨b0, 2, none⟩ (.int .i64 s)) (b0 + 1) 39 [.string ⟨#[]⟩, .int .i64 0, .int .i64 0, .int .i64 0, .int .i64 0, .int .i64 0, .slice none 0 0] :=
    (Below.heap_setCell wb ⟨b0, 2, none⟩ (.int .i64 s) _ (by show b0 + 1 ≠ b0; omega)).trans HKB.out
  obtain ⟨w3, hw3⟩ : ∃ w3, w3 = wb.setCell ⟨b0, 2, none⟩ (.int .i64 s) := ⟨_, rfl⟩
  rw [← hw3] at hk3 hb3
  have HW3 := Lib.hid hw3
  have HK3 : Hid (Blk w3 b0 39 [.string xm, .int .i64 xc, .int .i64 s, .int .i64 xt, .int .i64 xa, .int .i64 xl, .slice A k d]) := hk3
  have HB3 := Lib.hid hb3
  rw [hwa] at hwb
  have HWB := Lib.hid hwb
  have HB0 := Lib.hid hb0
  clear hwa hwb hk3 hb3 hw3 hp hpb hz
  go_enter Tryz.func11, Tryz.ntmps11
  go_upto_region 1 with (fail)
  rw [← HWB.out]
  try simp only [hb0]
  clear hb0
  go_upto_region 2 with (fail)
  rw [← HW3.out]
  have d0 : w3.cell? ⟨b0, 0, none⟩ = some (.string xm) := HK3.out.cell 0
  have d1 : w3.cell? ⟨b0, 1, none⟩ = some (.int .i64 xc) := HK3.out.cell 1
  have d2 : w3.cell? ⟨b0, 2, none⟩ = some (.int .i64 s) := HK3.out.cell 2
  have d3 : w3.cell? ⟨b0, 3, none⟩ = some (.int .i64 xt) := HK3.out.cell 3
  have d4 : w3.cell? ⟨b0, 4, none⟩ = some (.int .i64 xa) := HK3.out.cell 4
  have d5 : w3.cell? ⟨b0, 5, none⟩ = some (.int .i64 xl) := HK3.out.cell 5
  have d6 : w3.cell? ⟨b0, 6, none⟩ = some (.slice A k d) := HK3.out.cell 6
  have g0 := HB3.out.frozen 0
  have g1 := HB3.out.frozen 1
  have g2 := HB3.out.frozen 2
  have g3 := HB3.out.frozen 3
  have g4 := HB3.out.frozen 4
  have g5 := HB3.out.frozen 5
  have g6 := HB3.out.frozen 6
  have e0 : w3.cell? ⟨b0 + 1, 0, none⟩ = some (.string ⟨#[]⟩) := HB3.out.cell 0
  have e1 : w3.cell? ⟨b0 + 1, 1, none⟩ = some (.int .i64 0) := HB3.out.cell 1
  have e2 : w3.cell? ⟨b0 + 1, 2, none⟩ = some (.int .i64 0) := HB3.out.cell 2
  have e3 : w3.cell? ⟨b0 + 1, 3, none⟩ = some (.int .i64 0) := HB3.out.cell 3
  have e4 : w3.cell? ⟨b0 + 1, 4, none⟩ = some (.int .i64 0) := HB3.out.cell 4
  have e5 : w3.cell? ⟨b0 + 1, 5, none⟩ = some (.int .i64 0) := HB3.out.cell 5
  have e6 : w3.cell? ⟨b0 + 1, 6, none⟩ = some (.slice none 0 0) := HB3.out.cell 6
  go_wp2_with fail
  have HB4 : Hid (Blk (setN w3 (b0 + 1) 0 [.string xm, .int .i64 xc, .int .i64 s, .int .i64 xt, .int .i64 xa, .int .i64 xl, .slice A k d]) (b0 + 1) 39 [.string xm, .int .i64 xc, .int .i64 s, .int .i64 xt, .int .i64 xa, .int .i64 xl, .slice A k d]) := setN_blk _ HB3.out rfl
  have HG4 : Hid (Gq w (setN w3 (b0 + 1) 0 [.string xm, .int .i64 xc, .int .i64 s, .int .i64 xt, .int .i64 xa, .int .i64 xl, .slice A k d])) := by
    refine setN_below (by have := HB0.out; omega) _ _ _ ?_
    rw [HW3.out]
    exact (HGA.out.trans HGB.out).set (p := ⟨b0, 2, none⟩) (by have := HB0.out; show _ ≤ b0; omega) _
  have HT4 : Hid (CliT (setN w3 (b0 + 1) 0 [.string xm, .int .i64 xc, .int .i64 s, .int .i64 xt, .int .i64 xa, .int .i64 xl, .slice A k d]) ⟨xm, xc, s, xt, xa, xl, ⟨A, d, es⟩⟩) := by
    have k1 : KpT 75 wb w3 := by
      rw [HW3.out]
      exact (KpT.refl _ _).setCell ⟨_, _, HKA.out⟩ (by decide)
    have k2 : KpT 75 w3 (setN w3 (b0 + 1) 0 [.string xm, .int .i64 xc, .int .i64 s, .int .i64 xt, .int .i64 xa, .int .i64 xl, .slice A k d]) := setN_kp _ HB3.out (by decide) 0
    have h1 : CliT w ⟨xm, xc, s, xt, xa, xl, ⟨A, d, es⟩⟩ := by
      obtain ⟨h1, h2⟩ := HOK.out
      exact ⟨{ h1 with fr := by rw [← HS.out]; exact HR.out }, h2⟩
    exact ((h1.gq (HGA.out.trans HGB.out)).kp k1).kp k2
  obtain ⟨wf, hwf⟩ : ∃ wf, setN w3 (b0 + 1) 0 [.string xm, .int .i64 xc, .int .i64 s, .int .i64 xt, .int .i64 xa, .int .i64 xl, .slice A k d] = wf := ⟨_, rfl⟩
  rw [hwf] at HB4 HG4 HT4
  have hwf2 : ((((((w3.setCell ⟨b0 + 1, 0, none⟩ (.string xm)).setCell ⟨b0 + 1, 1, none⟩ (.int .i64 xc)).setCell ⟨b0 + 1, 2, none⟩ (.int .i64 s)).setCell ⟨b0 + 1, 3, none⟩ (.int .i64 xt)).setCell ⟨b0 + 1, 4, none⟩ (.int .i64 xa)).setCell ⟨b0 + 1, 5, none⟩ (.int .i64 xl)).setCell ⟨b0 + 1, 6, none⟩ (.slice A k d) = wf := hwf
  rw [hwf2]
  have q0 : wf.cell? ⟨b0 + 1, 0, none⟩ = some (.string xm) := HB4.out.cell 0
  have q1 : wf.cell? ⟨b0 + 1, 1, none⟩ = some (.int .i64 xc) := HB4.out.cell 1
  have q2 : wf.cell? ⟨b0 + 1, 2, none⟩ = some (.int .i64 s) := HB4.out.cell 2
  have q3 : wf.cell? ⟨b0 + 1, 3, none⟩ = some (.int .i64 xt) := HB4.out.cell 3
  have q4 : wf.cell? ⟨b0 + 1, 4, none⟩ = some (.int .i64 xa) := HB4.out.cell 4
  have q5 : wf.cell? ⟨b0 + 1, 5, none⟩ = some (.int .i64 xl) := HB4.out.cell 5
  have q6 : wf.cell? ⟨b0 + 1, 6, none⟩ = some (.slice A k d) := HB4.out.cell 6
  refine bodyPost_ret (v := .agg #[.string xm, .int .i64 xc, .int .i64 s, .int .i64 xt, .int .i64 xa, .int .i64 xl, .slice A k d]) (by simp [results, Tryz.results11, go_sem, q0, q1, q2, q3, q4, q5, q6]) rfl ?_
  refine ⟨⟨xm, xc, s, xt, xa, xl, ⟨A, d, es⟩⟩, ?_, ?_, HT4.out, HG4.out⟩
  · show _ = Ending.returned (.agg #[.string xm, .int .i64 xc, .int .i64 s, .int .i64 xt, .int .i64 xa, .int .i64 xl, .slice A es.length d])
    rw [HN.out]
  · show (⟨xm, xc, s, xt, xa, xl, es⟩ : Cli) = ⟨xm, xc, xf + n, xt, xa, xl, es⟩
    rw [HS.out]
end Go.Proofs.YteaghgbpcpileaaGreatDoor
/- Generated (gen/chg.py): edit.change's function, with deadwax/edit.Move$1. -/
namespace Go.Proofs.YteaghgbpcpileaaGreatDoor
open Go.RowKit Go.Dw
attribute [local go_sem ↓] Go.wp_at_zero Go.wp_at_succ
attribute [local go_sem] Go.Dwo.Oper.tame

def chgMF (w0 : World) (b0 : Nat) (X Y : Cli) (fv : Value) (xm : ByteArray) (xc xf xt xa xl : Int) (EA : Option Addr) (en ed : Nat) (bf : Addr) : List Go.Dwo.Fact := [
  ⟨[], [], fun _ W => Gq w0 W ∧ b0 ≤ W.heap.size⟩,
  ⟨[], [], fun _ W => Blk W b0 39 [.string xm, .int .i64 xc, .int .i64 xf, .int .i64 xt, .int .i64 xa, .int .i64 xl, .slice EA en ed]⟩,
  ⟨[], [], fun _ W => W.cell? bf = some fv ∧ bf.block < W.heap.size⟩,
  ⟨[0], [], fun vs _ => vs 0 = fv⟩,
  ⟨[1], [], fun vs _ => vs 1 = .agg #[.string xm, .int .i64 xc, .int .i64 xf, .int .i64 xt, .int .i64 xa, .int .i64 xl, .slice EA en ed]⟩,
  ⟨[2], [], fun vs W => ∃ y : CliM, vs 2 = y.v ∧ y.x = X ∧ CliT W y⟩,
  ⟨[3], [], fun vs W => ∃ y : CliM, vs 3 = y.v ∧ y.x = Y ∧ CliT W y⟩,
  ⟨[4], [], fun vs W => ∃ (y : CliM) (b : Nat), vs 4 = .slice (some ⟨b, 0, none⟩) 1 1 ∧ Blk W b 39 y.cs ∧ y.x = Y ∧ CliT W y ∧ b0 ≤ b⟩,
  ⟨[5], [], fun vs W => ∃ (y : CliM) (b : Nat), vs 5 = .slice (some ⟨b, 0, none⟩) 1 1 ∧ Blk W b 39 y.cs ∧ y.x = Y ∧ CliT W y ∧ b0 ≤ b⟩,
  ⟨[6], [], fun vs _ => vs 6 = .bool true⟩]
theorem chgMK (w0 : World) (b0 : Nat) (X Y : Cli) (fv : Value) (xm : ByteArray) (xc xf xt xa xl : Int) (EA : Option Addr) (en ed : Nat) (bf : Addr) : ∀ f ∈ chgMF w0 b0 X Y fv xm xc xf xt xa xl EA en ed bf, ∀ vs w w', Gq w w' → f.says vs w → f.says vs w' :=
  Go.Dwo.fa_cons (fun _ _ _ hg h => ⟨h.1.trans hg, Nat.le_trans h.2 (Below.size hg)⟩) <|
  Go.Dwo.fa_cons (fun _ _ _ hg h => blkq h hg) <|
  Go.Dwo.fa_cons (fun _ _ _ hg h => ⟨(hg.cell h.2).trans h.1, Nat.lt_of_lt_of_le h.2 (Below.size hg)⟩) <|
  Go.Dwo.fa_cons (fun _ _ _ _ h => h) <|
  Go.Dwo.fa_cons (fun _ _ _ _ h => h) <|
  Go.Dwo.fa_cons (fun _ _ _ hg h => (by obtain ⟨y, h1, h2, h3⟩ := h; exact ⟨y, h1, h2, h3.gq hg⟩)) <|
  Go.Dwo.fa_cons (fun _ _ _ hg h => (by obtain ⟨y, h1, h2, h3⟩ := h; exact ⟨y, h1, h2, h3.gq hg⟩)) <|
  Go.Dwo.fa_cons (fun _ _ _ hg h => (by obtain ⟨y, b, h1, h2, h3, h4, h5⟩ := h; exact ⟨y, b, h1, blkq h2 hg, h3, h4.gq hg, h5⟩)) <|
  Go.Dwo.fa_cons (fun _ _ _ hg h => (by obtain ⟨y, b, h1, h2, h3, h4, h5⟩ := h; exact ⟨y, b, h1, blkq h2 hg, h3, h4.gq hg, h5⟩)) <|
  Go.Dwo.fa_cons (fun _ _ _ _ h => h) <|
  Go.Dwo.fa_nil _
set_option maxRecDepth 100000 in
set_option maxHeartbeats 16000000 in
theorem chgM_any (G : Cli → Cli) (i n : Int) (c : CliM) (bn bf p1 p2 : Addr) (w0 : World) (hc : CliOk w0 c) (hl : c.e.xs.length ≤ 1000000000) (hn : w0.cell? bn = some (.int .i64 n)) (hnb : bn.block < w0.heap.size) (hf : w0.cell? bf = some (Value.func (.func 19) #[] #[.pointer (some p1), .pointer (some p2)])) (hfb : bf.block < w0.heap.size)
    (hF : ∀ (y : CliM) (W : World), Gq w0 W → CliT W y → y.x = c.x → Calls Tryz.prog 19 #[y.v, .pointer (some p1), .pointer (some p2)] W fun e w' => ∃ z : CliM, e = .returned z.v ∧ z.x = G y.x ∧ CliT w' z ∧ Gq W w') :
    Calls Tryz.prog 22 #[.int .i64 i, c.v, .pointer (some bn), .pointer (some bf)] w0 (CloR (if i = n then some [G c.x] else none) w0) := by
  obtain ⟨X, hX⟩ : ∃ X, c.x = X := ⟨_, rfl⟩
  obtain ⟨Y, hY⟩ : ∃ Y, G X = Y := ⟨_, rfl⟩
  have HOW : Hid (∀ W, Gq w0 W → Calls Tryz.prog 23 #[c.v] W fun e w' => ∃ y : CliM, e = .returned y.v ∧ y.x = X ∧ CliT w' y ∧ Gq W w') := fun W hW => by
    have := own_any c W (hc.below hW) hl
    rw [hX] at this
    exact this
  have HIN : Hid (∀ (y : CliM) (W : World), Gq w0 W → y.x = X → CliT W y → Calls Tryz.prog 19 #[y.v, .pointer (some p1), .pointer (some p2)] W fun e w' => ∃ z : CliM, e = .returned z.v ∧ z.x = Y ∧ CliT w' z ∧ Gq W w') := fun y W h1 h2 h3 => by
    have := hF y W h1 h3 (by rw [h2, hX])
    rw [h2, hY] at this
    exact this
  obtain ⟨fv, hfv⟩ : ∃ fv, Value.func (.func 19) #[] #[.pointer (some p1), .pointer (some p2)] = fv := ⟨_, rfl⟩
  have HFE : Hid (fv = Value.func (.func 19) #[] #[.pointer (some p1), .pointer (some p2)]) := hfv.symm
  rw [hfv] at hf
  obtain ⟨q, hq⟩ : ∃ q, (if i = n then some [Y] else none) = q := ⟨_, rfl⟩
  have HQ0 : Hid (i ≠ n → q = none) := fun h => by rw [← hq, if_neg h]
  have HQ1 : Hid (i = n → q = some [Y]) := fun h => by rw [← hq, if_pos h]
  rw [hX, hY, hq]
  clear hq
  clear hF hc hl hX hY hfv
  obtain ⟨xm, xc, xf, xt, xa, xl, ⟨EA, ed, es⟩⟩ := c
  simp only [CliM.v, Slc.v] at HOW ⊢
  obtain ⟨en, hen⟩ : ∃ en : Nat, es.length = en := ⟨_, rfl⟩
  rw [hen] at HOW ⊢
  clear hen
  obtain ⟨b0, hb0⟩ : ∃ b, w0.heap.size = b := ⟨_, rfl⟩
  obtain ⟨wz, hwz⟩ : ∃ wz, wz = w0.alloc (.cells #[.string xm, .int .i64 xc, .int .i64 xf, .int .i64 xt, .int .i64 xa, .int .i64 xl, .slice EA en ed] 39) := ⟨_, rfl⟩
  have HKC : Hid (Blk wz b0 39 [.string xm, .int .i64 xc, .int .i64 xf, .int .i64 xt, .int .i64 xa, .int .i64 xl, .slice EA en ed]) := by rw [hwz, ← hb0]; exact Blk.new w0 _ _
  have HG : Hid (Gq w0 wz) := by rw [hwz]; exact (Gq.refl _).alloc _
  have HB0 : Hid (w0.heap.size ≤ b0) := by show _ ≤ _; omega
  have hn2 : wz.cell? bn = some (.int .i64 n) := (HG.out.cell hnb).trans hn
  have HBF0 : Hid (wz.cell? bf = some fv ∧ bf.block < wz.heap.size) := ⟨(HG.out.cell hfb).trans hf, Nat.lt_of_lt_of_le hfb (Below.size HG.out)⟩
  have HWZ := Lib.hid hwz
  have HZ : Hid (b0 + 1 ≤ wz.heap.size) := by rw [hwz, ← hb0]; show _ ≤ _; simp
  clear hwz hn hnb hf hfb
  go_enter Tryz.func22, Tryz.ntmps22
  go_upto_region 1 with (fail)
  rw [← HWZ.out]
  try simp only [hb0]
  by_cases hin : i = n
  case neg =>
    have hq := HQ0.out hin
    have hd : (i != n) = true := by simpa using hin
    have HFIN : Hid (CloR q w0 (.returned (.tuple #[.slice none 0 0, .bool false])) wz) := ⟨HG.out, .inl ⟨hq, rfl⟩⟩
    clear hb0 hin hq
    go_wp2_with fail
    exact bodyPost_ret (v := .tuple #[.slice none 0 0, .bool false]) (by simp [results, Tryz.results22, go_sem]) rfl HFIN.out
  have HQ : Hid (q = some [Y]) := HQ1.out hin
  have hd : (i != n) = false := by simpa using hin
  have HBASE : Hid (Gq w0 wz.drew ∧ b0 ≤ wz.drew.heap.size) := ⟨HG.out.drew, by have := HZ.out; show _ ≤ wz.heap.size; omega⟩
  have HBC : Hid (Blk wz.drew b0 39 [.string xm, .int .i64 xc, .int .i64 xf, .int .i64 xt, .int .i64 xa, .int .i64 xl, .slice EA en ed]) := blkq HKC.out (Gq.refl _).drew
  have HBF : Hid (wz.drew.cell? bf = some fv ∧ bf.block < wz.drew.heap.size) := HBF0.out
  clear hb0 hin
  go_upto_region 3 with (fail)
  refine Go.Dwo.wp_region_factsK _ (by kernel_rfl) [[], [], [1], [0, 1, 2], [0, 1, 2, 3], [0, 1, 2, 3, 4], []] (by kernel_rfl) (by kernel_rfl) [some 11, some 12, some 13, some 14, some 15, some 6, some 7] (by kernel_rfl) (fun vs => by simp only [Go.Dwo.putA, Go.Dwo.putL, if_true, Act.put, List.setIfInBounds_toArray, List.set_cons_zero, List.set_cons_succ]; rfl) (chgMF w0 b0 X Y fv xm xc xf xt xa xl EA en ed bf) (by kernel_rfl) ?_ ⟨?_, ?_, ?_, ?_, ?_, ?_, ?_, trivial⟩ ?_
  · exact Go.Dwo.fa_zero [0, 1, 2] (by kernel_rfl) <| Go.Dwo.fa_cons (HBASE.out) <| Go.Dwo.fa_cons (HBC.out) <| Go.Dwo.fa_cons (HBF.out) <| Go.Dwo.fa_nil _
  · -- 0: Op.load 40 t3
    intro Ls vs w Kk H hu hD hK
    replace hu : ∀ k ∈ ([] : List Nat), Ls k = true := hu
    replace hD : ∀ k ∈ ([0, 3, 4, 5] : List Nat), Ls k = false := Go.Dwo.fa_cons (hD 0 (.inl rfl)) <| Go.Dwo.fa_cons (hD 3 (.inr (by decide))) <| Go.Dwo.fa_cons (hD 4 (.inr (by decide))) <| Go.Dwo.fa_cons (hD 5 (.inr (by decide))) <| Go.Dwo.fa_nil _
    simp only [Go.Dwo.actOf, List.getD_cons_zero]
    have qbase : Gq w0 w ∧ b0 ≤ w.heap.size := H.up hu hD 0 rfl rfl rfl
    obtain ⟨h0, hz⟩ := qbase
    have bc : Blk w b0 39 [.string xm, .int .i64 xc, .int .i64 xf, .int .i64 xt, .int .i64 xa, .int .i64 xl, .slice EA en ed] := H.up hu hD 1 rfl rfl rfl
    have qbf : w.cell? bf = some fv ∧ bf.block < w.heap.size := H.up hu hD 2 rfl rfl rfl
    obtain ⟨cf, lf⟩ := qbf
    have hKK := Lib.hid hK
    clear hK H hu hD
    go_simp
    refine hKK.out _ _ (fun f _ _ _ _ h => h) ?_
    exact Go.Dwo.fa_pick [3] (by kernel_rfl) <| Go.Dwo.fa_cons (fun _ => rfl) <| Go.Dwo.fa_nil _
  · -- 1: Op.load 39 t5
    intro Ls vs w Kk H hu hD hK
    replace hu : ∀ k ∈ ([] : List Nat), Ls k = true := hu
    replace hD : ∀ k ∈ ([1, 2, 3, 4, 5] : List Nat), Ls k = false := Go.Dwo.fa_cons (hD 1 (.inl rfl)) <| Go.Dwo.fa_cons (hD 2 (.inr (by decide))) <| Go.Dwo.fa_cons (hD 3 (.inr (by decide))) <| Go.Dwo.fa_cons (hD 4 (.inr (by decide))) <| Go.Dwo.fa_cons (hD 5 (.inr (by decide))) <| Go.Dwo.fa_nil _
    simp only [Go.Dwo.actOf, List.getD_cons_succ, List.getD_cons_zero]
    have qbase : Gq w0 w ∧ b0 ≤ w.heap.size := H.up hu hD 0 rfl rfl rfl
    obtain ⟨h0, hz⟩ := qbase
    have bc : Blk w b0 39 [.string xm, .int .i64 xc, .int .i64 xf, .int .i64 xt, .int .i64 xa, .int .i64 xl, .slice EA en ed] := H.up hu hD 1 rfl rfl rfl
    have qbf : w.cell? bf = some fv ∧ bf.block < w.heap.size := H.up hu hD 2 rfl rfl rfl
    obtain ⟨cf, lf⟩ := qbf
    have d0 : w.cell? ⟨b0, 0, none⟩ = _ := bc.cell 0
    have d1 : w.cell? ⟨b0, 1, none⟩ = _ := bc.cell 1
    have d2 : w.cell? ⟨b0, 2, none⟩ = _ := bc.cell 2
    have d3 : w.cell? ⟨b0, 3, none⟩ = _ := bc.cell 3
    have d4 : w.cell? ⟨b0, 4, none⟩ = _ := bc.cell 4
    have d5 : w.cell? ⟨b0, 5, none⟩ = _ := bc.cell 5
    have d6 : w.cell? ⟨b0, 6, none⟩ = _ := bc.cell 6
    simp only [List.getElem?_cons_zero, List.getElem?_cons_succ] at d0 d1 d2 d3 d4 d5 d6
    have hKK := Lib.hid hK
    clear hK H hu hD
    go_simp
    refine hKK.out _ _ (fun f _ _ _ _ h => h) ?_
    exact Go.Dwo.fa_pick [4] (by kernel_rfl) <| Go.Dwo.fa_cons (fun _ => rfl) <| Go.Dwo.fa_nil _
  · -- 2: Op.call { value (Operand.func 23), args := #[t12], argTypes := #[39] }
    intro Ls vs w Kk H hu hD hK
    replace hu : ∀ k ∈ ([1] : List Nat), Ls k = true := hu
    replace hD : ∀ k ∈ ([2, 3, 4, 5] : List Nat), Ls k = false := Go.Dwo.fa_cons (hD 2 (.inl rfl)) <| Go.Dwo.fa_cons (hD 3 (.inr (by decide))) <| Go.Dwo.fa_cons (hD 4 (.inr (by decide))) <| Go.Dwo.fa_cons (hD 5 (.inr (by decide))) <| Go.Dwo.fa_nil _
    simp only [Go.Dwo.actOf, List.getD_cons_succ, List.getD_cons_zero]
    have qbase : Gq w0 w ∧ b0 ≤ w.heap.size := H.up hu hD 0 rfl rfl rfl
    obtain ⟨h0, hz⟩ := qbase
    have bc : Blk w b0 39 [.string xm, .int .i64 xc, .int .i64 xf, .int .i64 xt, .int .i64 xa, .int .i64 xl, .slice EA en ed] := H.up hu hD 1 rfl rfl rfl
    have qbf : w.cell? bf = some fv ∧ bf.block < w.heap.size := H.up hu hD 2 rfl rfl rfl
    obtain ⟨cf, lf⟩ := qbf
    have f1 : vs 1 = .agg #[.string xm, .int .i64 xc, .int .i64 xf, .int .i64 xt, .int .i64 xa, .int .i64 xl, .slice EA en ed] := H.up hu hD 4 rfl rfl rfl
    have hKK := Lib.hid hK
    clear hK H hu hD
    go_simp
    refine (HOW.out w h0).mono ?_
    rintro e w' ⟨y, rfl, hyx, hyt, hb⟩
    refine ⟨_, rfl, hKK.out _ _ (fun f hf _ _ _ h => chgMK w0 b0 X Y fv xm xc xf xt xa xl EA en ed bf f hf _ _ _ hb h) ?_⟩
    exact Go.Dwo.fa_pick [5] (by kernel_rfl) <| Go.Dwo.fa_cons (fun _ => ⟨y, rfl, hyx, hyt⟩) <| Go.Dwo.fa_nil _
  · -- 3: Op.call { value t11, args := #[t13], argTypes := #[39] }
    intro Ls vs w Kk H hu hD hK
    replace hu : ∀ k ∈ ([0, 1, 2] : List Nat), Ls k = true := hu
    replace hD : ∀ k ∈ ([3, 4, 5] : List Nat), Ls k = false := Go.Dwo.fa_cons (hD 3 (.inl rfl)) <| Go.Dwo.fa_cons (hD 4 (.inr (by decide))) <| Go.Dwo.fa_cons (hD 5 (.inr (by decide))) <| Go.Dwo.fa_nil _
    simp only [Go.Dwo.actOf, List.getD_cons_succ, List.getD_cons_zero]
    have qbase : Gq w0 w ∧ b0 ≤ w.heap.size := H.up hu hD 0 rfl rfl rfl
    obtain ⟨h0, hz⟩ := qbase
    have bc : Blk w b0 39 [.string xm, .int .i64 xc, .int .i64 xf, .int .i64 xt, .int .i64 xa, .int .i64 xl, .slice EA en ed] := H.up hu hD 1 rfl rfl rfl
    have qbf : w.cell? bf = some fv ∧ bf.block < w.heap.size := H.up hu hD 2 rfl rfl rfl
    obtain ⟨cf, lf⟩ := qbf
    have f0 : vs 0 = fv := H.up hu hD 3 rfl rfl rfl
    have qn2 : ∃ y : CliM, vs 2 = y.v ∧ y.x = X ∧ CliT w y := H.up hu hD 5 rfl rfl rfl
    obtain ⟨⟨ym, yc, yf, yt, ya, yl, ⟨YA, yd, yes⟩⟩, e2, x2, t2⟩ := qn2
    have HCA := Lib.hid (HIN.out ⟨ym, yc, yf, yt, ya, yl, ⟨YA, yd, yes⟩⟩ w h0 x2 t2)
    have HFV := HFE.out
    rw [HFV] at f0
    simp only [CliM.v, Slc.v] at e2 HCA
    have hKK := Lib.hid hK
    clear hK H hu hD
    go_simp
    refine (HCA.out).mono ?_
    rintro e w' ⟨y, rfl, hyx, hyt, hb⟩
    refine ⟨_, rfl, hKK.out _ _ (fun f hf _ _ _ h => chgMK w0 b0 X Y fv xm xc xf xt xa xl EA en ed bf f hf _ _ _ hb h) ?_⟩
    exact Go.Dwo.fa_pick [6] (by kernel_rfl) <| Go.Dwo.fa_cons (fun _ => ⟨y, rfl, hyx, hyt⟩) <| Go.Dwo.fa_nil _
  · -- 4: Op.buildSlice 22 1 #[(0, t14)]
    intro Ls vs w Kk H hu hD hK
    replace hu : ∀ k ∈ ([0, 1, 2, 3] : List Nat), Ls k = true := hu
    replace hD : ∀ k ∈ ([4, 5] : List Nat), Ls k = false := Go.Dwo.fa_cons (hD 4 (.inl rfl)) <| Go.Dwo.fa_cons (hD 5 (.inr (by decide))) <| Go.Dwo.fa_nil _
    simp only [Go.Dwo.actOf, List.getD_cons_succ, List.getD_cons_zero]
    have qbase : Gq w0 w ∧ b0 ≤ w.heap.size := H.up hu hD 0 rfl rfl rfl
    obtain ⟨h0, hz⟩ := qbase
    have bc : Blk w b0 39 [.string xm, .int .i64 xc, .int .i64 xf, .int .i64 xt, .int .i64 xa, .int .i64 xl, .slice EA en ed] := H.up hu hD 1 rfl rfl rfl
    have qbf : w.cell? bf = some fv ∧ bf.block < w.heap.size := H.up hu hD 2 rfl rfl rfl
    obtain ⟨cf, lf⟩ := qbf
    have qn3 : ∃ y : CliM, vs 3 = y.v ∧ y.x = Y ∧ CliT w y := H.up hu hD 6 rfl rfl rfl
    obtain ⟨⟨zm, zc, zf, zt, za, zl, ⟨ZA, zd, zes⟩⟩, e3, x3, t3⟩ := qn3
    simp only [CliM.v, Slc.v] at e3
    have hKK := Lib.hid hK
    clear hK H hu hD
    go_simp
    refine hKK.out _ _ (fun f hf _ _ _ h => chgMK w0 b0 X Y fv xm xc xf xt xa xl EA en ed bf f hf _ _ _ (Gq.alloc (Gq.refl _) _) h) ?_
    exact Go.Dwo.fa_pick [7] (by kernel_rfl) <| Go.Dwo.fa_cons (fun _ => ⟨⟨zm, zc, zf, zt, za, zl, ⟨ZA, zd, zes⟩⟩, _, rfl, Blk.new w 39 [.string zm, .int .i64 zc, .int .i64 zf, .int .i64 zt, .int .i64 za, .int .i64 zl, .slice ZA zes.length zd], x3, t3.gq (Gq.alloc (Gq.refl _) _), hz⟩) <| Go.Dwo.fa_nil _
  · -- 5: Op.assign t15
    intro Ls vs w Kk H hu hD hK
    replace hu : ∀ k ∈ ([0, 1, 2, 3, 4] : List Nat), Ls k = true := hu
    replace hD : ∀ k ∈ ([5] : List Nat), Ls k = false := Go.Dwo.fa_cons (hD 5 (.inl rfl)) <| Go.Dwo.fa_nil _
    simp only [Go.Dwo.actOf, List.getD_cons_succ, List.getD_cons_zero]
    have qbase : Gq w0 w ∧ b0 ≤ w.heap.size := H.up hu hD 0 rfl rfl rfl
    obtain ⟨h0, hz⟩ := qbase
    have bc : Blk w b0 39 [.string xm, .int .i64 xc, .int .i64 xf, .int .i64 xt, .int .i64 xa, .int .i64 xl, .slice EA en ed] := H.up hu hD 1 rfl rfl rfl
    have qbf : w.cell? bf = some fv ∧ bf.block < w.heap.size := H.up hu hD 2 rfl rfl rfl
    obtain ⟨cf, lf⟩ := qbf
    have qn4 : ∃ (y : CliM) (b : Nat), vs 4 = .slice (some ⟨b, 0, none⟩) 1 1 ∧ Blk w b 39 y.cs ∧ y.x = Y ∧ CliT w y ∧ b0 ≤ b := H.up hu hD 7 rfl rfl rfl
    obtain ⟨y4, b4, e4, k4, x4, t4, l4⟩ := qn4
    have hKK := Lib.hid hK
    clear hK H hu hD
    go_simp
    refine hKK.out _ _ (fun f _ _ _ _ h => h) ?_
    exact Go.Dwo.fa_pick [8] (by kernel_rfl) <| Go.Dwo.fa_cons (fun _ => ⟨y4, b4, rfl, k4, x4, t4, l4⟩) <| Go.Dwo.fa_nil _
  · -- 6: Op.assign (const (Value.bool true))
    intro Ls vs w Kk H hu hD hK
    replace hu : ∀ k ∈ ([] : List Nat), Ls k = true := hu
    replace hD : ∀ k ∈ ([6] : List Nat), Ls k = false := Go.Dwo.fa_cons (hD 6 (.inl rfl)) <| Go.Dwo.fa_nil _
    simp only [Go.Dwo.actOf, List.getD_cons_succ, List.getD_cons_zero]
    have qbase : Gq w0 w ∧ b0 ≤ w.heap.size := H.up hu hD 0 rfl rfl rfl
    obtain ⟨h0, hz⟩ := qbase
    have bc : Blk w b0 39 [.string xm, .int .i64 xc, .int .i64 xf, .int .i64 xt, .int .i64 xa, .int .i64 xl, .slice EA en ed] := H.up hu hD 1 rfl rfl rfl
    have qbf : w.cell? bf = some fv ∧ bf.block < w.heap.size := H.up hu hD 2 rfl rfl rfl
    obtain ⟨cf, lf⟩ := qbf
    have hKK := Lib.hid hK
    clear hK H hu hD
    go_simp
    refine hKK.out _ _ (fun f _ _ _ _ h => h) ?_
    exact Go.Dwo.fa_pick [9] (by kernel_rfl) <| Go.Dwo.fa_cons (fun _ => rfl) <| Go.Dwo.fa_nil _
  · intro vs w H
    have qbase : Gq w0 w ∧ b0 ≤ w.heap.size := Go.Dwo.fa_at H 0 rfl rfl
    obtain ⟨h0, hz⟩ := qbase
    have bc : Blk w b0 39 [.string xm, .int .i64 xc, .int .i64 xf, .int .i64 xt, .int .i64 xa, .int .i64 xl, .slice EA en ed] := Go.Dwo.fa_at H 1 rfl rfl
    have qbf : w.cell? bf = some fv ∧ bf.block < w.heap.size := Go.Dwo.fa_at H 2 rfl rfl
    obtain ⟨cf, lf⟩ := qbf
    have f0 : vs 0 = fv := Go.Dwo.fa_at H 3 rfl rfl
    have f1 : vs 1 = .agg #[.string xm, .int .i64 xc, .int .i64 xf, .int .i64 xt, .int .i64 xa, .int .i64 xl, .slice EA en ed] := Go.Dwo.fa_at H 4 rfl rfl
    have qn2 : ∃ y : CliM, vs 2 = y.v ∧ y.x = X ∧ CliT w y := Go.Dwo.fa_at H 5 rfl rfl
    obtain ⟨⟨ym, yc, yf, yt, ya, yl, ⟨YA, yd, yes⟩⟩, e2, x2, t2⟩ := qn2
    have qn3 : ∃ y : CliM, vs 3 = y.v ∧ y.x = Y ∧ CliT w y := Go.Dwo.fa_at H 6 rfl rfl
    obtain ⟨⟨zm, zc, zf, zt, za, zl, ⟨ZA, zd, zes⟩⟩, e3, x3, t3⟩ := qn3
    have qn4 : ∃ (y : CliM) (b : Nat), vs 4 = .slice (some ⟨b, 0, none⟩) 1 1 ∧ Blk w b 39 y.cs ∧ y.x = Y ∧ CliT w y ∧ b0 ≤ b := Go.Dwo.fa_at H 7 rfl rfl
    obtain ⟨y4, b4, e4, k4, x4, t4, l4⟩ := qn4
    have qn5 : ∃ (y : CliM) (b : Nat), vs 5 = .slice (some ⟨b, 0, none⟩) 1 1 ∧ Blk w b 39 y.cs ∧ y.x = Y ∧ CliT w y ∧ b0 ≤ b := Go.Dwo.fa_at H 8 rfl rfl
    obtain ⟨y5, b5, e5, k5, x5, t5, l5⟩ := qn5
    have f6 : vs 6 = .bool true := Go.Dwo.fa_at H 9 rfl rfl
    clear H
    simp only [Nat.zero_add, Nat.reduceAdd]
    have HFIN : Hid (CloR q w0 (.returned (.tuple #[.slice (some ⟨b5, 0, none⟩) 1 1, .bool true])) w) := by
      refine ⟨h0, .inr ⟨[Y], ⟨some ⟨b5, 0, none⟩, 1, [y5]⟩, HQ.out, rfl, by rw [← x5]; rfl, by show 1 ≤ 3; omega, ?_, fun y hy => by rw [List.mem_singleton.1 hy]; exact t5, fun b off e => ?_⟩⟩
      · refine .inr ⟨b5, 0, rfl, k5.lt, fun j u hu => ?_⟩
        have h1 := k5.cell j
        rw [Nat.zero_add, h1]
        simpa using hu
      · have e2 : (some (⟨b5, 0, none⟩ : Addr)) = some ⟨b, off, none⟩ := e
        injection e2 with e2
        injection e2 with e2 _
        have := HB0.out
        omega
    simp only [e5, f6]
    clear f0 f1 e5 f6 h0 k5 t5 x5
    go_wp2_with fail
    exact bodyPost_ret (v := .tuple #[.slice (some ⟨b5, 0, none⟩) 1 1, .bool true]) (by simp [results, Tryz.results22, go_sem]) rfl HFIN.out
end Go.Proofs.YteaghgbpcpileaaGreatDoor
/- edit.Move's function: a clip elsewhere, on another track. -/
namespace Go.Proofs.YteaghgbpcpileaaGreatDoor
open Go.RowKit Go.Dw
attribute [local go_sem ↓] Go.wp_at_zero Go.wp_at_succ

theorem cell_far {W : World} {p q : Addr} {u v : Value} (h : W.cell? q = some v) (hne : q.block ≠ p.block) : (W.setCell p u).cell? q = some v := by
  rw [← h]
  have := Below.heap_setCell W p u q.block hne
  simp only [World.cell?, this]
def mvtC (n t : Int) (c : Cli) : Cli := ⟨c.m, c.ch, c.fr, t, c.at_ + n, c.ln, c.e⟩
set_option maxRecDepth 100000 in
set_option maxHeartbeats 8000000 in
theorem move1_any (c : CliM) (n t : Int) (p q : Addr) (w : World) (h : CliT w c) (hp : w.cell? p = some (.int .i64 n)) (hpb : p.block < w.heap.size) (hq : w.cell? q = some (.int .i64 t)) (hqb : q.block < w.heap.size) (hr : inI64 (c.at_ + n)) (ht : inI64 t) :
    Calls Tryz.prog 19 #[c.v, .pointer (some p), .pointer (some q)] w fun e w' => ∃ z : CliM, e = .returned z.v ∧ z.x = mvtC n t c.x ∧ CliT w' z ∧ Gq w w' := by
  obtain ⟨xm, xc, xf, xt, xa, xl, ⟨A, d, es⟩⟩ := c
  have HOK := Lib.hid h
  simp only at hr
  have HT := Lib.hid ht
  have HR : Hid (inI64 (xa + n)) := hr
  simp only [CliM.v, Slc.v]
  obtain ⟨k, hk⟩ : ∃ n, es.length = n := ⟨_, rfl⟩
  have HN := Lib.hid hk
  rw [hk]
  clear h hk hr ht
  obtain ⟨b0, hb0⟩ : ∃ b, w.heap.size = b := ⟨_, rfl⟩
  obtain ⟨s, hs⟩ : ∃ s, xa + n = s := ⟨_, rfl⟩
  have hsw : IntKind.i64.wrap (xa + n) = s := by rw [← hs]; have := HR.out; unfold inI64 at this; exact IntWalk.i64_in _ (by omega)
  have HS := Lib.hid hs
  clear hs
  obtain ⟨wa, hwa⟩ : ∃ wa, wa = w.alloc (.cells #[.string xm, .int .i64 xc, .int .i64 xf, .int .i64 xt, .int .i64 xa, .int .i64 xl, .slice A k d] 39) := ⟨_, rfl⟩
  obtain ⟨wb, hwb⟩ : ∃ wb, wb = wa.alloc (.cells #[.string ⟨#[]⟩, .int .i64 0, .int .i64 0, .int .i64 0, .int .i64 0, .int .i64 0, .slice none 0 0] 39) := ⟨_, rfl⟩
  have hz : wa.heap.size = b0 + 1 := by rw [hwa]; simp; omega
  have HGA : Hid (Gq w wa) := by rw [hwa]; exact (Gq.refl _).alloc _
  have HGB : Hid (Gq wa wb) := by rw [hwb]; exact (Gq.refl _).alloc _
  have HKA : Hid (Blk wb b0 39 [.string xm, .int .i64 xc, .int .i64 xf, .int .i64 xt, .int .i64 xa, .int .i64 xl, .slice A k d]) := by
    refine blkq (?_ : Blk wa b0 _ _) HGB.out; rw [hwa, ← hb0]; exact Blk.new w _ _
  have HKB : Hid (Blk wb (b0 + 1) 39 [.string ⟨#[]⟩, .int .i64 0, .int .i64 0, .int .i64 0, .int .i64 0, .int .i64 0, .slice none 0 0]) := by rw [hwb, ← hz]; exact Blk.new wa _ _
  have k2 : wb.cell? ⟨b0, 4, none⟩ = some (.int .i64 xa) := HKA.out.cell 4
  have k3 : wb.cell? ⟨b0, 3, none⟩ = some (.int .i64 xt) := HKA.out.cell 3
  have f3 := HKA.out.frozen 3
  have f4 := HKA.out.frozen 4
  have p0 : wb.cell? p = some (.int .i64 n) := ((HGA.out.trans HGB.out).cell hpb).trans hp
  have q0 : wb.cell? q = some (.int .i64 t) := ((HGA.out.trans HGB.out).cell hqb).trans hq
  have s4 : (wb.setCell ⟨b0, 4, none⟩ (.int .i64 s)).cell? q = some (.int .i64 t) := cell_far q0 (by show q.block ≠ b0; omega)
  have s3 : (wb.setCell ⟨b0, 3, none⟩ (.int .i64 t)).cell? p = some (.int .i64 n) := cell_far p0 (by show p.block ≠ b0; omega)
  rw [hwa] at hwb
  have HWB := Lib.hid hwb
  have HB0 := Lib.hid hb0
  obtain ⟨w3, hw3⟩ : ∃ w3, w3 = ((wb.setCell ⟨b0, 4, none⟩ (.int .i64 s)).setCell ⟨b0, 3, none⟩ (.int .i64 t)).drew := ⟨_, rfl⟩
  have HK3 : Hid (Blk w3 b0 39 [.string xm, .int .i64 xc, .int .i64 xf, .int .i64 t, .int .i64 s, .int .i64 xl, .slice A k d]) := by rw [hw3]; exact blkq ((HKA.out.set_ 4 (.int .i64 s)).set_ 3 (.int .i64 t)) (Gq.refl _).drew
  have HB3 : Hid (Blk w3 (b0 + 1) 39 [.string ⟨#[]⟩, .int .i64 0, .int .i64 0, .int .i64 0, .int .i64 0, .int .i64 0, .slice none 0 0]) := by
    rw [hw3]
    exact blkq ((Below.heap_setCell _ ⟨b0, 3, none⟩ (.int .i64 t) _ (by show b0 + 1 ≠ b0; omega)).trans ((Below.heap_setCell wb ⟨b0, 4, none⟩ (.int .i64 s) _ (by show b0 + 1 ≠ b0; omega)).trans HKB.out)) (Gq.refl _).drew
  have HW3 := Lib.hid hw3
  clear hw3
  clear hwa hwb hp hpb hq hqb hz
  go_enter Tryz.func19, Tryz.ntmps19
  go_upto_region 1 with (fail)
  rw [← HWB.out]
  try simp only [hb0]
  clear hb0
  go_region
  rw [← HW3.out]
  have d0 : w3.cell? ⟨b0, 0, none⟩ = some (.string xm) := HK3.out.cell 0
  have d1 : w3.cell? ⟨b0, 1, none⟩ = some (.int .i64 xc) := HK3.out.cell 1
  have d2 : w3.cell? ⟨b0, 2, none⟩ = some (.int .i64 xf) := HK3.out.cell 2
  have d3 : w3.cell? ⟨b0, 3, none⟩ = some (.int .i64 t) := HK3.out.cell 3
  have d4 : w3.cell? ⟨b0, 4, none⟩ = some (.int .i64 s) := HK3.out.cell 4
  have d5 : w3.cell? ⟨b0, 5, none⟩ = some (.int .i64 xl) := HK3.out.cell 5
  have d6 : w3.cell? ⟨b0, 6, none⟩ = some (.slice A k d) := HK3.out.cell 6
  have g0 := HB3.out.frozen 0
  have g1 := HB3.out.frozen 1
  have g2 := HB3.out.frozen 2
  have g3 := HB3.out.frozen 3
  have g4 := HB3.out.frozen 4
  have g5 := HB3.out.frozen 5
  have g6 := HB3.out.frozen 6
  have e0 : w3.cell? ⟨b0 + 1, 0, none⟩ = some (.string ⟨#[]⟩) := HB3.out.cell 0
  have e1 : w3.cell? ⟨b0 + 1, 1, none⟩ = some (.int .i64 0) := HB3.out.cell 1
  have e2 : w3.cell? ⟨b0 + 1, 2, none⟩ = some (.int .i64 0) := HB3.out.cell 2
  have e3 : w3.cell? ⟨b0 + 1, 3, none⟩ = some (.int .i64 0) := HB3.out.cell 3
  have e4 : w3.cell? ⟨b0 + 1, 4, none⟩ = some (.int .i64 0) := HB3.out.cell 4
  have e5 : w3.cell? ⟨b0 + 1, 5, none⟩ = some (.int .i64 0) := HB3.out.cell 5
  have e6 : w3.cell? ⟨b0 + 1, 6, none⟩ = some (.slice none 0 0) := HB3.out.cell 6
  go_wp2_with fail
  have HB4 : Hid (Blk (setN w3 (b0 + 1) 0 [.string xm, .int .i64 xc, .int .i64 xf, .int .i64 t, .int .i64 s, .int .i64 xl, .slice A k d]) (b0 + 1) 39 [.string xm, .int .i64 xc, .int .i64 xf, .int .i64 t, .int .i64 s, .int .i64 xl, .slice A k d]) := setN_blk _ HB3.out rfl
  have HG4 : Hid (Gq w (setN w3 (b0 + 1) 0 [.string xm, .int .i64 xc, .int .i64 xf, .int .i64 t, .int .i64 s, .int .i64 xl, .slice A k d])) := by
    refine setN_below (by have := HB0.out; omega) _ _ _ ?_
    rw [HW3.out]
    exact (((HGA.out.trans HGB.out).set (p := ⟨b0, 4, none⟩) (by have := HB0.out; show _ ≤ b0; omega) _).set (p := ⟨b0, 3, none⟩) (by have := HB0.out; show _ ≤ b0; omega) _).drew
  have HT4 : Hid (CliT (setN w3 (b0 + 1) 0 [.string xm, .int .i64 xc, .int .i64 xf, .int .i64 t, .int .i64 s, .int .i64 xl, .slice A k d]) ⟨xm, xc, xf, t, s, xl, ⟨A, d, es⟩⟩) := by
    have k1 : KpT 75 wb w3 := by
      rw [HW3.out]
      have a1 : KpT 75 wb (wb.setCell ⟨b0, 4, none⟩ (.int .i64 s)) := (KpT.refl _ _).setCell ⟨_, _, HKA.out⟩ (by decide)
      have a2 : KpT 75 (wb.setCell ⟨b0, 4, none⟩ (.int .i64 s)) ((wb.setCell ⟨b0, 4, none⟩ (.int .i64 s)).setCell ⟨b0, 3, none⟩ (.int .i64 t)) := (KpT.refl _ _).setCell ⟨_, _, HKA.out.set_ 4 (.int .i64 s)⟩ (by decide)
      exact (a1.trans a2).trans (KpT.of_below (Gq.refl _).drew)
    have k2 : KpT 75 w3 (setN w3 (b0 + 1) 0 [.string xm, .int .i64 xc, .int .i64 xf, .int .i64 t, .int .i64 s, .int .i64 xl, .slice A k d]) := setN_kp _ HB3.out (by decide) 0
    have h1 : CliT w ⟨xm, xc, xf, t, s, xl, ⟨A, d, es⟩⟩ := by
      obtain ⟨h1, h2⟩ := HOK.out
      exact ⟨{ h1 with at_ := by rw [← HS.out]; exact HR.out, tr := HT.out }, h2⟩
    exact ((h1.gq (HGA.out.trans HGB.out)).kp k1).kp k2
  obtain ⟨wf, hwf⟩ : ∃ wf, setN w3 (b0 + 1) 0 [.string xm, .int .i64 xc, .int .i64 xf, .int .i64 t, .int .i64 s, .int .i64 xl, .slice A k d] = wf := ⟨_, rfl⟩
  rw [hwf] at HB4 HG4 HT4
  have hwf2 : ((((((w3.setCell ⟨b0 + 1, 0, none⟩ (.string xm)).setCell ⟨b0 + 1, 1, none⟩ (.int .i64 xc)).setCell ⟨b0 + 1, 2, none⟩ (.int .i64 xf)).setCell ⟨b0 + 1, 3, none⟩ (.int .i64 t)).setCell ⟨b0 + 1, 4, none⟩ (.int .i64 s)).setCell ⟨b0 + 1, 5, none⟩ (.int .i64 xl)).setCell ⟨b0 + 1, 6, none⟩ (.slice A k d) = wf := hwf
  rw [hwf2]
  have q0 : wf.cell? ⟨b0 + 1, 0, none⟩ = some (.string xm) := HB4.out.cell 0
  have q1 : wf.cell? ⟨b0 + 1, 1, none⟩ = some (.int .i64 xc) := HB4.out.cell 1
  have q2 : wf.cell? ⟨b0 + 1, 2, none⟩ = some (.int .i64 xf) := HB4.out.cell 2
  have q3 : wf.cell? ⟨b0 + 1, 3, none⟩ = some (.int .i64 t) := HB4.out.cell 3
  have q4 : wf.cell? ⟨b0 + 1, 4, none⟩ = some (.int .i64 s) := HB4.out.cell 4
  have q5 : wf.cell? ⟨b0 + 1, 5, none⟩ = some (.int .i64 xl) := HB4.out.cell 5
  have q6 : wf.cell? ⟨b0 + 1, 6, none⟩ = some (.slice A k d) := HB4.out.cell 6
  refine bodyPost_ret (v := .agg #[.string xm, .int .i64 xc, .int .i64 xf, .int .i64 t, .int .i64 s, .int .i64 xl, .slice A k d]) (by simp [results, Tryz.results19, go_sem, q0, q1, q2, q3, q4, q5, q6]) rfl ?_
  refine ⟨⟨xm, xc, xf, t, s, xl, ⟨A, d, es⟩⟩, ?_, ?_, HT4.out, HG4.out⟩
  · show _ = Ending.returned (.agg #[.string xm, .int .i64 xc, .int .i64 xf, .int .i64 t, .int .i64 s, .int .i64 xl, .slice A es.length d])
    rw [HN.out]
  · show (⟨xm, xc, xf, t, s, xl, es⟩ : Cli) = ⟨xm, xc, xf, t, xa + n, xl, es⟩
    rw [HS.out]
end Go.Proofs.YteaghgbpcpileaaGreatDoor
