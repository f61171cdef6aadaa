/- Several texts laid into one: slices.Backward at steps: its rounds; The contract of edit.Turned; -/
import Derived.RangeFuncNested
import Derived.RangeFuncBound
import Derived.RangeFuncCalls
import Derived.RangeFuncLeaves
import Derived.RangeFuncBox
import Derived.Shelf.Abstract
import Derived.WalkKit
import Derived.OwnWalkIn
import Derived.TacticsInMore
import Derived.LoopNIn
import Derived.LoopIn
import Derived.Test.YteaghgbpcpileaaGreatDoorStpZ
import Derived.Test.YteaghgbpcpileaaGreatDoorStwZ
import Derived.Test.YteaghgbpcpileaaGreatDoorApdZ
/- slices.Backward at steps: its rounds. -/
namespace Go.Proofs.YteaghgbpcpileaaGreatDoor
open Go.RowKit Go.Shelf Go.Dw

attribute [local go_sem] Oper.semAt_some

/-- a right step, as cells that lay there at first -/
def StG (w0 : World) : Type := { s : StpM // StpB 1048576 w0 s ∧ stF s.x = 0 }
/-- what comes: places and steps, the last first -/
def bw {α : Type} (zs : List α) : List (Nat × α) := (zs.zipIdx.map fun p => (p.2, p.1)).reverse
theorem bw_len {α : Type} (zs : List α) : (bw zs).length = zs.length := by simp [bw]
theorem bw_get {α : Type} (zs : List α) (k : Nat) (h : k < zs.length) : (bw zs)[k]'(by rw [bw_len]; exact h) = (zs.length - 1 - k, zs[zs.length - 1 - k]) := by
  unfold bw
  rw [List.getElem_reverse]
  simp
theorem bw_snd {α : Type} (zs : List α) : (bw zs).map (·.2) = zs.reverse := by
  unfold bw
  rw [List.map_reverse, List.map_map]
  congr 1
  have : ((fun x : Nat × α => x.2) ∘ fun p : α × Nat => (p.2, p.1)) = fun p => p.1 := rfl
  rw [this]
  simp
/-- what lay below n, and a block B, stay -/
def Kq (n B : Nat) (W W' : World) : Prop := Below n W W' ∧ (B < W.heap.size → W'.heap[B]? = W.heap[B]?)
theorem Kq.refl (n B : Nat) (W : World) : Kq n B W W := ⟨Below.refl _ _, fun _ => rfl⟩
theorem Kq.trans {n B : Nat} {X Y Z : World} (h : Kq n B X Y) (k : Kq n B Y Z) : Kq n B X Z :=
  ⟨h.1.trans k.1, fun hb => (k.2 (Nat.lt_of_lt_of_le hb h.1.size)).trans (h.2 hb)⟩
theorem Kq.put {n B : Nat} {W : World} {l : Nat} {o' : Obj} (hs : n ≤ W.heap.size) (hn : n ≤ l) (hB : B < l) : Kq n B W (W.putObj l o') := by
  have hg := grownBy_putObj' W l o'
  exact ⟨(Below.refl n W).grown hg hs (fun k e => by cases e; exact hn), fun hb => hg.block B hb (fun e => by cases e; omega)⟩
theorem Kq.cell {n B : Nat} {W W' : World} (h : Kq n B W W') (hb : B < W.heap.size) (i : Nat) : W'.cell? ⟨B, i, none⟩ = W.cell? ⟨B, i, none⟩ := by
  unfold World.cell?
  rw [h.2 hb]
set_option maxRecDepth 100000 in
set_option maxHeartbeats 4000000 in
theorem back1_in (F : Fence) (n : Nat) (hF : F.fn 52) (hro : F.round = none) (hn : 1 ≤ n) (w0 : World) (l Bs n₀ : Nat) (A : Option Addr) (cap : Nat) (zs : List (StG w0)) (hl : zs.length ≤ 200) (J Jx : List (Nat × StG w0) → World → Prop)
    (hY : ∀ pre x W, J pre W → pre.length < zs.length → YieldAt F (n - 1) Tryz.prog l #[.int .i64 (x.1 : Int), x.2.1.v] W fun e W' =>
      (e = .returned (.bool true) ∧ J (pre ++ [x]) W' ∧ Kq n₀ Bs W W') ∨ (e = .returned (.bool false) ∧ Jx (pre ++ [x]) W'))
    (W : World) (hBl : Bs < W.heap.size) (hBs : W.cell? ⟨Bs, 0, none⟩ = some (.slice A zs.length cap))
    (hc : 0 < zs.length → ∃ b off, A = some ⟨b, off, none⟩ ∧ b < n₀ ∧ ∀ k (hk : k < zs.length), W.cell? ⟨b, off + k * 4, none⟩ = some (.int .i64 zs[k].1.kd) ∧ W.cell? ⟨b, off + k * 4 + 1, none⟩ = some (.slice zs[k].1.cs.a zs[k].1.cs.xs.length zs[k].1.cs.c) ∧ W.cell? ⟨b, off + k * 4 + 2, none⟩ = some (.int .i64 zs[k].1.at_) ∧ W.cell? ⟨b, off + k * 4 + 3, none⟩ = some (.int .i64 zs[k].1.by_)) (h0 : J [] W) :
    CallsIn F n Tryz.prog 52 #[.func (.yield l) #[] #[], .pointer (some ⟨Bs, 0, none⟩)] W fun e W' => (∃ v, e = .returned v) ∧
      ((∃ ys, ys = bw zs ∧ J ys W') ∨ (∃ pre, (∃ k, k ≤ zs.length ∧ pre = (bw zs).take k) ∧ Jx pre W')) := by
  obtain ⟨ln, hln⟩ : ∃ ln, zs.length = ln := ⟨_, rfl⟩
  have hwl : IntKind.i64.wrap ((ln : Int) - 1) = (ln : Int) - 1 := IntWalk.i64_in _ (by omega)
  have HLN := Lib.hid hln
  rw [hln] at hBs
  refine callsIn_of_wp Tryz.func52 rfl hF ?_ hro
  simp only [Tryz.ntmps52, List.size_toArray, List.length_cons, List.length_nil, Nat.reduceAdd, Nat.reduceSub, Array.replicate_succ, Array.replicate_zero, List.push_toArray, List.append_toArray, List.nil_append, List.cons_append]
  gi_wp2
  gi_loopw [3] (fun i wr => ∃ (k : Nat) (z : Int), k ≤ ln ∧ z = (ln : Int) - 1 - (k : Int) ∧ i = .int .i64 z ∧ J ((bw zs).take k) wr ∧ Kq n₀ Bs W wr)
    (fun i _ => (intOf i + 1).toNat)
  case atStart => exact ⟨0, (ln : Int) - 1, Nat.zero_le _, by omega, by first | rfl | rw [hwl], h0, Kq.refl _ _ _⟩
  case round =>
    obtain ⟨k, z, hk, hz, rfl, hJs, hnx⟩ := hrel
    have hb1 : wr.cell? ⟨Bs, 0, none⟩ = some (.slice A ln cap) := (hnx.cell hBl 0).trans hBs
    by_cases hlt : k < ln
    · obtain ⟨m, hm⟩ : ∃ m : Nat, m = ln - 1 - k := ⟨_, rfl⟩
      obtain rfl : z = (m : Int) := by omega
      have hkz : k < zs.length := by omega
      have hmz : m < zs.length := by omega
      obtain ⟨b, off, rfl, hb, hcs⟩ := hc (by omega)
      have hq : ∀ j, wr.cell? ⟨b, j, none⟩ = W.cell? ⟨b, j, none⟩ := fun j => hnx.1.cell (p := ⟨b, j, none⟩) hb
      obtain ⟨c0, c1, c2, c3⟩ := hcs m hmz
      rw [← hq] at c0 c1 c2 c3
      have hg := bw_get zs k hkz
      have hme : zs.length - 1 - k = m := by omega
      have hTK : (bw zs).take (k + 1) = (bw zs).take k ++ [(m, zs[m])] := by
        rw [List.take_succ_eq_append_getElem (by rw [bw_len]; exact hkz), hg]
        simp only [hme]
      obtain ⟨fn, tmps, assign, body, hy, hR⟩ := hY _ (m, zs[m]) wr hJs (by rw [List.length_take, bw_len]; omega)
      rw [← hTK] at hR
      obtain ⟨Z, hZ⟩ : ∃ Z, zs[m] = Z := ⟨_, rfl⟩
      rw [hZ] at c0 c1 c2 c3 hy
      obtain ⟨⟨sk, ⟨sA, sc, sx⟩, sa, sb⟩, hzz⟩ := Z
      dsimp only [StpM.v, Slc.v] at hy c0 c1 c2 c3
      have HME : Hid ((m : Int) = (ln : Int) - 1 - (k : Int)) := by show _ = _; omega
      have i0 : (0 : Int) ≤ (m : Int) := by omega
      have i1 : (m : Int) < (ln : Int) := by omega
      clear hY hcs hq hg hme hTK hzz hZ hz hm
      gi_wp2
      refine hR.mono ?_
      rintro e W3 (⟨rfl, hJ3, hk3⟩ | ⟨rfl, hJx3⟩)
      · gi_wp2
        go_roundw
        case rel => exact ⟨k + 1, (m : Int) - 1, by omega, by have := HME.out; omega, by go_num, hJ3, hnx.trans hk3⟩
        case measure => simp [intOf] <;> omega
      · gi_wp2
        refine bodyPost_ret (results_none rfl _ _ _) rfl ?_
        exact ⟨⟨_, rfl⟩, .inr ⟨_, ⟨k + 1, by rw [HLN.out]; omega, rfl⟩, hJx3⟩⟩
    · obtain rfl : k = ln := by omega
      have hzz : decide ((0 : Int) ≤ z) = false := decide_eq_false (by omega)
      have hJe : J (bw zs) wr := by rw [List.take_of_length_le (by rw [bw_len, HLN.out]; exact Nat.le_refl _)] at hJs; exact hJs
      clear hz hJs
      gi_wp2
      go_end0
      exact ⟨⟨_, rfl⟩, .inl ⟨_, rfl, hJe⟩⟩
set_option maxHeartbeats 1000000 in
theorem back_in (F : Fence) (n : Nat) (hF : F.fn 32) (hro : F.round = none) (A : Option Addr) (len cap : Nat) (w : World) :
    CallsIn F n Tryz.prog 32 #[.slice A len cap] w fun e w' => e = .returned (.func (.func 52) #[] #[.pointer (some ⟨w.heap.size, 0, none⟩)]) ∧ w' = w.alloc (.cells #[.slice A len cap] 25) := by
  refine callsIn_of_wp Tryz.func32 rfl hF ?_ hro
  simp only [Tryz.ntmps32, List.size_toArray, List.length_cons, List.length_nil, Nat.reduceAdd, Nat.reduceSub, Array.replicate_succ, Array.replicate_zero, List.push_toArray, List.append_toArray, List.nil_append, List.cons_append]
  gi_wp2
  go_ret
  exact ⟨rfl, rfl⟩
/-- slices.Backward's value: the steps, the last first; or the first of these. -/
theorem back_stops (F : Fence) (n : Nat) (hF : F.fn 52) (hro : F.round = none) (hn : 1 ≤ n) (w0 : World) (Bs n₀ : Nat) (A : Option Addr) (cap : Nat) (zs : List (StG w0)) (hl : zs.length ≤ 200) (w : World) (hBs : Bs < w.heap.size) (hn₀ : n₀ ≤ w.heap.size)
    (hc : w.cell? ⟨Bs, 0, none⟩ = some (.slice A zs.length cap))
    (hI : 0 < zs.length → ∃ b off, A = some ⟨b, off, none⟩ ∧ b < n₀ ∧ ∀ k (hk : k < zs.length), w.cell? ⟨b, off + k * 4, none⟩ = some (.int .i64 zs[k].1.kd) ∧ w.cell? ⟨b, off + k * 4 + 1, none⟩ = some (.slice zs[k].1.cs.a zs[k].1.cs.xs.length zs[k].1.cs.c) ∧ w.cell? ⟨b, off + k * 4 + 2, none⟩ = some (.int .i64 zs[k].1.at_) ∧ w.cell? ⟨b, off + k * 4 + 3, none⟩ = some (.int .i64 zs[k].1.by_)) :
    SeqStopsK F n Tryz.prog 52 #[.pointer (some ⟨Bs, 0, none⟩)] (fun x : Nat × StG w0 => #[Value.int .i64 (x.1 : Int), x.2.1.v]) (Kq n₀ Bs) (fun ys => ys = bw zs)
      (fun pre => ∃ k, k ≤ zs.length ∧ pre = (bw zs).take k) zs.length w := fun l J Jx W hW _ _ hY h0 => by
  refine back1_in F n hF hro hn w0 l Bs n₀ A cap zs hl J Jx hY W (Nat.lt_of_lt_of_le hBs hW.size) ((hW.cell (p := ⟨Bs, 0, none⟩) hBs).trans hc) (fun h => ?_) h0
  obtain ⟨b, off, e, hb, hcs⟩ := hI h
  refine ⟨b, off, e, hb, fun k hk => ?_⟩
  have hq : ∀ j, W.cell? ⟨b, j, none⟩ = w.cell? ⟨b, j, none⟩ := fun j => hW.cell (p := ⟨b, j, none⟩) (Nat.lt_of_lt_of_le hb hn₀)
  rw [hq, hq, hq, hq]
  exact hcs k hk
end Go.Proofs.YteaghgbpcpileaaGreatDoor
/- The contract of edit.Turned. -/
namespace Go.Proofs.YteaghgbpcpileaaGreatDoor
open Go.RowKit Go.Shelf Go.Dw

attribute [local go_sem] Oper.semAt_some

theorem grown_set (W : World) (b i : Nat) (v : Value) : W.grownBy (W.setCell ⟨b, i, none⟩ v) (some b) :=
  ⟨rfl, rfl, rfl, by simp [World.setCell], fun k _ hk => Below.heap_setCell _ _ _ k (fun e => hk (by rw [e]))⟩
/-- blocks of a type stay where what is no cells turns -/
theorem kpT_none {T : TypeId} {X Y : World} {row : Option Nat} (hg : X.grownBy Y row) (hr : ∀ r, row = some r → ∃ o : Obj, X.heap[r]? = some o ∧ o.isCells = false) : KpT T X Y :=
  ⟨hg.size, fun b cs fr hb => hg.block b (Array.getElem?_eq_some_iff.1 hb).1 fun e => by
    obtain ⟨o, ho, hc⟩ := hr b e.symm
    rw [hb] at ho; cases ho; cases hc⟩
/-- what a step that was made says: its clips, and their points, lie in blocks of their types -/
structure StpT (B : Nat) (w : World) (s : StpM) : Prop where
  kd : inI64 s.kd
  at_ : inI64 s.at_
  by_ : inI64 s.by_
  n : s.cs.xs.length ≤ B
  r : RdT 39 w s.cs.a (s.cs.xs.flatMap CliM.cs)
  o : ∀ c ∈ s.cs.xs, CliT w c ∧ c.e.xs.length ≤ B
theorem StpT.kp {B : Nat} {w w' : World} {s : StpM} (h : StpT B w s) (h1 : KpT 39 w w') (h2 : KpT 75 w w') : StpT B w' s := ⟨h.kd, h.at_, h.by_, h.n, h.r.kp h1, fun c hc => ⟨(h.o c hc).1.kp h2, (h.o c hc).2⟩⟩
theorem StpT.b {B : Nat} {w : World} {s : StpM} (h : StpT B w s) (hB : B ≤ 9223372036854775807) : StpB B w s := ⟨⟨h.kd, h.at_, h.by_, Nat.le_trans h.n hB, h.r.rd, fun c hc => (h.o c hc).1.1⟩, h.n, fun c hc => (h.o c hc).2⟩
/-- what the rounds of Turned leave -/
structure Rl (w0 : World) (Bs : Nat) (W W' : World) : Prop where
  b : Below w0.heap.size W W'
  s : Bs < W.heap.size → W'.heap[Bs]? = W.heap[Bs]?
  k : KeepsOthers W W'
  c : KpT 39 W W'
  p : KpT 75 W W'
theorem Rl.trans {w0 : World} {Bs : Nat} {X Y Z : World} (h : Rl w0 Bs X Y) (k : Rl w0 Bs Y Z) : Rl w0 Bs X Z :=
  ⟨h.b.trans k.b, fun hb => (k.s (Nat.lt_of_lt_of_le hb h.b.size)).trans (h.s hb), h.k.trans k.k, h.c.trans k.c, h.p.trans k.p⟩
theorem Rl.gq {w0 : World} {Bs : Nat} {X Y : World} (h : Gq X Y) (hb : w0.heap.size ≤ X.heap.size) : Rl w0 Bs X Y :=
  ⟨Below.mono h hb, fun hs => h.block Bs hs, ⟨Below.size h, fun k _ hk _ => (h.block k (Array.getElem?_eq_some_iff.1 hk).1).trans hk⟩, .of_below h, .of_below h⟩
theorem Rl.set {w0 : World} {Bs g i : Nat} {X : World} {T : TypeId} (u : Value) (hb : w0.heap.size ≤ g) (hs : Bs ≠ g) (ht : ∃ cs fr, X.heap[g]? = some (.cells cs T fr)) (h1 : T ≠ 39) (h2 : T ≠ 75) : Rl w0 Bs X (X.setCell ⟨g, i, none⟩ u) :=
  ⟨(Below.refl _ X).setCell (p := ⟨g, i, none⟩) hb u, fun hl => Below.heap_setCell X ⟨g, i, none⟩ u Bs (by exact hs), KeepsOthers.setCell _ _ _, (KpT.refl _ _).setCell ht h1, (KpT.refl _ _).setCell ht h2⟩
theorem Rl.own {w0 : World} {Bs N n size : Nat} {X Y : World} {T : TypeId} {v : Value} {xs : List Value} (ho : X.ownsRow N T size v n xs) (hg : X.grownBy Y v.ownBlock) (hb : w0.heap.size ≤ N) (hX : N ≤ X.heap.size) (hs : Bs < N) (h1 : T ≠ 39) (h2 : T ≠ 75) : Rl w0 Bs X Y :=
  ⟨(Below.refl _ X).grown hg (Nat.le_trans hb hX) (fun k e => Nat.le_trans hb (ho.lt k e).1), fun hl => hg.block Bs hl (fun e => by have := (ho.lt Bs e.symm).1; omega),
    KeepsOthers.of_grownBy hg (fun j _ ej hj => by
      obtain ⟨cs, fr, h⟩ := own_ty ho j ej
      rw [h] at hj; cases hj; rfl), KpT.own ho hg h1, KpT.own ho hg h2⟩
theorem stg_list (w0 : World) : ∀ ls : List StpM, (∀ s ∈ ls, StpB 1048576 w0 s ∧ stF s.x = 0) → ∃ zs : List (StG w0), ls = zs.map (fun z => z.1)
  | [], _ => ⟨[], rfl⟩
  | s :: ls, h => by
    obtain ⟨zs, hz⟩ := stg_list w0 ls (fun x hx => h x (List.mem_cons_of_mem _ hx))
    exact ⟨⟨s, h s (by simp)⟩ :: zs, congrArg (s :: ·) hz⟩
/-- what is said between two rounds -/
def TuI (w0 : World) (Bs B5 : Nat) (lv : Value) (pre : List (Nat × StG w0)) (W : World) : Prop :=
  (Boxed W Bs 25 lv ∧ ∃ (v : Value) (ys : List StpM), Boxed W B5 25 v ∧ W.ownsRow (Bs + 1) 60 4 v ys.length (ys.flatMap StpM.cells) ∧ ys.map StpM.x = pre.map (fun p => turn p.2.1.x) ∧ ∀ y ∈ ys, StpT 1048576 W y) ∧ Below w0.heap.size w0 W
def TuA (B5 : Nat) (sk : Int) (cv : Value) (sa sb : Int) (Bx : Nat) (W : World) : Prop :=
  Blk W Bx 60 [.int .i64 sk, cv, .int .i64 sa, .int .i64 sb] ∧ ∃ v, Boxed W B5 25 v ∧ v.ownBlock ≠ some Bx
theorem tuI_own (w0 : World) (Bs B5 N : Nat) (lv : Value) (hN : w0.heap.size ≤ N) : OwnFrom N (TuI w0 Bs B5 lv) := by
  rintro pre X Y row ⟨⟨hs, v, ys, hv, hr, hx, hT⟩, hB⟩ hg hrow
  have hr' : ∀ r, row = some r → ∃ o : Obj, X.heap[r]? = some o ∧ o.isCells = false := fun r e => (hrow r e).2
  have h1 : KpT 39 X Y := kpT_none hg hr'
  have h2 : KpT 75 X Y := kpT_none hg hr'
  have hne : ∀ (B : Nat) (u : Value) (t : TypeId), Boxed X B t u → some B ≠ row := fun B u t hb e => by
    obtain ⟨o, ho, hc⟩ := hr' B e.symm
    rw [show X.heap[B]? = _ from hb] at ho; cases ho; cases hc
  refine ⟨⟨hs.kept hg (hne _ _ _ hs), v, ys, hv.kept hg (hne _ _ _ hv), hr.kept hg ?_, hx, fun y hy => (hT y hy).kp h1 h2⟩, hB.grown hg hB.size (fun k e => Nat.le_trans hN (hrow k e).1)⟩
  by_cases h0 : v.ownBlock = none
  · exact .inl h0
  · refine .inr fun e => ?_
    cases hv' : v.ownBlock with
    | none => exact h0 hv'
    | some g =>
      obtain ⟨cs, fr, hgg⟩ := own_ty hr g hv'
      obtain ⟨o, ho, hc⟩ := hr' g (by rw [← e, hv'])
      rw [hgg] at ho; cases ho; cases hc
theorem tuA_own (B5 : Nat) (sk : Int) (cv : Value) (sa sb : Int) (Bx N : Nat) : OwnFrom N (fun (_ : Unit) W => TuA B5 sk cv sa sb Bx W) := by
  rintro _ X Y row ⟨hk, v, hv, hn⟩ hg hrow
  have hne : ∀ (B : Nat) cs (t : TypeId) fr, X.heap[B]? = some (.cells cs t fr) → some B ≠ row := fun B cs t fr hb e => by
    obtain ⟨o, ho, hc⟩ := (hrow B e.symm).2
    rw [hb] at ho; cases ho; cases hc
  exact ⟨(hg.block Bx hk.lt (hne _ _ _ _ hk)).trans hk, v, hv.kept hg (hne _ _ _ _ hv), hn⟩
theorem tu_new {kd a b : Int} {Ao : Option Addr} {co no Bx : Nat} {os : List CliM} {sx : List CliM} {Wb Wo : World} {cs : List Value} (h1 : inI64 kd) (h2 : inI64 a) (h3 : inI64 b) (h4 : sx.length ≤ 1048576) (h5 : ∀ y ∈ sx, y.e.xs.length ≤ 1048576) (hox : os.map CliM.x = sx.map CliM.x)
    (hoo : Wo.ownsRow Wb.heap.size 39 7 (.slice Ao no co) no (os.flatMap CliM.cs)) (hot : ∀ y ∈ os, CliT Wo y) (hko : Blk Wo Bx 60 cs) {u : Value} : StpT 1048576 (Wo.setCell ⟨Bx, 1, none⟩ u) ⟨kd, ⟨Ao, co, os⟩, a, b⟩ := by
  have hc : KpT 39 Wo (Wo.setCell ⟨Bx, 1, none⟩ u) := (KpT.refl _ _).setCell ⟨_, _, hko⟩ (by decide)
  have hp : KpT 75 Wo (Wo.setCell ⟨Bx, 1, none⟩ u) := (KpT.refl _ _).setCell ⟨_, _, hko⟩ (by decide)
  have hl := congrArg List.length hox
  rw [List.length_map, List.length_map] at hl
  refine ⟨h1, h2, h3, by show os.length ≤ _; omega, (RdT.of_own hoo).kp hc, fun c hcm => ⟨(hot c hcm).kp hp, ?_⟩⟩
  obtain ⟨j, hj0, rfl⟩ := List.getElem_of_mem hcm
  have hj : j < os.length := hj0
  have h6 : (os.map CliM.x)[j]'(by rw [List.length_map]; exact hj) = (sx.map CliM.x)[j]'(by rw [List.length_map]; omega) := by simp only [hox]
  rw [List.getElem_map, List.getElem_map] at h6
  have h7 := congrArg Cli.e h6
  have h8 : os[j].e.xs = (sx[j]'(by omega)).e.xs := h7
  rw [h8]
  exact h5 _ (List.getElem_mem _)
theorem tu_end {w0 : World} {Bs B5 : Nat} {lv : Value} {pre : List (Nat × StG w0)} {x : Nat × StG w0} {W Wp w1 : World} {AO : Option Addr} {k cO : Nat} {ys : List StpM} {y : StpM} {tmp : Obj} {v' : Value}
    (hI : TuI w0 Bs B5 lv pre W) (hR : Rl w0 Bs W Wp) (h0 : w0.heap.size ≤ B5) (h5 : B5 < Bs) (hz : Bs + 1 ≤ Wp.heap.size) (hk : ys.length = k)
    (hs : Boxed Wp Bs 25 lv) (hb : Boxed Wp B5 25 (.slice AO k cO)) (ho : Wp.ownsRow (Bs + 1) 60 4 (.slice AO k cO) k (ys.flatMap StpM.cells)) (hx : ys.map StpM.x = pre.map (fun p => turn p.2.1.x)) (hT : ∀ y ∈ ys, StpT 1048576 Wp y) (hy : StpT 1048576 Wp y) (hyx : y.x = turn x.2.1.x)
    (hown : w1.ownsRow (Bs + 1) 60 4 v' (k + 1) (ys.flatMap StpM.cells ++ y.cells)) (hg : (Wp.alloc tmp).grownBy w1 (Value.slice AO k cO).ownBlock) :
    Boxed w1 B5 25 (.slice AO k cO) ∧ Rl w0 Bs W (w1.setCell ⟨B5, 0, none⟩ v') ∧ TuI w0 Bs B5 lv (pre ++ [x]) (w1.setCell ⟨B5, 0, none⟩ v') := by
  have hoA := ho.alloc tmp
  have hRA : Rl w0 Bs Wp (Wp.alloc tmp) := Rl.gq ((Gq.refl _).alloc _) (by omega)
  have hRG : Rl w0 Bs (Wp.alloc tmp) w1 := Rl.own hoA hg (by omega) (by simp; omega) (by omega) (by decide) (by decide)
  have hne : ∀ B, B < Bs + 1 → some B ≠ (Value.slice AO k cO).ownBlock := fun B hB e => by have := (ho.lt B e.symm).1; omega
  have hb1 : Boxed w1 B5 25 (.slice AO k cO) := (hb.alloc tmp).kept hg (hne B5 (by omega))
  have hs1 : Boxed w1 Bs 25 lv := (hs.alloc tmp).kept hg (hne Bs (by omega))
  have hRS : Rl w0 Bs w1 (w1.setCell ⟨B5, 0, none⟩ v') := Rl.set v' h0 (by omega) ⟨_, _, hb1⟩ (by decide) (by decide)
  have hRW := hR.trans (hRA.trans (hRG.trans hRS))
  have hc : KpT 39 Wp (w1.setCell ⟨B5, 0, none⟩ v') := (hRA.trans (hRG.trans hRS)).c
  have hp : KpT 75 Wp (w1.setCell ⟨B5, 0, none⟩ v') := (hRA.trans (hRG.trans hRS)).p
  refine ⟨hb1, hRW, ⟨hs1.other (by omega) _, v', ys ++ [y], hb1.set v', ?_, ?_, ?_⟩, hI.2.trans hRW.b⟩
  · rw [List.length_append, hk, List.flatMap_append]
    have : w1.ownsRow (Bs + 1) 60 4 v' (k + 1) (ys.flatMap StpM.cells ++ [y].flatMap StpM.cells) := by simpa using hown
    refine this.kept (grown_set _ B5 0 _) ?_
    by_cases hv : v'.ownBlock = none
    · exact .inl hv
    · refine .inr fun e => ?_
      have := (hown.lt B5 e).1; omega
  · rw [List.map_append, List.map_append, hx]
    show _ ++ [y.x] = _ ++ [turn x.2.1.x]
    rw [hyx]
  · intro z hz
    rcases List.mem_append.1 hz with hz | hz
    · exact (hT z hz).kp hc hp
    · rw [List.mem_singleton.1 hz]; exact hy.kp hc hp
set_option maxRecDepth 100000 in
set_option maxHeartbeats 8000000 in
theorem turned_any (l : Slc StpM) (w0 : World) (hl : StsB 1048576 w0 l) : Calls Tryz.prog 17 #[l.v] w0 (TurR 1048576 (turnedF (l.xs.map StpM.x)) w0) := by
  obtain ⟨lA, lc, ls⟩ := l
  have HLS := Lib.hid hl
  have HC1 := Lib.hid (checkSteps_any lA lc ls w0 hl.r)
  obtain ⟨R, hR⟩ : ∃ R, turnedF (ls.map StpM.x) = R := ⟨_, rfl⟩
  simp only [Slc.v]
  rw [hR]
  obtain ⟨f, hf⟩ : ∃ f, stpsF (ls.map StpM.x) = f := ⟨_, rfl⟩
  have HB1 : Hid (f ≠ 0 → R = ([], f)) := fun h0 => by rw [← hR, ← hf]; rw [← hf] at h0; unfold turnedF; rw [if_pos h0]
  have HB2 : Hid (f = 0 → R = ((ls.map StpM.x).reverse.map turn, 0)) := fun h0 => by rw [← hR]; unfold turnedF; rw [hf, if_neg (fun k => k h0)]
  have HAL : Hid (f = 0 → ls.length ≤ 200 ∧ ∀ s ∈ ls, stF s.x = 0) := fun h0 => by rw [← hf] at h0; exact stsF_all h0
  rw [hf] at HC1
  obtain ⟨ii, hii, hzi0, hzi1, hzi2⟩ := info_parts infoStp
  have HII := Lib.hid (And.intro hii (And.intro hzi0 (And.intro hzi1 hzi2)))
  clear hR hf hl hii hzi0 hzi1 hzi2
  refine (callsIn_wide (n := 6)).1 ?_
  refine callsIn_of_wp_marks Tryz.func17 rfl trivial ?_ rfl
  simp only [Tryz.ntmps17, List.size_toArray, List.length_cons, List.length_nil, Nat.reduceAdd, Nat.reduceSub, Array.replicate_succ, Array.replicate_zero, List.push_toArray, List.append_toArray, List.nil_append, List.cons_append]
  by_cases hf0 : f = 0
  case neg =>
    obtain ⟨ln, hln⟩ : ∃ ln : Nat, ls.length = ln := ⟨_, rfl⟩
    rw [hln] at HC1 ⊢
    have hfb : (f != 0) = true := by simpa using hf0
    have HE := Lib.hid (HB1.out hf0)
    clear hf0 HB1 HB2 HAL hln
    gi_wp2_with (refine ⟨trivial, ?_⟩; gi_at_call 31; refine (callsIn_wide.2 HC1.out).mono ?_; clear HC1; rintro e w2 ⟨rfl, hg2⟩)
    exact ⟨_, results_tmp2 rfl _ _ _, turR_bad HE.out hg2⟩
  subst hf0
  have HE := Lib.hid (HB2.out rfl)
  obtain ⟨hl2, hal⟩ := HAL.out rfl
  obtain ⟨zs, hzs⟩ := stg_list w0 ls (fun s hs => ⟨HLS.out.o s hs, hal s hs⟩)
  subst hzs
  have HZL : Hid ((zs.map (fun z => z.1)).length = zs.length) := List.length_map _
  rw [HZL.out] at HC1 hl2 ⊢
  clear HB1 HB2 HAL hal
  obtain ⟨ln, hln⟩ : ∃ ln : Nat, zs.length = ln := ⟨_, rfl⟩
  rw [hln] at HC1 hl2 ⊢
  gi_wp2_with (first | (refine ⟨trivial, ?_⟩; gi_at_call 31; refine (callsIn_wide.2 HC1.out).mono ?_; clear HC1; rintro e w2 ⟨rfl, hg2⟩) | (refine ⟨trivial, ?_⟩; gi_at_call 32; refine (back_in Fence.wide _ trivial rfl lA ln lc _).mono ?_; rintro e w' ⟨rfl, rfl⟩))
  obtain ⟨B5, hB5⟩ : ∃ B, w2.heap.size = B := ⟨_, rfl⟩
  have b5 : Boxed (w2.alloc (.cells #[.slice none 0 0] 25)) B5 25 (.slice none 0 0) := by rw [← hB5]; exact Boxed.new w2 _ _
  have hz4 : (w2.alloc (.cells #[.slice none 0 0] 25)).heap.size = B5 + 1 := by rw [← hB5]; simp
  have bs : Boxed ((w2.alloc (.cells #[.slice none 0 0] 25)).alloc (.cells #[.slice lA ln lc] 25)) (B5 + 1) 25 (.slice lA ln lc) := by rw [← hz4]; exact Boxed.new _ _ _
  have hg5 : Gq w2 ((w2.alloc (.cells #[.slice none 0 0] 25)).alloc (.cells #[.slice lA ln lc] 25)) := (Gq.refl _).alloc _ |>.trans ((Gq.refl _).alloc _)
  have hz5 : ((w2.alloc (.cells #[.slice none 0 0] 25)).alloc (.cells #[.slice lA ln lc] 25)).heap.size = B5 + 2 := by rw [← hB5]; simp
  have b5' := b5.alloc (.cells #[.slice lA ln lc] 25)
  obtain ⟨W5, hW5⟩ : ∃ W5, (w2.alloc (.cells #[.slice none 0 0] 25)).alloc (.cells #[.slice lA ln lc] 25) = W5 := ⟨_, rfl⟩
  have hg05 : Gq w0 W5 := by rw [← hW5]; exact hg2.trans hg5
  have hz05 : w0.heap.size ≤ B5 := by rw [← hB5]; exact Below.size hg2
  rw [hW5] at bs hz5 b5' ⊢
  simp only [hB5]
  clear hW5 hB5 hz4 b5 hg5 hg2
  have h0 : TuI w0 (B5 + 1) B5 (.slice lA ln lc) [] W5 := ⟨⟨bs, .slice none 0 0, [], b5', World.ownsRow_nil _ _ _ _, rfl, fun y hy => by simp at hy⟩, hg05⟩
  have HCE : Hid (0 < zs.length → ∃ b off, lA = some ⟨b, off, none⟩ ∧ b < w0.heap.size ∧ ∀ k (hk : k < zs.length), W5.cell? ⟨b, off + k * 4, none⟩ = some (.int .i64 zs[k].1.kd) ∧ W5.cell? ⟨b, off + k * 4 + 1, none⟩ = some (.slice zs[k].1.cs.a zs[k].1.cs.xs.length zs[k].1.cs.c) ∧ W5.cell? ⟨b, off + k * 4 + 2, none⟩ = some (.int .i64 zs[k].1.at_) ∧ W5.cell? ⟨b, off + k * 4 + 3, none⟩ = some (.int .i64 zs[k].1.by_)) := fun h => by
    obtain ⟨b, off, e, hb, hcs⟩ := stp_at HLS.out.r (by show 0 < (zs.map (fun z => z.1)).length; rw [List.length_map]; exact h)
    refine ⟨b, off, e, hb, fun k hk => ?_⟩
    have hq : ∀ j, W5.cell? ⟨b, j, none⟩ = w0.cell? ⟨b, j, none⟩ := fun j => Below.cell hg05 (p := ⟨b, j, none⟩) hb
    have := hcs k (by show k < (zs.map (fun z => z.1)).length; rw [List.length_map]; exact hk)
    rw [List.getElem_map] at this
    rw [hq, hq, hq, hq]
    exact this
  have hst := back_stops Fence.wide 5 trivial rfl (by omega) w0 (B5 + 1) w0.heap.size lA lc zs (by omega) W5 (by omega) (by omega) (by rw [hln]; exact bs.cell) HCE.out
  refine wpIn_rangeFunc_ownH rfl (by omega) (gf := 52) (lb := #[.pointer (some ⟨B5 + 1, 0, none⟩)]) rfl trivial (enters_of Tryz.func52 (by kernel_rfl) rfl)
    hst (fun h k => h.trans k) (fun W l o o' hwl hlo _ _ => Kq.put (by have := (Array.getElem?_eq_some_iff.1 hlo).1; omega) (by omega) (by omega)) (Below.refl _ _) (fun _ => rfl)
    (TuI w0 (B5 + 1) B5 (.slice lA ln lc)) (fun _ _ _ => False) (tuI_own w0 (B5 + 1) B5 _ _ (by omega)) (fun _ _ _ _ _ hs _ _ => hs) h0
    (fun x a' W => ∃ Bx, B5 + 2 ≤ Bx ∧ TuA B5 x.2.1.kd x.2.1.cs.v x.2.1.at_ x.2.1.by_ Bx W ∧ a' = { tmps := #[.slice lA ln lc, undef, .slice none 0 0, .int .i64 0, .int .i64 0, .pointer (some ⟨B5, 0, none⟩), undef, .pointer (some ⟨Bx, 0, none⟩), .slice lA ln lc, .int .i64 0, .int .i64 0, .bool false, undef, .slice lA ln lc, .func (.func 52) #[] #[.pointer (some ⟨B5 + 1, 0, none⟩)], .int .i64 (x.1 : Int), x.2.1.v, undef, undef, undef, undef, undef, undef, undef, undef, undef, undef, undef, undef, undef, undef, undef, undef, undef, undef, undef, undef, undef, undef, undef, undef, undef, undef, undef], defers := [] })
    (fun x a' _ X Y row hs hg hr => by obtain ⟨Bx, h1, h2, h3⟩ := hs; exact ⟨Bx, h1, tuA_own B5 _ _ _ _ Bx _ () X Y row h2 hg hr, h3⟩)
    ?assign ?body ?done ?stop
  case assign =>
    rintro l pre ⟨i, ⟨⟨sk, ⟨sA, sc, sx⟩, sa, sb⟩, hx1, hx2⟩⟩ W K hI hK
    obtain ⟨⟨hs, v, ys, hv, hr, hx, hT⟩, hB⟩ := hI
    dsimp only [StpM.v, Slc.v] at hK ⊢
    obtain ⟨sn, hsn⟩ : ∃ sn : Nat, sx.length = sn := ⟨_, rfl⟩
    rw [hsn] at hK ⊢
    gi_wp2
    have hgq : Gq W (W.alloc (.cells #[.int .i64 sk, .slice sA sn sc, .int .i64 sa, .int .i64 sb] 60)) := (Gq.refl _).alloc _
    have hzW : B5 + 2 ≤ W.heap.size := hs.lt
    have hR : Rl w0 (B5 + 1) W (W.alloc (.cells #[.int .i64 sk, .slice sA sn sc, .int .i64 sa, .int .i64 sb] 60)) := Rl.gq hgq (by omega)
    refine hK _ _ (hR.k.from _) ⟨hR.b, hR.s⟩ ⟨⟨hs.alloc _, v, ys, hv.alloc _, hr.alloc _, hx, fun y hy => (hT y hy).kp hR.c hR.p⟩, hB.trans hR.b⟩ ⟨W.heap.size, hzW, ⟨Blk.new W _ _, v, hv.alloc _, fun e => ?_⟩, ?_⟩
    · have := (hr.lt _ e).2; omega
    · rfl
  case body =>
    rintro l pre X a' W hl ⟨r, hr⟩ hI ⟨Bx, hBx, ⟨hkx, v1, hv1, hvn⟩, rfl⟩ hlt
    obtain ⟨s, hs1, hXs⟩ : ∃ s : StpM, (StpB 1048576 w0 s ∧ stF s.x = 0) ∧ X.2.1 = s := ⟨X.2.1, X.2.2, rfl⟩
    obtain ⟨i, hi⟩ : ∃ i : Nat, X.1 = i := ⟨_, rfl⟩
    rw [hXs] at hkx ⊢
    rw [hi]
    have HXE : Hid (X.2.1 = s) := hXs
    clear hXs hi
    obtain ⟨sk, ⟨sA, sc, sx⟩, sa, sb⟩ := s
    obtain ⟨hx1, hx2⟩ := hs1
    have HI := Lib.hid hI
    obtain ⟨⟨hs, v, ys, hv, hr, hx, hT⟩, hB⟩ := hI
    obtain rfl : v1 = v := by
      have h1 : W.heap[B5]? = _ := hv1
      have h2 : W.heap[B5]? = _ := hv
      rw [h1] at h2; cases h2; rfl
    obtain ⟨AO, cO, rfl⟩ := slice_of_own hr
    obtain ⟨k, hk⟩ : ∃ k, ys.length = k := ⟨_, rfl⟩
    rw [hk] at hv hr hv1 hvn
    have hyl := hk
    have hkl : pre.length = k := by
      have := congrArg List.length hx
      rw [List.length_map, List.length_map] at this; omega
    have hkn : k < ln := by omega
    clear hkl hk hv1
    obtain ⟨sn, hsn⟩ : ∃ sn : Nat, sx.length = sn := ⟨_, rfl⟩
    dsimp only [StpM.v, Slc.v] at hkx ⊢
    rw [hsn] at hkx ⊢
    have x0 : W.cell? ⟨Bx, 0, none⟩ = some (.int .i64 sk) := hkx.cell 0
    have x2 : W.cell? ⟨Bx, 2, none⟩ = some (.int .i64 sa) := hkx.cell 2
    have x3 : W.cell? ⟨Bx, 3, none⟩ = some (.int .i64 sb) := hkx.cell 3
    have xf0 : W.frozen? ⟨Bx, 0, none⟩ = false := hkx.frozen 0
    have xf2 : W.frozen? ⟨Bx, 2, none⟩ = false := hkx.frozen 2
    by_cases hk1 : sk = 1
    · have e1 : (sk == 1) = true := by simp [hk1]
      have hRb : Rl w0 (B5 + 1) W (W.setCell ⟨Bx, 0, none⟩ (.int .i64 2)) := Rl.set (i := 0) _ (by omega) (by omega) ⟨_, _, hkx⟩ (by decide) (by decide)
      have hkb : Blk (W.setCell ⟨Bx, 0, none⟩ (.int .i64 2)) Bx 60 [.int .i64 2, .slice sA sn sc, .int .i64 sa, .int .i64 sb] := hkx.set_ 0 _
      have hvb : Boxed (W.setCell ⟨Bx, 0, none⟩ (.int .i64 2)) B5 25 (.slice AO k cO) := hv.kept (grown_set W Bx 0 _) (fun e => by cases e; omega)
      have hsb : Boxed (W.setCell ⟨Bx, 0, none⟩ (.int .i64 2)) (B5 + 1) 25 (.slice lA ln lc) := hs.kept (grown_set W Bx 0 _) (fun e => by cases e; omega)
      have hrb : (W.setCell ⟨Bx, 0, none⟩ (.int .i64 2)).ownsRow (B5 + 1 + 1) 60 4 (.slice AO k cO) k (ys.flatMap StpM.cells) := hr.kept (grown_set W Bx 0 _) (.inr (fun e => hvn e))
      have hTb : ∀ y ∈ ys, StpT 1048576 (W.setCell ⟨Bx, 0, none⟩ (.int .i64 2)) y := fun y hy => (hT y hy).kp hRb.c hRb.p
      have hyk : stF (⟨sk, sx.map CliM.x, sa, sb⟩ : Stp) = 0 := hx2
      have HOD : Hid (Calls Tryz.prog 29 #[.slice sA sn sc] (W.setCell ⟨Bx, 0, none⟩ (.int .i64 2)) fun e w' => ∃ A' c', ∃ os : List CliM, e = .returned (.slice A' os.length c') ∧ os.map CliM.x = sx.map CliM.x ∧ w'.ownsRow (W.setCell ⟨Bx, 0, none⟩ (.int .i64 2)).heap.size 39 7 (.slice A' os.length c') os.length (os.flatMap CliM.cs) ∧ (∀ y ∈ os, CliT w' y) ∧ Gq (W.setCell ⟨Bx, 0, none⟩ (.int .i64 2)) w') := by
        have h1 := owned_any sA sc sx (W.setCell ⟨Bx, 0, none⟩ (.int .i64 2)) (hx1.o.cr.below (hB.trans hRb.b)) (fun y hy => (hx1.o.co y hy).below (hB.trans hRb.b)) (fun y hy => by have := hx1.e y hy; omega) (by have := hx1.n; show sx.length ≤ _; have h : sx.length ≤ 1048576 := this; omega)
        rw [hsn] at h1
        exact h1
      have HSN : Hid (sx.length ≤ 1048576 ∧ ∀ y ∈ sx, y.e.xs.length ≤ 1048576) := ⟨hx1.n, hx1.e⟩
      have HNUM : Hid (inI64 2 ∧ inI64 sa ∧ inI64 sb) := ⟨⟨by decide, by decide⟩, hx1.o.at_, hx1.o.by_⟩
      have HTX : Hid (∀ cs : Slc CliM, cs.xs.map CliM.x = sx.map CliM.x → StpM.x ⟨2, cs, sa, sb⟩ = turn (⟨sk, sx.map CliM.x, sa, sb⟩ : Stp)) := fun cs h => by
        show Stp.mk _ (cs.xs.map CliM.x) _ _ = _
        rw [h]; unfold turn; rw [if_pos hk1]
      have hkB : k ≤ 200 := by omega
      have HRB := Lib.hid hRb
      have HKB := Lib.hid hkb
      have HVB := Lib.hid hvb
      have HSB := Lib.hid hsb
      have HRWB := Lib.hid hrb
      have HTB := Lib.hid hTb
      have HXX := Lib.hid hx
      have HYK := Lib.hid hyl
      have HB5 : Hid (w0.heap.size ≤ B5 ∧ B5 + 2 ≤ Bx ∧ (Value.slice AO k cO).ownBlock ≠ some Bx) := ⟨hz05, hBx, hvn⟩
      have a0 := hkb.cell 1
      clear a0
      have g1 : (W.setCell ⟨Bx, 0, none⟩ (.int .i64 2)).cell? ⟨Bx, 1, none⟩ = some (.slice sA sn sc) := hkb.cell 1
      clear hRb hkb hvb hsb hrb hTb hyk hs hv hr hT hB hx hvn hx1 hx2 hlt hyl
      gi_wp2
      refine ⟨trivial, ?_⟩
      refine (CallsIn.inRound l (callsIn_wide.2 HOD.out)).mono ?_
      clear HOD g1
      rintro e Wo ⟨Ao, co, os, rfl, hox, hoo, hot, hog⟩
      obtain ⟨no, hno⟩ : ∃ no, os.length = no := ⟨_, rfl⟩
      rw [hno] at hoo ⊢
      have hko := blkq HKB.out hog
      have s1 : Wo.cell? ⟨Bx, 1, none⟩ = some (.slice sA sn sc) := hko.cell 1
      have s1f : Wo.frozen? ⟨Bx, 1, none⟩ = false := hko.frozen 1
      have hRo := HRB.out.trans (Rl.gq hog (by have := HRB.out.b.size; have := HVB.out.lt; have := HB5.out.1; omega))
      have hRp := hRo.trans (Rl.set (i := 1) (.slice Ao no co) (by have := HB5.out; omega) (by have := HB5.out; omega) ⟨_, _, hko⟩ (by decide) (by decide))
      have HRP : Hid (Rl w0 (B5 + 1) W (Wo.setCell ⟨Bx, 1, none⟩ (.slice Ao no co))) := hRp
      have HKP : Hid (Blk (Wo.setCell ⟨Bx, 1, none⟩ (.slice Ao no co)) Bx 60 [.int .i64 2, .slice Ao no co, .int .i64 sa, .int .i64 sb]) := hko.set_ 1 _
      have hvo : Boxed Wo B5 25 (.slice AO k cO) := (hog.block B5 HVB.out.lt).trans HVB.out
      have hso : Boxed Wo (B5 + 1) 25 (.slice lA ln lc) := (hog.block (B5 + 1) HSB.out.lt).trans HSB.out
      have HVP : Hid (Boxed (Wo.setCell ⟨Bx, 1, none⟩ (.slice Ao no co)) B5 25 (.slice AO k cO)) := hvo.kept (grown_set Wo Bx 1 _) (fun e => by cases e; have := HB5.out; omega)
      have HSP : Hid (Boxed (Wo.setCell ⟨Bx, 1, none⟩ (.slice Ao no co)) (B5 + 1) 25 (.slice lA ln lc)) := hso.kept (grown_set Wo Bx 1 _) (fun e => by cases e; have := HB5.out; omega)
      have HRWP : Hid ((Wo.setCell ⟨Bx, 1, none⟩ (.slice Ao no co)).ownsRow (B5 + 1 + 1) 60 4 (.slice AO k cO) k (ys.flatMap StpM.cells)) := (own_belowL HRWB.out hog).kept (grown_set Wo Bx 1 _) (.inr (fun e => HB5.out.2.2 e))
      have HTP : Hid (∀ y ∈ ys, StpT 1048576 (Wo.setCell ⟨Bx, 1, none⟩ (.slice Ao no co)) y) := fun y hy => (HTB.out y hy).kp ((Rl.gq (w0 := w0) (Bs := B5 + 1) hog (by have := HRB.out.b.size; have := HVB.out.lt; have := HB5.out.1; omega)).trans (Rl.set (i := 1) (.slice Ao no co) (by have := HB5.out; omega) (by have := HB5.out; omega) ⟨_, _, hko⟩ (by decide) (by decide))).c ((Rl.gq (w0 := w0) (Bs := B5 + 1) hog (by have := HRB.out.b.size; have := HVB.out.lt; have := HB5.out.1; omega)).trans (Rl.set (i := 1) (.slice Ao no co) (by have := HB5.out; omega) (by have := HB5.out; omega) ⟨_, _, hko⟩ (by decide) (by decide))).p; 
      have HYP : Hid (StpT 1048576 (Wo.setCell ⟨Bx, 1, none⟩ (.slice Ao no co)) ⟨2, ⟨Ao, co, os⟩, sa, sb⟩) := tu_new HNUM.out.1 HNUM.out.2.1 HNUM.out.2.2 HSN.out.1 HSN.out.2 hox hoo hot hko
      have HYX : Hid (StpM.x ⟨2, ⟨Ao, co, os⟩, sa, sb⟩ = turn (⟨sk, sx.map CliM.x, sa, sb⟩ : Stp)) := HTX.out _ hox
      have HNO := Lib.hid hno
      have q0 := HKP.out.cell 0
      have q1 := HKP.out.cell 1
      have q2 := HKP.out.cell 2
      have q3 := HKP.out.cell 3
      simp only [List.getElem?_cons_zero, List.getElem?_cons_succ] at q0 q1 q2 q3
      have HCC : Hid (StpM.cells ⟨2, ⟨Ao, co, os⟩, sa, sb⟩ = [.int .i64 2, .slice Ao no co, .int .i64 sa, .int .i64 sb]) := by show [_, Value.slice Ao os.length co, _, _] = _; rw [HNO.out]
      have HYX2 : Hid (StpM.x ⟨2, ⟨Ao, co, os⟩, sa, sb⟩ = turn X.2.1.x) := by show _ = _; rw [HXE.out]; exact HYX.out
      have HZP : Hid (B5 + 1 + 1 ≤ (Wo.setCell ⟨Bx, 1, none⟩ (.slice Ao no co)).heap.size) := HSP.out.lt
      have HB6 : Hid (B5 < B5 + 1) := Nat.lt_succ_self _
      have qv := HVP.out.cell
      have HNB : Hid (((Wo.setCell ⟨Bx, 1, none⟩ (.slice Ao no co)).alloc (.cells #[.int .i64 2, .slice Ao no co, .int .i64 sa, .int .i64 sb] 60)).heap[Wo.heap.size]? = some (.cells #[.int .i64 2, .slice Ao no co, .int .i64 sa, .int .i64 sb] 60 (0, 0))) := by
        have h1 := heap_alloc_new (Wo.setCell ⟨Bx, 1, none⟩ (.slice Ao no co)) (.cells #[.int .i64 2, .slice Ao no co, .int .i64 sa, .int .i64 sb] 60)
        have h2 : (Wo.setCell ⟨Bx, 1, none⟩ (.slice Ao no co)).heap.size = Wo.heap.size := by simp [World.setCell]
        rw [h2] at h1; exact h1
      clear hko hRo hRp hvo hso hox hoo hot hog hno
      gi_wp2_with (gi_at_builtin; (refine wpListIn_append_own _ rfl _ _ 25 rfl (B5 + 1 + 1) 60 ii _ 4 48 Tryz.underlying25 HII.out.1 HII.out.2.1 HII.out.2.2.1 HII.out.2.2.2 rfl (by decide) (.slice AO k cO) k (ys.flatMap StpM.cells) rfl (HRWP.out.alloc _) ⟨Wo.heap.size, 0, none⟩ 1 1 [.int .i64 2, .slice Ao no co, .int .i64 sa, .int .i64 sb] (by rfl) (by rfl) (World.news_of_block (cs := #[.int .i64 2, .slice Ao no co, .int .i64 sa, .int .i64 sb]) (t := 60) (fr := (0, 0)) HNB.out) (by simp [Value.oneCell']) (by unfold maxLen; omega) (by omega) (by have := HSP.out.lt; simp at this ⊢; omega) ?_); intro v' w1 hown' hgrow _; have hown2 := hown'; rw [← HCC.out] at hown2; have hend := tu_end (x := X) HI.out HRP.out HB5.out.1 HB6.out HZP.out HYK.out HSP.out HVP.out HRWP.out HXX.out HTP.out HYP.out HYX2.out hown2 hgrow; clear hown2;  obtain ⟨g', cap', rfl⟩ := ownsRow_succ hown'; have cb := hend.1.cell; have fb := hend.1.frozen; have HEND := Lib.hid hend; clear hend hown' hgrow)
      exact ⟨HEND.out.2.1.k.from _, ⟨HEND.out.2.1.b, HEND.out.2.1.s⟩, HEND.out.2.2⟩
    have e1 : (sk == 1) = false := by simp [hk1]
    by_cases hk2 : sk = 2
    · have e2 : (sk == 2) = true := by simp [hk2]
      have hRb : Rl w0 (B5 + 1) W (W.setCell ⟨Bx, 0, none⟩ (.int .i64 1)) := Rl.set (i := 0) _ (by omega) (by omega) ⟨_, _, hkx⟩ (by decide) (by decide)
      have hkb : Blk (W.setCell ⟨Bx, 0, none⟩ (.int .i64 1)) Bx 60 [.int .i64 1, .slice sA sn sc, .int .i64 sa, .int .i64 sb] := hkx.set_ 0 _
      have hvb : Boxed (W.setCell ⟨Bx, 0, none⟩ (.int .i64 1)) B5 25 (.slice AO k cO) := hv.kept (grown_set W Bx 0 _) (fun e => by cases e; omega)
      have hsb : Boxed (W.setCell ⟨Bx, 0, none⟩ (.int .i64 1)) (B5 + 1) 25 (.slice lA ln lc) := hs.kept (grown_set W Bx 0 _) (fun e => by cases e; omega)
      have hrb : (W.setCell ⟨Bx, 0, none⟩ (.int .i64 1)).ownsRow (B5 + 1 + 1) 60 4 (.slice AO k cO) k (ys.flatMap StpM.cells) := hr.kept (grown_set W Bx 0 _) (.inr (fun e => hvn e))
      have hTb : ∀ y ∈ ys, StpT 1048576 (W.setCell ⟨Bx, 0, none⟩ (.int .i64 1)) y := fun y hy => (hT y hy).kp hRb.c hRb.p
      have hyk : stF (⟨sk, sx.map CliM.x, sa, sb⟩ : Stp) = 0 := hx2
      have HOD : Hid (Calls Tryz.prog 29 #[.slice sA sn sc] (W.setCell ⟨Bx, 0, none⟩ (.int .i64 1)) fun e w' => ∃ A' c', ∃ os : List CliM, e = .returned (.slice A' os.length c') ∧ os.map CliM.x = sx.map CliM.x ∧ w'.ownsRow (W.setCell ⟨Bx, 0, none⟩ (.int .i64 1)).heap.size 39 7 (.slice A' os.length c') os.length (os.flatMap CliM.cs) ∧ (∀ y ∈ os, CliT w' y) ∧ Gq (W.setCell ⟨Bx, 0, none⟩ (.int .i64 1)) w') := by
        have h1 := owned_any sA sc sx (W.setCell ⟨Bx, 0, none⟩ (.int .i64 1)) (hx1.o.cr.below (hB.trans hRb.b)) (fun y hy => (hx1.o.co y hy).below (hB.trans hRb.b)) (fun y hy => by have := hx1.e y hy; omega) (by have := hx1.n; show sx.length ≤ _; have h : sx.length ≤ 1048576 := this; omega)
        rw [hsn] at h1
        exact h1
      have HSN : Hid (sx.length ≤ 1048576 ∧ ∀ y ∈ sx, y.e.xs.length ≤ 1048576) := ⟨hx1.n, hx1.e⟩
      have HNUM : Hid (inI64 1 ∧ inI64 sa ∧ inI64 sb) := ⟨⟨by decide, by decide⟩, hx1.o.at_, hx1.o.by_⟩
      have HTX : Hid (∀ cs : Slc CliM, cs.xs.map CliM.x = sx.map CliM.x → StpM.x ⟨1, cs, sa, sb⟩ = turn (⟨sk, sx.map CliM.x, sa, sb⟩ : Stp)) := fun cs h => by
        show Stp.mk _ (cs.xs.map CliM.x) _ _ = _
        rw [h]; unfold turn; rw [if_neg hk1, if_pos hk2]
      have hkB : k ≤ 200 := by omega
      have HRB := Lib.hid hRb
      have HKB := Lib.hid hkb
      have HVB := Lib.hid hvb
      have HSB := Lib.hid hsb
      have HRWB := Lib.hid hrb
      have HTB := Lib.hid hTb
      have HXX := Lib.hid hx
      have HYK := Lib.hid hyl
      have HB5 : Hid (w0.heap.size ≤ B5 ∧ B5 + 2 ≤ Bx ∧ (Value.slice AO k cO).ownBlock ≠ some Bx) := ⟨hz05, hBx, hvn⟩
      have a0 := hkb.cell 1
      clear a0
      have g1 : (W.setCell ⟨Bx, 0, none⟩ (.int .i64 1)).cell? ⟨Bx, 1, none⟩ = some (.slice sA sn sc) := hkb.cell 1
      clear hRb hkb hvb hsb hrb hTb hyk hs hv hr hT hB hx hvn hx1 hx2 hlt hyl
      gi_wp2
      refine ⟨trivial, ?_⟩
      refine (CallsIn.inRound l (callsIn_wide.2 HOD.out)).mono ?_
      clear HOD g1
      rintro e Wo ⟨Ao, co, os, rfl, hox, hoo, hot, hog⟩
      obtain ⟨no, hno⟩ : ∃ no, os.length = no := ⟨_, rfl⟩
      rw [hno] at hoo ⊢
      have hko := blkq HKB.out hog
      have s1 : Wo.cell? ⟨Bx, 1, none⟩ = some (.slice sA sn sc) := hko.cell 1
      have s1f : Wo.frozen? ⟨Bx, 1, none⟩ = false := hko.frozen 1
      have hRo := HRB.out.trans (Rl.gq hog (by have := HRB.out.b.size; have := HVB.out.lt; have := HB5.out.1; omega))
      have hRp := hRo.trans (Rl.set (i := 1) (.slice Ao no co) (by have := HB5.out; omega) (by have := HB5.out; omega) ⟨_, _, hko⟩ (by decide) (by decide))
      have HRP : Hid (Rl w0 (B5 + 1) W (Wo.setCell ⟨Bx, 1, none⟩ (.slice Ao no co))) := hRp
      have HKP : Hid (Blk (Wo.setCell ⟨Bx, 1, none⟩ (.slice Ao no co)) Bx 60 [.int .i64 1, .slice Ao no co, .int .i64 sa, .int .i64 sb]) := hko.set_ 1 _
      have hvo : Boxed Wo B5 25 (.slice AO k cO) := (hog.block B5 HVB.out.lt).trans HVB.out
      have hso : Boxed Wo (B5 + 1) 25 (.slice lA ln lc) := (hog.block (B5 + 1) HSB.out.lt).trans HSB.out
      have HVP : Hid (Boxed (Wo.setCell ⟨Bx, 1, none⟩ (.slice Ao no co)) B5 25 (.slice AO k cO)) := hvo.kept (grown_set Wo Bx 1 _) (fun e => by cases e; have := HB5.out; omega)
      have HSP : Hid (Boxed (Wo.setCell ⟨Bx, 1, none⟩ (.slice Ao no co)) (B5 + 1) 25 (.slice lA ln lc)) := hso.kept (grown_set Wo Bx 1 _) (fun e => by cases e; have := HB5.out; omega)
      have HRWP : Hid ((Wo.setCell ⟨Bx, 1, none⟩ (.slice Ao no co)).ownsRow (B5 + 1 + 1) 60 4 (.slice AO k cO) k (ys.flatMap StpM.cells)) := (own_belowL HRWB.out hog).kept (grown_set Wo Bx 1 _) (.inr (fun e => HB5.out.2.2 e))
      have HTP : Hid (∀ y ∈ ys, StpT 1048576 (Wo.setCell ⟨Bx, 1, none⟩ (.slice Ao no co)) y) := fun y hy => (HTB.out y hy).kp ((Rl.gq (w0 := w0) (Bs := B5 + 1) hog (by have := HRB.out.b.size; have := HVB.out.lt; have := HB5.out.1; omega)).trans (Rl.set (i := 1) (.slice Ao no co) (by have := HB5.out; omega) (by have := HB5.out; omega) ⟨_, _, hko⟩ (by decide) (by decide))).c ((Rl.gq (w0 := w0) (Bs := B5 + 1) hog (by have := HRB.out.b.size; have := HVB.out.lt; have := HB5.out.1; omega)).trans (Rl.set (i := 1) (.slice Ao no co) (by have := HB5.out; omega) (by have := HB5.out; omega) ⟨_, _, hko⟩ (by decide) (by decide))).p; 
      have HYP : Hid (StpT 1048576 (Wo.setCell ⟨Bx, 1, none⟩ (.slice Ao no co)) ⟨1, ⟨Ao, co, os⟩, sa, sb⟩) := tu_new HNUM.out.1 HNUM.out.2.1 HNUM.out.2.2 HSN.out.1 HSN.out.2 hox hoo hot hko
      have HYX : Hid (StpM.x ⟨1, ⟨Ao, co, os⟩, sa, sb⟩ = turn (⟨sk, sx.map CliM.x, sa, sb⟩ : Stp)) := HTX.out _ hox
      have HNO := Lib.hid hno
      have q0 := HKP.out.cell 0
      have q1 := HKP.out.cell 1
      have q2 := HKP.out.cell 2
      have q3 := HKP.out.cell 3
      simp only [List.getElem?_cons_zero, List.getElem?_cons_succ] at q0 q1 q2 q3
      have HCC : Hid (StpM.cells ⟨1, ⟨Ao, co, os⟩, sa, sb⟩ = [.int .i64 1, .slice Ao no co, .int .i64 sa, .int .i64 sb]) := by show [_, Value.slice Ao os.length co, _, _] = _; rw [HNO.out]
      have HYX2 : Hid (StpM.x ⟨1, ⟨Ao, co, os⟩, sa, sb⟩ = turn X.2.1.x) := by show _ = _; rw [HXE.out]; exact HYX.out
      have HZP : Hid (B5 + 1 + 1 ≤ (Wo.setCell ⟨Bx, 1, none⟩ (.slice Ao no co)).heap.size) := HSP.out.lt
      have HB6 : Hid (B5 < B5 + 1) := Nat.lt_succ_self _
      have qv := HVP.out.cell
      have HNB : Hid (((Wo.setCell ⟨Bx, 1, none⟩ (.slice Ao no co)).alloc (.cells #[.int .i64 1, .slice Ao no co, .int .i64 sa, .int .i64 sb] 60)).heap[Wo.heap.size]? = some (.cells #[.int .i64 1, .slice Ao no co, .int .i64 sa, .int .i64 sb] 60 (0, 0))) := by
        have h1 := heap_alloc_new (Wo.setCell ⟨Bx, 1, none⟩ (.slice Ao no co)) (.cells #[.int .i64 1, .slice Ao no co, .int .i64 sa, .int .i64 sb] 60)
        have h2 : (Wo.setCell ⟨Bx, 1, none⟩ (.slice Ao no co)).heap.size = Wo.heap.size := by simp [World.setCell]
        rw [h2] at h1; exact h1
      clear hko hRo hRp hvo hso hox hoo hot hog hno
      gi_wp2_with (gi_at_builtin; (refine wpListIn_append_own _ rfl _ _ 25 rfl (B5 + 1 + 1) 60 ii _ 4 48 Tryz.underlying25 HII.out.1 HII.out.2.1 HII.out.2.2.1 HII.out.2.2.2 rfl (by decide) (.slice AO k cO) k (ys.flatMap StpM.cells) rfl (HRWP.out.alloc _) ⟨Wo.heap.size, 0, none⟩ 1 1 [.int .i64 1, .slice Ao no co, .int .i64 sa, .int .i64 sb] (by rfl) (by rfl) (World.news_of_block (cs := #[.int .i64 1, .slice Ao no co, .int .i64 sa, .int .i64 sb]) (t := 60) (fr := (0, 0)) HNB.out) (by simp [Value.oneCell']) (by unfold maxLen; omega) (by omega) (by have := HSP.out.lt; simp at this ⊢; omega) ?_); intro v' w1 hown' hgrow _; have hown2 := hown'; rw [← HCC.out] at hown2; have hend := tu_end (x := X) HI.out HRP.out HB5.out.1 HB6.out HZP.out HYK.out HSP.out HVP.out HRWP.out HXX.out HTP.out HYP.out HYX2.out hown2 hgrow; clear hown2;  obtain ⟨g', cap', rfl⟩ := ownsRow_succ hown'; have cb := hend.1.cell; have fb := hend.1.frozen; have HEND := Lib.hid hend; clear hend hown' hgrow)
      exact ⟨HEND.out.2.1.k.from _, ⟨HEND.out.2.1.b, HEND.out.2.1.s⟩, HEND.out.2.2⟩
    have e2 : (sk == 2) = false := by simp [hk2]
    have hkd := stF_kd hx2
    have HRG : Hid ((0 ≤ sa ∧ sa ≤ 100000) ∧ (-100000 ≤ sb ∧ sb ≤ 100000) ∧ (0 ≤ sa + sb ∧ sa + sb ≤ 100000)) := hkd.2 (by have h3 : sk = 1 ∨ sk = 2 ∨ sk = 3 := hkd.1; show sk = 3; omega)
    have hw1 : IntKind.i64.wrap (sa + sb) = sa + sb := IntWalk.i64_in _ (by have := HRG.out; omega)
    have hw2 : IntKind.i64.wrap (-sb) = -sb := IntWalk.i64_in _ (by have := HRG.out; omega)
    have xf3 : W.frozen? ⟨Bx, 3, none⟩ = false := hkx.frozen 3
    clear hkd
    have hRb : Rl w0 (B5 + 1) W ((W.setCell ⟨Bx, 2, none⟩ (.int .i64 (sa + sb))).setCell ⟨Bx, 3, none⟩ (.int .i64 (-sb))) := (Rl.set (i := 2) _ (by omega) (by omega) ⟨_, _, hkx⟩ (by decide) (by decide)).trans (Rl.set (i := 3) _ (by omega) (by omega) ⟨_, _, hkx.set_ 2 _⟩ (by decide) (by decide))
    have hkb : Blk ((W.setCell ⟨Bx, 2, none⟩ (.int .i64 (sa + sb))).setCell ⟨Bx, 3, none⟩ (.int .i64 (-sb))) Bx 60 [.int .i64 sk, .slice sA sn sc, .int .i64 (sa + sb), .int .i64 (-sb)] := (hkx.set_ 2 _).set_ 3 _
    have hvb : Boxed ((W.setCell ⟨Bx, 2, none⟩ (.int .i64 (sa + sb))).setCell ⟨Bx, 3, none⟩ (.int .i64 (-sb))) B5 25 (.slice AO k cO) := (hv.kept (grown_set W Bx 2 _) (fun e => by cases e; omega)).kept (grown_set _ Bx 3 _) (fun e => by cases e; omega)
    have hsb : Boxed ((W.setCell ⟨Bx, 2, none⟩ (.int .i64 (sa + sb))).setCell ⟨Bx, 3, none⟩ (.int .i64 (-sb))) (B5 + 1) 25 (.slice lA ln lc) := (hs.kept (grown_set W Bx 2 _) (fun e => by cases e; omega)).kept (grown_set _ Bx 3 _) (fun e => by cases e; omega)
    have hrb : ((W.setCell ⟨Bx, 2, none⟩ (.int .i64 (sa + sb))).setCell ⟨Bx, 3, none⟩ (.int .i64 (-sb))).ownsRow (B5 + 1 + 1) 60 4 (.slice AO k cO) k (ys.flatMap StpM.cells) := (hr.kept (grown_set W Bx 2 _) (.inr (fun e => hvn e))).kept (grown_set _ Bx 3 _) (.inr (fun e => hvn e))
    have hTb : ∀ y ∈ ys, StpT 1048576 ((W.setCell ⟨Bx, 2, none⟩ (.int .i64 (sa + sb))).setCell ⟨Bx, 3, none⟩ (.int .i64 (-sb))) y := fun y hy => (hT y hy).kp hRb.c hRb.p
    have hyk : stF (⟨sk, sx.map CliM.x, sa, sb⟩ : Stp) = 0 := hx2
    have HOD : Hid (Calls Tryz.prog 29 #[.slice sA sn sc] ((W.setCell ⟨Bx, 2, none⟩ (.int .i64 (sa + sb))).setCell ⟨Bx, 3, none⟩ (.int .i64 (-sb))) fun e w' => ∃ A' c', ∃ os : List CliM, e = .returned (.slice A' os.length c') ∧ os.map CliM.x = sx.map CliM.x ∧ w'.ownsRow ((W.setCell ⟨Bx, 2, none⟩ (.int .i64 (sa + sb))).setCell ⟨Bx, 3, none⟩ (.int .i64 (-sb))).heap.size 39 7 (.slice A' os.length c') os.length (os.flatMap CliM.cs) ∧ (∀ y ∈ os, CliT w' y) ∧ Gq ((W.setCell ⟨Bx, 2, none⟩ (.int .i64 (sa + sb))).setCell ⟨Bx, 3, none⟩ (.int .i64 (-sb))) w') := by
      have h1 := owned_any sA sc sx ((W.setCell ⟨Bx, 2, none⟩ (.int .i64 (sa + sb))).setCell ⟨Bx, 3, none⟩ (.int .i64 (-sb))) (hx1.o.cr.below (hB.trans hRb.b)) (fun y hy => (hx1.o.co y hy).below (hB.trans hRb.b)) (fun y hy => by have := hx1.e y hy; omega) (by have := hx1.n; show sx.length ≤ _; have h : sx.length ≤ 1048576 := this; omega)
      rw [hsn] at h1
      exact h1
    have HSN : Hid (sx.length ≤ 1048576 ∧ ∀ y ∈ sx, y.e.xs.length ≤ 1048576) := ⟨hx1.n, hx1.e⟩
    have HNUM : Hid (inI64 sk ∧ inI64 (sa + sb) ∧ inI64 (-sb)) := ⟨hx1.o.kd, by have := HRG.out; exact ⟨by omega, by omega⟩, by have := HRG.out; exact ⟨by omega, by omega⟩⟩
    have HTX : Hid (∀ cs : Slc CliM, cs.xs.map CliM.x = sx.map CliM.x → StpM.x ⟨sk, cs, (sa + sb), (-sb)⟩ = turn (⟨sk, sx.map CliM.x, sa, sb⟩ : Stp)) := fun cs h => by
      show Stp.mk _ (cs.xs.map CliM.x) _ _ = _
      rw [h]; unfold turn; rw [if_neg hk1, if_neg hk2]
    have hkB : k ≤ 200 := by omega
    have HRB := Lib.hid hRb
    have HKB := Lib.hid hkb
    have HVB := Lib.hid hvb
    have HSB := Lib.hid hsb
    have HRWB := Lib.hid hrb
    have HTB := Lib.hid hTb
    have HXX := Lib.hid hx
    have HYK := Lib.hid hyl
    have HB5 : Hid (w0.heap.size ≤ B5 ∧ B5 + 2 ≤ Bx ∧ (Value.slice AO k cO).ownBlock ≠ some Bx) := ⟨hz05, hBx, hvn⟩
    have a0 := hkb.cell 1
    clear a0
    have g1 : ((W.setCell ⟨Bx, 2, none⟩ (.int .i64 (sa + sb))).setCell ⟨Bx, 3, none⟩ (.int .i64 (-sb))).cell? ⟨Bx, 1, none⟩ = some (.slice sA sn sc) := hkb.cell 1
    clear hRb hkb hvb hsb hrb hTb hyk hs hv hr hT hB hx hvn hx1 hx2 hlt hyl
    gi_wp2
    refine ⟨trivial, ?_⟩
    refine (CallsIn.inRound l (callsIn_wide.2 HOD.out)).mono ?_
    clear HOD g1
    rintro e Wo ⟨Ao, co, os, rfl, hox, hoo, hot, hog⟩
    obtain ⟨no, hno⟩ : ∃ no, os.length = no := ⟨_, rfl⟩
    rw [hno] at hoo ⊢
    have hko := blkq HKB.out hog
    have s1 : Wo.cell? ⟨Bx, 1, none⟩ = some (.slice sA sn sc) := hko.cell 1
    have s1f : Wo.frozen? ⟨Bx, 1, none⟩ = false := hko.frozen 1
    have hRo := HRB.out.trans (Rl.gq hog (by have := HRB.out.b.size; have := HVB.out.lt; have := HB5.out.1; omega))
    have hRp := hRo.trans (Rl.set (i := 1) (.slice Ao no co) (by have := HB5.out; omega) (by have := HB5.out; omega) ⟨_, _, hko⟩ (by decide) (by decide))
    have HRP : Hid (Rl w0 (B5 + 1) W (Wo.setCell ⟨Bx, 1, none⟩ (.slice Ao no co))) := hRp
    have HKP : Hid (Blk (Wo.setCell ⟨Bx, 1, none⟩ (.slice Ao no co)) Bx 60 [.int .i64 sk, .slice Ao no co, .int .i64 (sa + sb), .int .i64 (-sb)]) := hko.set_ 1 _
    have hvo : Boxed Wo B5 25 (.slice AO k cO) := (hog.block B5 HVB.out.lt).trans HVB.out
    have hso : Boxed Wo (B5 + 1) 25 (.slice lA ln lc) := (hog.block (B5 + 1) HSB.out.lt).trans HSB.out
    have HVP : Hid (Boxed (Wo.setCell ⟨Bx, 1, none⟩ (.slice Ao no co)) B5 25 (.slice AO k cO)) := hvo.kept (grown_set Wo Bx 1 _) (fun e => by cases e; have := HB5.out; omega)
    have HSP : Hid (Boxed (Wo.setCell ⟨Bx, 1, none⟩ (.slice Ao no co)) (B5 + 1) 25 (.slice lA ln lc)) := hso.kept (grown_set Wo Bx 1 _) (fun e => by cases e; have := HB5.out; omega)
    have HRWP : Hid ((Wo.setCell ⟨Bx, 1, none⟩ (.slice Ao no co)).ownsRow (B5 + 1 + 1) 60 4 (.slice AO k cO) k (ys.flatMap StpM.cells)) := (own_belowL HRWB.out hog).kept (grown_set Wo Bx 1 _) (.inr (fun e => HB5.out.2.2 e))
    have HTP : Hid (∀ y ∈ ys, StpT 1048576 (Wo.setCell ⟨Bx, 1, none⟩ (.slice Ao no co)) y) := fun y hy => (HTB.out y hy).kp ((Rl.gq (w0 := w0) (Bs := B5 + 1) hog (by have := HRB.out.b.size; have := HVB.out.lt; have := HB5.out.1; omega)).trans (Rl.set (i := 1) (.slice Ao no co) (by have := HB5.out; omega) (by have := HB5.out; omega) ⟨_, _, hko⟩ (by decide) (by decide))).c ((Rl.gq (w0 := w0) (Bs := B5 + 1) hog (by have := HRB.out.b.size; have := HVB.out.lt; have := HB5.out.1; omega)).trans (Rl.set (i := 1) (.slice Ao no co) (by have := HB5.out; omega) (by have := HB5.out; omega) ⟨_, _, hko⟩ (by decide) (by decide))).p; 
    have HYP : Hid (StpT 1048576 (Wo.setCell ⟨Bx, 1, none⟩ (.slice Ao no co)) ⟨sk, ⟨Ao, co, os⟩, (sa + sb), (-sb)⟩) := tu_new HNUM.out.1 HNUM.out.2.1 HNUM.out.2.2 HSN.out.1 HSN.out.2 hox hoo hot hko
    have HYX : Hid (StpM.x ⟨sk, ⟨Ao, co, os⟩, (sa + sb), (-sb)⟩ = turn (⟨sk, sx.map CliM.x, sa, sb⟩ : Stp)) := HTX.out _ hox
    have HNO := Lib.hid hno
    have q0 := HKP.out.cell 0
    have q1 := HKP.out.cell 1
    have q2 := HKP.out.cell 2
    have q3 := HKP.out.cell 3
    simp only [List.getElem?_cons_zero, List.getElem?_cons_succ] at q0 q1 q2 q3
    have HCC : Hid (StpM.cells ⟨sk, ⟨Ao, co, os⟩, (sa + sb), (-sb)⟩ = [.int .i64 sk, .slice Ao no co, .int .i64 (sa + sb), .int .i64 (-sb)]) := by show [_, Value.slice Ao os.length co, _, _] = _; rw [HNO.out]
    have HYX2 : Hid (StpM.x ⟨sk, ⟨Ao, co, os⟩, (sa + sb), (-sb)⟩ = turn X.2.1.x) := by show _ = _; rw [HXE.out]; exact HYX.out
    have HZP : Hid (B5 + 1 + 1 ≤ (Wo.setCell ⟨Bx, 1, none⟩ (.slice Ao no co)).heap.size) := HSP.out.lt
    have HB6 : Hid (B5 < B5 + 1) := Nat.lt_succ_self _
    have qv := HVP.out.cell
    have HNB : Hid (((Wo.setCell ⟨Bx, 1, none⟩ (.slice Ao no co)).alloc (.cells #[.int .i64 sk, .slice Ao no co, .int .i64 (sa + sb), .int .i64 (-sb)] 60)).heap[Wo.heap.size]? = some (.cells #[.int .i64 sk, .slice Ao no co, .int .i64 (sa + sb), .int .i64 (-sb)] 60 (0, 0))) := by
      have h1 := heap_alloc_new (Wo.setCell ⟨Bx, 1, none⟩ (.slice Ao no co)) (.cells #[.int .i64 sk, .slice Ao no co, .int .i64 (sa + sb), .int .i64 (-sb)] 60)
      have h2 : (Wo.setCell ⟨Bx, 1, none⟩ (.slice Ao no co)).heap.size = Wo.heap.size := by simp [World.setCell]
      rw [h2] at h1; exact h1
    clear hko hRo hRp hvo hso hox hoo hot hog hno
    gi_wp2_with (gi_at_builtin; (refine wpListIn_append_own _ rfl _ _ 25 rfl (B5 + 1 + 1) 60 ii _ 4 48 Tryz.underlying25 HII.out.1 HII.out.2.1 HII.out.2.2.1 HII.out.2.2.2 rfl (by decide) (.slice AO k cO) k (ys.flatMap StpM.cells) rfl (HRWP.out.alloc _) ⟨Wo.heap.size, 0, none⟩ 1 1 [.int .i64 sk, .slice Ao no co, .int .i64 (sa + sb), .int .i64 (-sb)] (by rfl) (by rfl) (World.news_of_block (cs := #[.int .i64 sk, .slice Ao no co, .int .i64 (sa + sb), .int .i64 (-sb)]) (t := 60) (fr := (0, 0)) HNB.out) (by simp [Value.oneCell']) (by unfold maxLen; omega) (by omega) (by have := HSP.out.lt; simp at this ⊢; omega) ?_); intro v' w1 hown' hgrow _; have hown2 := hown'; rw [← HCC.out] at hown2; have hend := tu_end (x := X) HI.out HRP.out HB5.out.1 HB6.out HZP.out HYK.out HSP.out HVP.out HRWP.out HXX.out HTP.out HYP.out HYX2.out hown2 hgrow; clear hown2;  obtain ⟨g', cap', rfl⟩ := ownsRow_succ hown'; have cb := hend.1.cell; have fb := hend.1.frozen; have HEND := Lib.hid hend; clear hend hown' hgrow)
    exact ⟨HEND.out.2.1.k.from _, ⟨HEND.out.2.1.b, HEND.out.2.1.s⟩, HEND.out.2.2⟩
  case done =>
    rintro D xs W hD rfl hI hK
    obtain ⟨⟨hs, v, ys, hv, hr, hx, hT⟩, hB⟩ := hI
    obtain ⟨AO, cO, rfl⟩ := slice_of_own hr
    have cv := hv.cell
    have hzD : B5 + 2 ≤ D := by omega
    have h1 : KpT 39 W (W.putObj D (.deferred none)) := kpT_none (grownBy_putObj' _ _ _) (fun r e => by cases e; exact ⟨_, hK, rfl⟩)
    have h2 : KpT 75 W (W.putObj D (.deferred none)) := kpT_none (grownBy_putObj' _ _ _) (fun r e => by cases e; exact ⟨_, hK, rfl⟩)
    have hr2 := ownsRow_putObj hr (.deferred none) hK rfl
    have hyl : ys.length = ln := by
      have := congrArg List.length hx
      rw [List.length_map, List.length_map, bw_len] at this; omega
    have HFIN : Hid (TurR 1048576 R w0 (.returned (.tuple #[.slice AO ys.length cO, .int .i64 0])) (W.putObj D (.deferred none))) := by
      refine ⟨hB.trans (belowK_b (w := w0) (Nat.le_refl _) W D _ _ (by omega) hK rfl rfl), ⟨AO, cO, ys⟩, by rw [HE.out]; rfl, ?_, by show ys.length ≤ _; omega, Rd.of_own hr2, fun s hs => ((hT s hs).kp h1 h2).b (by decide)⟩
      rw [HE.out, hx]
      show (bw zs).map (fun p => turn p.2.1.x) = ((zs.map (fun z => z.1)).map StpM.x).reverse.map turn
      have h3 := bw_snd zs
      have h4 : (bw zs).map (fun p => turn p.2.1.x) = ((bw zs).map (·.2)).map (fun z => turn z.1.x) := by rw [List.map_map]; rfl
      rw [h4, h3, List.map_reverse, List.map_reverse, List.map_map, List.map_map]
      rfl
    rw [hyl] at HFIN
    gi_wp2
    refine ⟨by simp, .inl ⟨_, _, rfl, run_takeDeferred hK, ?_⟩⟩
    refine ⟨_, results_tmp2 rfl _ _ _, ?_⟩
    exact HFIN.out
  case stop =>
    rintro D c pre W _ _ h _
    exact h.elim
end Go.Proofs.YteaghgbpcpileaaGreatDoor
