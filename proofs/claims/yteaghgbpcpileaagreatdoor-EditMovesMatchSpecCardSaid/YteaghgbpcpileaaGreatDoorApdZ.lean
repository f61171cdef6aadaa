/- Several texts laid into one: A box whose cells are all written; append onto a row of the call's own, of any slice that reads as cells (nil too); Several texts laid into one: The contract of slices.Clone at []api.Point; The contracts of edit.own and edit.owned: clips of the call's own; Rows of the call's own and boxes beside them, where a cell is written or a row grows; Generated (gen/ownd.py): the contract of edit.owned; The contract of edit.ordered: a row of clips of the call's own is put in order, in place;; A region by facts: an append of any slice that reads as cells; -/
import Derived.Test.YteaghgbpcpileaaGreatDoorNumB
import Derived.Test.YteaghgbpcpileaaGreatDoorFacZ
import Derived.Laws.AppendOwnNone
import Derived.Test.YteaghgbpcpileaaGreatDoorBase
import Derived.Lib.SliceRun
import Derived.Test.YteaghgbpcpileaaGreatDoorProg
import Derived.Test.YteaghgbpcpileaaGreatDoorEdtZ
import Derived.Deep.RegionHeld3
import Derived.Deep.DrawnRows
import Derived.Deep.CutBlock
import Derived.Deep.DeepCutAuto
import Derived.Deep.AppendLies
import Derived.Test.YteaghgbpcpileaaGreatDoorStbZ
import Derived.Test.YteaghgbpcpileaaGreatDoorSrtY
import Derived.Test.YteaghgbpcpileaaGreatDoorOrdZ
import Derived.Test.YteaghgbpcpileaaGreatDoorShIns
import Derived.Shelf.SlSortCmp.PdqK
/- A box whose cells are all written. -/
namespace Go.Dw
open Go Go.RowKit

theorem blkq {w w' : World} {g : Nat} {t : TypeId} {cs : List Value} (h : Blk w g t cs) (hb : Below w.heap.size w w') : Blk w' g t cs := (hb.block g h.lt).trans h
/-- cells from i on are written -/
def setN (W : World) (g : Nat) : Nat → List Value → World
  | _, [] => W
  | i, v :: vs => setN (W.setCell ⟨g, i, none⟩ v) g (i + 1) vs
theorem setN_app {g : Nat} {t : TypeId} : ∀ (vs : List Value) (W : World) (i : Nat) (pre cs : List Value), Blk W g t (pre ++ cs) → pre.length = i → cs.length = vs.length → Blk (setN W g i vs) g t (pre ++ vs)
  | [], W, i, pre, cs, h, _, hl => by
    have : cs = [] := List.eq_nil_of_length_eq_zero hl
    subst this; exact h
  | v :: vs, W, i, pre, cs, h, hi, hl => by
    cases cs with
    | nil => simp at hl
    | cons c cs =>
      have h1 := h.set_ i v
      have e : (pre ++ c :: cs).set i v = (pre ++ [v]) ++ cs := by
        rw [List.set_append_right _ _ (by omega), hi]
        simp
      rw [e] at h1
      have := setN_app vs (W.setCell ⟨g, i, none⟩ v) (i + 1) (pre ++ [v]) cs h1 (by simp [hi]) (by simpa using hl)
      simpa [setN] using this
theorem setN_blk {g : Nat} {t : TypeId} {W : World} {cs : List Value} (vs : List Value) (h : Blk W g t cs) (hl : cs.length = vs.length) : Blk (setN W g 0 vs) g t vs := by
  have := setN_app vs W 0 [] cs (by simpa using h) rfl hl
  simpa using this
theorem setN_below {w0 : World} {B g : Nat} (hg : B ≤ g) : ∀ (vs : List Value) (W : World) (i : Nat), Below B w0 W → Below B w0 (setN W g i vs)
  | [], _, _, h => h
  | v :: vs, _, i, h => setN_below hg vs _ (i + 1) (h.setCell (p := ⟨g, i, none⟩) hg v)
theorem setN_heap {g : Nat} : ∀ (vs : List Value) (W : World) (i j : Nat), j ≠ g → (setN W g i vs).heap[j]? = W.heap[j]?
  | [], _, _, _, _ => rfl
  | v :: vs, W, i, j, h => (setN_heap vs _ (i + 1) j h).trans (Below.heap_setCell W ⟨g, i, none⟩ v j (by exact h))
theorem setN_size {g : Nat} : ∀ (vs : List Value) (W : World) (i : Nat), (setN W g i vs).heap.size = W.heap.size
  | [], _, _ => rfl
  | v :: vs, W, i => (setN_size vs _ (i + 1)).trans (by simp [World.setCell])
theorem setN_kp {T T' : TypeId} {g : Nat} {W : World} {cs : List Value} (vs : List Value) (h : Blk W g T' cs) (hne : T' ≠ T) (i : Nat) : KpT T W (setN W g i vs) :=
  ⟨by rw [setN_size]; exact Nat.le_refl _, fun b cs' fr hb => setN_heap vs W i b fun e => by
    subst e
    unfold Blk at h
    rw [hb] at h
    injection h with h
    injection h with _ h
    exact hne h.symm⟩
end Go.Dw
/- append onto a row of the call's own, of any slice that reads as cells (nil too). -/
namespace Go.Dw
open Go Go.RowKit

theorem grown_refl (w : World) (r : Option Nat) : w.grownBy w r := ⟨rfl, rfl, rfl, Nat.le_refl _, fun _ _ _ => rfl⟩
/-- a nil slice adds nothing, whatever capacity stands in it -/
theorem run_append_none_c {P : Program} {w : World} (base : Nat) (t ty e : TypeId) (i : TypeInfo) (size : Nat) (ht : P.underlying t = some (.slice e)) (hi : P.info? e = some i)
    (v : Value) (n : Nat) (xs : List Value) (hown : w.ownsRow base e size v n xs) (c : Nat) :
    (Builtin.append_ #[t, t] ty #[v, .slice none 0 c]).run P w = .ok v w := by
  rcases hown.2 with ⟨rfl, rfl⟩ | ⟨g, cap, cur, rfl, _, _, hnc, _⟩
  · simp [Builtin.append_, run_underlying ht, sizeOf, typeInfo, hi, Builtin.lenOf, Builtin.firstCells]
  · simp [Builtin.append_, run_underlying ht, sizeOf, typeInfo, hi, Builtin.lenOf, Builtin.firstCells, hnc, storeCells]
theorem wpList_append_rd {P : Program} {w : World} {ops : Array Oper} {rest : List Oper} {o : Oper} {a : Act} {Q : Exit → Act → World → Prop} (hgd : o.guard = none) (s x : Operand) (t : TypeId)
    (ho : o.op = .call { callee := .builtin .append, args := #[s, x], argTypes := #[t, t] })
    (base : Nat) (e : TypeId) (i : TypeInfo) (z : Value) (size bytes : Nat) (ht : P.underlying t = some (.slice e)) (hi : P.info? e = some i) (hz : i.zero = some z)
    (hsize : i.size = size) (hby : i.bytes = bytes) (hzs : z.cells.size = size) (hsz : 0 < size)
    (v : Value) (n : Nat) (xs : List Value) (hs : a.eval s = v) (hown : w.ownsRow base e size v n xs)
    (A : Option Addr) (m c : Nat) (news : List Value) (hx : a.eval x = .slice A m c) (hl : news.length = m * size) (hR : Rd w A news) (h1 : ∀ u ∈ news, u.oneCell' = true)
    (h63 : n + m ≤ maxLen) (hbytes : (n + m) * bytes ≤ 140737488355328) (hbase : base ≤ w.heap.size)
    (h : ∀ v' w', w'.ownsRow base e size v' (n + m) (xs ++ news) → w.grownBy w' v.ownBlock → wpList P ops Q rest (a.put o.dst v') w') : wpList P ops Q (o :: rest) a w := by
  cases A with
  | none =>
    have h0 : news = [] := by
      rcases hR with hR | ⟨b, off, e, _⟩
      · exact hR
      · cases e
    subst h0
    have hm : m = 0 := by
      rcases Nat.eq_zero_or_pos m with k | k
      · exact k
      · have := Nat.mul_pos k hsz; simp at hl; omega
    subst hm
    refine wpList_plain hgd fun K hK => ?_
    have hrun := run_append_none_c (P := P) (w := w) base t o.type e i size ht hi v n xs hown c
    unfold Oper.wp
    simp [execOp, ho, resolve, invoke, builtin, hs, hx, hrun, Result.andThen]
    exact hK _ _ (h v w (by simpa using hown) (grown_refl w _))
  | some ad =>
    refine wpList_append_own w hgd s x t ho base e i z size bytes ht hi hz hsize hby hzs hsz v n xs hs hown ad m c news hx hl ?_ h1 h63 hbytes hbase fun v' w' h2 h3 _ => h v' w' h2 h3
    intro j u hu
    rcases hR with hR | ⟨b, off, e, hb, hc⟩
    · subst hR; simp at hu
    · injection e with e
      subst e
      have hadd : (⟨b, off, none⟩ : Addr).add j = ⟨b, off + j, none⟩ := by unfold Addr.add; split <;> simp_all
      rw [hadd]; exact hc j u hu
theorem Rd.left {w : World} {A : Option Addr} {xs ys : List Value} (h : Rd w A (xs ++ ys)) : Rd w A xs := by
  rcases h with h | ⟨b, off, e, hb, hc⟩
  · exact .inl (List.append_eq_nil_iff.1 h).1
  · exact .inr ⟨b, off, e, hb, fun j u hu => hc j u (by rw [List.getElem?_append_left (List.getElem?_eq_some_iff.1 hu).1]; exact hu)⟩
/-- parts of a slice -/
theorem Rd.part {w : World} {b off : Nat} {xs ys zs : List Value} (h : Rd w (some ⟨b, off, none⟩) (xs ++ ys ++ zs)) : Rd w (some ⟨b, off + xs.length, none⟩) ys := by
  rcases h with h | ⟨b', off', e, hb, hc⟩
  · left
    simp only [List.append_eq_nil_iff] at h
    exact h.1.2
  · injection e with e
    injection e with e1 e2 e3
    subst e1 e2
    refine .inr ⟨b, off + xs.length, rfl, hb, fun j u hu => ?_⟩
    have := hc (xs.length + j) u (by
      rw [List.append_assoc, List.getElem?_append_right (by omega), Nat.add_sub_cancel_left, List.getElem?_append_left (List.getElem?_eq_some_iff.1 hu).1]
      exact hu)
    rw [Nat.add_assoc]; exact this
/-- what xs[k:] reads as -/
theorem Rd.tail_ {w : World} {A : Option Addr} {xs ys : List Value} {c k m : Nat} (h : Rd w A (xs ++ ys)) (hk : xs.length = m) (hc : c = k → ys = []) : Rd w (if c = k then A else Option.map (fun x => x.add m) A) ys := by
  by_cases h0 : ys = []
  · exact .inl h0
  · rw [if_neg (fun e => h0 (hc e))]
    rcases h with h | ⟨b, off, e, hb, hcell⟩
    · exact absurd (List.append_eq_nil_iff.1 h).2 h0
    · subst e
      have hadd : (⟨b, off, none⟩ : Addr).add m = ⟨b, off + m, none⟩ := by unfold Addr.add; split <;> simp_all
      refine .inr ⟨b, off + m, by rw [Option.map_some, hadd], hb, fun j u hu => ?_⟩
      have := hcell (m + j) u (by rw [List.getElem?_append_right (by omega), hk, Nat.add_sub_cancel_left]; exact hu)
      rw [Nat.add_assoc]; exact this
end Go.Dw
/- Several texts laid into one: The contract of slices.Clone at []api.Point; The contracts of edit.own and edit.owned: clips of the call's own; Rows of the call's own and boxes beside them, where a cell is written or a row grows; Generated (gen/ownd.py): the contract of edit.owned; The contract of edit.ordered: a row of clips of the call's own is put in order, in place; -/
/- The contract of slices.Clone at []api.Point. -/
namespace Go.Proofs.YteaghgbpcpileaaGreatDoor
open Go.RowKit Go.Dw

theorem info_clPn : (Tryz.prog.info? 75).map (fun i => (i.zero, i.size, i.bytes)) = some (some (.agg #[.int .i64 0, .string ⟨#[]⟩, .string ⟨#[]⟩]), 3, 40) := by kernel_rfl
set_option maxRecDepth 100000 in
set_option maxHeartbeats 2000000 in
theorem clone_Pn (A : Option Addr) (n c : Nat) (cs : List Value) (w : World) (h : Rd w A cs) (hl : cs.length = n * 3) (h1 : ∀ u ∈ cs, u.oneCell' = true) (hbig : n * 40 ≤ 140737488355328) :
    Calls Tryz.prog 37 #[.slice A n c] w fun e w' => ∃ A' c', e = .returned (.slice A' n c') ∧ w'.ownsRow w.heap.size 75 3 (.slice A' n c') n cs ∧ Below w.heap.size w w' := by
  have q22 : ∀ (w : World) (a : Option Addr) (n c n' c' : Nat), (binOp .eql 37 (.slice a n c) (.slice none n' c')).run Tryz.prog w = .ok (.bool a.isNone) w := fun w a n c n' c' => Lib.run_eql_slice_nil w _ _ a n c n' c' Tryz.underlying37
  cases A with
  | none =>
    have hn : n = 0 ∧ cs = [] := by
      rcases h with h | ⟨b, off, h, _⟩
      · subst h
        simp only [List.length_nil] at hl
        exact ⟨by omega, rfl⟩
      · cases h
    obtain ⟨rfl, rfl⟩ := hn
    go_enter Tryz.func37, Tryz.ntmps37
    go_wp2
    go_ret
    exact ⟨none, 0, rfl, World.ownsRow_nil _ _ _ _, Below.refl _ _⟩
  | some ad =>
    obtain ⟨i0, hi, hz0, hz1, hz2⟩ := info_parts info_clPn
    have u22 : ∀ w, Sem.run Tryz.prog (underlying 37) w = .ok (TypeDesc.slice 75) w := run_underlying Tryz.underlying37
    have HA : Hid (∀ j u, cs[j]? = some u → (w.alloc (.cells #[] 75)).cell? (ad.add j) = some u) := by
      intro j u hu
      rcases h with h | ⟨b, off, h, hb, hc⟩
      · subst h; simp at hu
      · injection h with h
        subst h
        have hadd : (⟨b, off, none⟩ : Addr).add j = ⟨b, off + j, none⟩ := by unfold Addr.add; split <;> simp_all
        rw [hadd]
        exact Lib.cell?_alloc_some _ (hc j u hu)
    have HL := Lib.hid hl
    clear h hl
    go_enter Tryz.func37, Tryz.ntmps37
    go_wp2_with (at_builtin; refine wpList_append_own _ rfl _ _ 37 rfl w.heap.size 75 i0 _ 3 40 Tryz.underlying37 hi hz0 hz1 hz2 rfl (by decide) _ _ _ rfl (World.ownsRow_made w #[] 0 (Nat.le_refl _) (Nat.zero_le _) rfl) ad n c cs rfl HL.out HA.out h1 (by unfold maxLen; omega) (by omega) (by simp) ?_)
    intro v' w1 hown hgrow hnil
    go_wp2
    go_ret
    obtain ⟨A', c', rfl⟩ := slice_of_own hown
    refine ⟨A', c', rfl, ?_, ?_⟩
    · exact hown
    · exact ((Below.refl _ w).alloc (Nat.le_refl _) _).grown hgrow (by simp) (by intro k hk; simp [Value.ownBlock] at hk; omega)
end Go.Proofs.YteaghgbpcpileaaGreatDoor
/- The contracts of edit.own and edit.owned: clips of the call's own. -/
namespace Go.Proofs.YteaghgbpcpileaaGreatDoor
open Go.RowKit Go.Dw
attribute [local go_sem ↓] Go.wp_at_zero Go.wp_at_succ

/-- a clip whose points lie in a block of points -/
def CliT (w : World) (c : CliM) : Prop := CliOk w c ∧ RdT 75 w c.e.a (c.e.xs.flatMap Pnt.cs)
theorem CliT.kp {w w' : World} {c : CliM} (h : CliT w c) (hk : KpT 75 w w') : CliT w' c := by
  obtain ⟨h1, h2⟩ := h
  have h3 := h2.kp hk
  exact ⟨⟨h1.m, h1.ch, h1.fr, h1.tr, h1.at_, h1.ln, h1.el, h3.rd, h1.eo⟩, h3⟩
theorem CliT.gq {w w' : World} {c : CliM} (h : CliT w c) (hk : Gq w w') : CliT w' c := h.kp (.of_below hk)
theorem pnt_one (l : List Pnt) : ∀ u ∈ l.flatMap Pnt.cs, u.oneCell' = true := fun u hu => by
  obtain ⟨p, _, hp⟩ := List.mem_flatMap.1 hu
  simp [Pnt.cs] at hp
  rcases hp with rfl | rfl | rfl <;> rfl
theorem infoClO : (Tryz.prog.info? 39).map (fun i => (i.zero, i.size, i.bytes)) = some (some (.agg #[.string ⟨#[]⟩, .int .i64 0, .int .i64 0, .int .i64 0, .int .i64 0, .int .i64 0, .slice none 0 0]), 7, 80) := by kernel_rfl
set_option maxRecDepth 100000 in
set_option maxHeartbeats 8000000 in
theorem own_any (c : CliM) (w : World) (h : CliOk w c) (hb : c.e.xs.length ≤ 1000000000) :
    Calls Tryz.prog 23 #[c.v] w fun e w' => ∃ c' : CliM, e = .returned c'.v ∧ c'.x = c.x ∧ CliT w' c' ∧ Gq w w' := by
  obtain ⟨xm, xc, xf, xt, xa, xl, ⟨A, d, es⟩⟩ := c
  have HE : Hid (Rd w A (es.flatMap Pnt.cs)) := h.er
  have HOK := Lib.hid h
  simp only at hb
  simp only [CliM.v, Slc.v]
  obtain ⟨n, hn⟩ : ∃ n, es.length = n := ⟨_, rfl⟩
  have HCL : Hid (∀ W, Gq w W → Calls Tryz.prog 37 #[.slice A n d] W fun e w' => ∃ A' c', e = .returned (.slice A' n c') ∧ w'.ownsRow W.heap.size 75 3 (.slice A' n c') n (es.flatMap Pnt.cs) ∧ Gq W w') := fun W hW => by
    have := clone_Pn A es.length d (es.flatMap Pnt.cs) W (HE.out.below hW) (flat_len Pnt.cs 3 (fun _ => rfl) es) (pnt_one es) (by omega)
    rw [hn] at this
    exact this
  have HN := Lib.hid hn
  rw [hn]
  clear h hb hn
  obtain ⟨wa, hwa⟩ : ∃ wa, wa = w.alloc (.cells #[.string xm, .int .i64 xc, .int .i64 xf, .int .i64 xt, .int .i64 xa, .int .i64 xl, .slice A n d] 39) := ⟨_, rfl⟩
  obtain ⟨wb, hwb⟩ : ∃ wb, wb = wa.alloc (.cells #[.string ⟨#[]⟩, .int .i64 0, .int .i64 0, .int .i64 0, .int .i64 0, .int .i64 0, .slice none 0 0] 39) := ⟨_, rfl⟩
  have hz : wa.heap.size = w.heap.size + 1 := by rw [hwa]; simp
  have HGA : Hid (Gq w wa) := by rw [hwa]; exact (Gq.refl _).alloc _
  have HGB : Hid (Gq wa wb) := by rw [hwb]; exact (Gq.refl _).alloc _
  have HKA : Hid (Blk wb w.heap.size 39 [.string xm, .int .i64 xc, .int .i64 xf, .int .i64 xt, .int .i64 xa, .int .i64 xl, .slice A n d]) := by
    refine blkq (?_ : Blk wa w.heap.size _ _) HGB.out; rw [hwa]; exact Blk.new w _ _
  have HKB : Hid (Blk wb (w.heap.size + 1) 39 [.string ⟨#[]⟩, .int .i64 0, .int .i64 0, .int .i64 0, .int .i64 0, .int .i64 0, .slice none 0 0]) := by rw [hwb, ← hz]; exact Blk.new wa _ _
  have k6 : wb.cell? ⟨w.heap.size, 6, none⟩ = some (.slice A n d) := HKA.out.cell 6
  have HC := Lib.hid (HCL.out wb (HGA.out.trans HGB.out))
  rw [hwa] at hwb
  have HWB := Lib.hid hwb
  clear hwa hwb HCL HE
  go_enter Tryz.func23, Tryz.ntmps23
  go_upto_region 1 with (fail)
  rw [← HWB.out]
  go_wp2_with fail
  refine HC.out.mono ?_
  rintro e w2 ⟨A', c', rfl, hown, hg⟩
  have HG2 : Hid (Gq wb w2) := hg
  have HOWN := Lib.hid hown
  have hka := blkq HKA.out hg
  have hkb := blkq HKB.out hg
  have f6 := hka.frozen 6
  have b6 : w2.cell? ⟨w.heap.size, 6, none⟩ = some (.slice A n d) := hka.cell 6
  have hk3 := hka.set_ 6 (.slice A' n c')
  have hb3 : Blk (w2.setCell ⟨w.heap.size, 6, none⟩ (.slice A' n c')) (w.heap.size + 1) 39 [.string ⟨#[]⟩, .int .i64 0, .int .i64 0, .int .i64 0, .int .i64 0, .int .i64 0, .slice none 0 0] :=
    (Below.heap_setCell w2 ⟨w.heap.size, 6, none⟩ (.slice A' n c') _ (by show w.heap.size + 1 ≠ w.heap.size; omega)).trans hkb
  obtain ⟨w3, hw3⟩ : ∃ w3, w3 = w2.setCell ⟨w.heap.size, 6, none⟩ (.slice A' n c') := ⟨_, rfl⟩
  rw [← hw3] at hk3 hb3
  have HW3 := Lib.hid hw3
  have HK3 := Lib.hid hk3
  have HB3 := Lib.hid hb3
  clear hown hg hka hkb hk3 hb3 hw3
  go_upto_region 2 with (fail)
  rw [← HW3.out]
  have d0 : w3.cell? ⟨w.heap.size, 0, none⟩ = some (.string xm) := HK3.out.cell 0
  have d1 : w3.cell? ⟨w.heap.size, 1, none⟩ = some (.int .i64 xc) := HK3.out.cell 1
  have d2 : w3.cell? ⟨w.heap.size, 2, none⟩ = some (.int .i64 xf) := HK3.out.cell 2
  have d3 : w3.cell? ⟨w.heap.size, 3, none⟩ = some (.int .i64 xt) := HK3.out.cell 3
  have d4 : w3.cell? ⟨w.heap.size, 4, none⟩ = some (.int .i64 xa) := HK3.out.cell 4
  have d5 : w3.cell? ⟨w.heap.size, 5, none⟩ = some (.int .i64 xl) := HK3.out.cell 5
  have d6 : w3.cell? ⟨w.heap.size, 6, none⟩ = some (.slice A' n c') := HK3.out.cell 6
  have g0 := HB3.out.frozen 0
  have g1 := HB3.out.frozen 1
  have g2 := HB3.out.frozen 2
  have g3 := HB3.out.frozen 3
  have g4 := HB3.out.frozen 4
  have g5 := HB3.out.frozen 5
  have g6 := HB3.out.frozen 6
  have e0 : w3.cell? ⟨w.heap.size + 1, 0, none⟩ = some (.string ⟨#[]⟩) := HB3.out.cell 0
  have e1 : w3.cell? ⟨w.heap.size + 1, 1, none⟩ = some (.int .i64 0) := HB3.out.cell 1
  have e2 : w3.cell? ⟨w.heap.size + 1, 2, none⟩ = some (.int .i64 0) := HB3.out.cell 2
  have e3 : w3.cell? ⟨w.heap.size + 1, 3, none⟩ = some (.int .i64 0) := HB3.out.cell 3
  have e4 : w3.cell? ⟨w.heap.size + 1, 4, none⟩ = some (.int .i64 0) := HB3.out.cell 4
  have e5 : w3.cell? ⟨w.heap.size + 1, 5, none⟩ = some (.int .i64 0) := HB3.out.cell 5
  have e6 : w3.cell? ⟨w.heap.size + 1, 6, none⟩ = some (.slice none 0 0) := HB3.out.cell 6
  go_wp2_with fail
  have HB4 : Hid (Blk (setN w3 (w.heap.size + 1) 0 [.string xm, .int .i64 xc, .int .i64 xf, .int .i64 xt, .int .i64 xa, .int .i64 xl, .slice A' n c']) (w.heap.size + 1) 39 [.string xm, .int .i64 xc, .int .i64 xf, .int .i64 xt, .int .i64 xa, .int .i64 xl, .slice A' n c']) := setN_blk _ HB3.out rfl
  have HG4 : Hid (Gq w (setN w3 (w.heap.size + 1) 0 [.string xm, .int .i64 xc, .int .i64 xf, .int .i64 xt, .int .i64 xa, .int .i64 xl, .slice A' n c'])) := by
    refine setN_below (by omega) _ _ _ ?_
    rw [HW3.out]
    exact ((HGA.out.trans HGB.out).trans HG2.out).set (p := ⟨w.heap.size, 6, none⟩) (Nat.le_refl _) _
  have HT4 : Hid (CliT (setN w3 (w.heap.size + 1) 0 [.string xm, .int .i64 xc, .int .i64 xf, .int .i64 xt, .int .i64 xa, .int .i64 xl, .slice A' n c']) ⟨xm, xc, xf, xt, xa, xl, ⟨A', c', es⟩⟩) := by
    have k1 : KpT 75 w2 w3 := by
      rw [HW3.out]
      exact (KpT.refl _ _).setCell ⟨_, _, (blkq HKA.out HG2.out)⟩ (by decide)
    have k2 := k1.trans (setN_kp [.string xm, .int .i64 xc, .int .i64 xf, .int .i64 xt, .int .i64 xa, .int .i64 xl, .slice A' n c'] HB3.out (T := 75) (by decide) 0)
    have h1 := HOWN.out
    rw [← HN.out] at h1
    have h2 := (RdT.of_own h1).kp k2
    have ho := HOK.out
    rw [← HN.out]
    rw [← HN.out] at h2
    exact ⟨⟨ho.m, ho.ch, ho.fr, ho.tr, ho.at_, ho.ln, ho.el, h2.rd, ho.eo⟩, h2⟩
  obtain ⟨w4, hw4⟩ : ∃ w4, setN w3 (w.heap.size + 1) 0 [.string xm, .int .i64 xc, .int .i64 xf, .int .i64 xt, .int .i64 xa, .int .i64 xl, .slice A' n c'] = w4 := ⟨_, rfl⟩
  rw [hw4] at HB4 HG4 HT4
  simp only [setN, Nat.zero_add, Nat.reduceAdd] at hw4
  rw [hw4]
  have k0 : w4.cell? ⟨w.heap.size + 1, 0, none⟩ = some (.string xm) := HB4.out.cell 0
  have k1 : w4.cell? ⟨w.heap.size + 1, 1, none⟩ = some (.int .i64 xc) := HB4.out.cell 1
  have k2 : w4.cell? ⟨w.heap.size + 1, 2, none⟩ = some (.int .i64 xf) := HB4.out.cell 2
  have k3 : w4.cell? ⟨w.heap.size + 1, 3, none⟩ = some (.int .i64 xt) := HB4.out.cell 3
  have k4 : w4.cell? ⟨w.heap.size + 1, 4, none⟩ = some (.int .i64 xa) := HB4.out.cell 4
  have k5 : w4.cell? ⟨w.heap.size + 1, 5, none⟩ = some (.int .i64 xl) := HB4.out.cell 5
  have k6 : w4.cell? ⟨w.heap.size + 1, 6, none⟩ = some (.slice A' n c') := HB4.out.cell 6
  have HN2 : Hid (.slice A' n c' = Value.slice A' es.length c') := by show _ = _; rw [HN.out]
  exact bodyPost_ret (v := .agg #[.string xm, .int .i64 xc, .int .i64 xf, .int .i64 xt, .int .i64 xa, .int .i64 xl, .slice A' n c']) (by simp [results, Tryz.results23, go_sem, k0, k1, k2, k3, k4, k5, k6]) rfl ⟨⟨xm, xc, xf, xt, xa, xl, ⟨A', c', es⟩⟩, by rw [HN2.out], rfl, HT4.out, HG4.out⟩
end Go.Proofs.YteaghgbpcpileaaGreatDoor
/- Rows of the call's own and boxes beside them, where a cell is written or a row grows. -/
namespace Go.Dw
open Go Go.RowKit

theorem own_base {w : World} {B B' n size : Nat} {e : TypeId} {v : Value} {xs : List Value} (h : w.ownsRow B e size v n xs) (hb : B' ≤ B) : w.ownsRow B' e size v n xs := by
  refine ⟨h.1, ?_⟩
  rcases h.2 with hn | ⟨g, cap, cur, hv, hg, r⟩
  · exact .inl hn
  · exact .inr ⟨g, cap, cur, hv, Nat.le_trans hb hg, r⟩
theorem grown_set (w : World) (p : Addr) (u : Value) : w.grownBy (w.setCell p u) (some p.block) :=
  ⟨rfl, rfl, rfl, by simp [World.setCell], fun k _ hne => Below.heap_setCell w p u k (fun e => hne (by rw [e]))⟩
theorem own_set {w : World} {B n size : Nat} {e : TypeId} {v : Value} {xs : List Value} (h : w.ownsRow B e size v n xs) {p : Addr} (hp : p.block < B) (u : Value) : (w.setCell p u).ownsRow B e size v n xs :=
  h.kept (grown_set w p u) (.inr fun e => by have := (h.lt _ e).1; omega)
theorem blk_grown2 {w w' : World} {g : Nat} {t : TypeId} {cs : List Value} {row : Option Nat} (h : Blk w g t cs) (hg : w.grownBy w' row) (hne : some g ≠ row) : Blk w' g t cs := (hg.block g h.lt hne).trans h
theorem blk_setO {w : World} {g : Nat} {t : TypeId} {cs : List Value} (h : Blk w g t cs) {p : Addr} (hp : g ≠ p.block) (u : Value) : Blk (w.setCell p u) g t cs := (Below.heap_setCell w p u g hp).trans h
theorem own_cap {w : World} {B n size c : Nat} {e : TypeId} {A : Option Addr} {xs : List Value} (h : w.ownsRow B e size (.slice A n c) n xs) : n ≤ c ∧ (A = none → c = 0) := by
  rcases h.2 with ⟨h1, h2⟩ | ⟨g, cap, cur, hv, _, _, h4, _⟩
  · injection h1 with e1 e2 e3; subst h2; exact ⟨by omega, fun _ => e3⟩
  · injection hv with e1 e2 e3; subst e1 e3; exact ⟨h4, fun h => by cases h⟩
end Go.Dw
/- Generated (gen/ownd.py): the contract of edit.owned. -/
namespace Go.Proofs.YteaghgbpcpileaaGreatDoor
open Go.RowKit Go.Dw
attribute [local go_sem ↓] Go.wp_at_zero Go.wp_at_succ

set_option maxRecDepth 100000 in
set_option maxHeartbeats 8000000 in
theorem owned_any (A : Option Addr) (c : Nat) (xs : List CliM) (w : World) (h : Rd w A (xs.flatMap CliM.cs)) (hok : ∀ x ∈ xs, CliOk w x) (hb : ∀ x ∈ xs, x.e.xs.length ≤ 1000000000) (hl : xs.length ≤ 1000000000) :
    Calls Tryz.prog 29 #[.slice A xs.length c] w fun e w' => ∃ A' c', ∃ ys : List CliM, e = .returned (.slice A' ys.length c') ∧ ys.map CliM.x = xs.map CliM.x ∧ w'.ownsRow w.heap.size 39 7 (.slice A' ys.length c') ys.length (ys.flatMap CliM.cs) ∧ (∀ y ∈ ys, CliT w' y) ∧ Gq w w' := by
  have HRD := Lib.hid h
  have HOK := Lib.hid hok
  have HB := Lib.hid hb
  obtain ⟨ii, hii, hzi0, hzi1, hzi2⟩ := info_parts infoClO
  have HII := Lib.hid (And.intro hii (And.intro hzi0 (And.intro hzi1 hzi2)))
  clear h hok hb hii hzi0 hzi1 hzi2
  go_enter Tryz.func29, Tryz.ntmps29
  go_wp2_with fail
  go_loopw [3, 8] (fun ov kv wq => ∃ (k : Nat) (ys : List CliM), k ≤ xs.length ∧ kv = .int .i64 (k : Int) ∧ Hid (wq.ownsRow w.heap.size 39 7 ov ys.length (ys.flatMap CliM.cs)) ∧ Hid (ys.map CliM.x = (xs.take k).map CliM.x) ∧ Hid (∀ y ∈ ys, CliT wq y) ∧ Hid (Gq w wq)) (fun _ kv _ => xs.length - (intOf kv).toNat)
  case atStart => exact ⟨0, [], Nat.zero_le _, rfl, World.ownsRow_nil _ _ _ _, rfl, fun y hy => by simp at hy, Gq.refl _⟩
  case round =>
    obtain ⟨k, ys, hk, rfl, HOW, HYE, HYT, HG⟩ := hrel
    obtain ⟨AP, cP, rfl⟩ := slice_of_own HOW.out
    by_cases hlt : k < xs.length
    case neg =>
      have hd0 : decide (k < xs.length) = false := by simpa using hlt
      have HY2 : Hid (ys.map CliM.x = xs.map CliM.x) := by show _ = _; rw [HYE.out, List.take_of_length_le (by omega)]
      go_wp2_with fail
      go_ret
      exact ⟨AP, cP, ys, rfl, HY2.out, HOW.out, HYT.out, HG.out⟩
    have hd0 : decide (k < xs.length) = true := by simpa using hlt
    have i0 : (0 : Int) ≤ (k : Int) := by omega
    have i1 : (k : Int) < (xs.length : Int) := by omega
    obtain ⟨b, off, rfl, hbb, hcs⟩ := cli_at (HRD.out.below HG.out) (show 0 < xs.length by omega)
    obtain ⟨p0, p1, p2, p3, p4, p5, p6⟩ := hcs k hlt
    have HCO : Hid (CliOk wr xs[k]) := (HOK.out _ (List.getElem_mem _)).below HG.out
    have HCB : Hid (xs[k].e.xs.length ≤ 1000000000) := HB.out _ (List.getElem_mem _)
    have HTK : Hid (xs.take (k + 1) = xs.take k ++ [xs[k]]) := List.take_succ_eq_append_getElem hlt
    clear hcs
    obtain ⟨X, hX⟩ : ∃ X, xs[k] = X := ⟨_, rfl⟩
    rw [hX] at p0 p1 p2 p3 p4 p5 p6 HCO HCB HTK
    have HOW1 : Hid (Calls Tryz.prog 23 #[X.v] (wr.alloc (.cells #[.string X.m, .int .i64 X.ch, .int .i64 X.fr, .int .i64 X.tr, .int .i64 X.at_, .int .i64 X.ln, .slice X.e.a X.e.xs.length X.e.c] 39)) fun e w' => ∃ c' : CliM, e = .returned c'.v ∧ c'.x = X.x ∧ CliT w' c' ∧ Gq (wr.alloc (.cells #[.string X.m, .int .i64 X.ch, .int .i64 X.fr, .int .i64 X.tr, .int .i64 X.at_, .int .i64 X.ln, .slice X.e.a X.e.xs.length X.e.c] 39)) w') :=
      own_any X _ (HCO.out.below ((Gq.refl _).alloc _)) HCB.out
    clear hX HCO HCB
    obtain ⟨XM, hXM⟩ : ∃ Z, X.x = Z := ⟨_, rfl⟩
    rw [hXM] at HOW1
    have HTX : Hid ((xs.take (k + 1)).map CliM.x = (xs.take k).map CliM.x ++ [XM]) := by show _ = _; rw [HTK.out, List.map_append, ← hXM]; rfl
    clear hXM HTK
    obtain ⟨xm, xc, xf, xt, xa, xl, ⟨EA, ed, es⟩⟩ := X
    simp only [CliM.v, Slc.v] at p0 p1 p2 p3 p4 p5 p6 HOW1
    generalize (es.length : Nat) = en at *
    obtain ⟨wa, hwa⟩ : ∃ wa, wa = wr.alloc (.cells #[.string xm, .int .i64 xc, .int .i64 xf, .int .i64 xt, .int .i64 xa, .int .i64 xl, .slice EA en ed] 39) := ⟨_, rfl⟩
    rw [← hwa] at HOW1
    have HGA : Hid (Gq wr wa) := by rw [hwa]; exact (Gq.refl _).alloc _
    have HKC : Hid (Blk wa wr.heap.size 39 [.string xm, .int .i64 xc, .int .i64 xf, .int .i64 xt, .int .i64 xa, .int .i64 xl, .slice EA en ed]) := by rw [hwa]; exact Blk.new wr _ _
    have HWA := Lib.hid hwa
    have a0 : wa.cell? ⟨wr.heap.size, 0, none⟩ = some (.string xm) := HKC.out.cell 0
    have a1 : wa.cell? ⟨wr.heap.size, 1, none⟩ = some (.int .i64 xc) := HKC.out.cell 1
    have a2 : wa.cell? ⟨wr.heap.size, 2, none⟩ = some (.int .i64 xf) := HKC.out.cell 2
    have a3 : wa.cell? ⟨wr.heap.size, 3, none⟩ = some (.int .i64 xt) := HKC.out.cell 3
    have a4 : wa.cell? ⟨wr.heap.size, 4, none⟩ = some (.int .i64 xa) := HKC.out.cell 4
    have a5 : wa.cell? ⟨wr.heap.size, 5, none⟩ = some (.int .i64 xl) := HKC.out.cell 5
    have a6 : wa.cell? ⟨wr.heap.size, 6, none⟩ = some (.slice EA en ed) := HKC.out.cell 6
    clear hwa
    go_upto_region 5 with (fail)
    rw [← HWA.out]
    go_wp2_with fail
    refine HOW1.out.mono ?_
    rintro e wy ⟨y, rfl, hyx, hyt, hgy⟩
    have HGY : Hid (Gq wr wy) := HGA.out.trans hgy
    have HGW : Hid (Gq w wy) := HG.out.trans HGY.out
    have HO2 : Hid (wy.ownsRow w.heap.size 39 7 (.slice AP ys.length cP) ys.length (ys.flatMap CliM.cs)) := own_belowL HOW.out HGY.out
    have HY2 : Hid ((ys ++ [y]).map CliM.x = (xs.take (k + 1)).map CliM.x) := by show _ = _; rw [HTX.out, List.map_append, HYE.out, ← hyx]; rfl
    have HT2 : Hid (∀ z ∈ ys ++ [y], CliT wy z) := fun z hz => by
      rcases List.mem_append.1 hz with hz | hz
      · exact (HYT.out z hz).gq HGY.out
      · rw [List.mem_singleton.1 hz]; exact hyt
    have HSZ : Hid (w.heap.size ≤ wy.heap.size) := Below.size HGW.out
    have HLY : Hid (ys.length ≤ 1000000000) := by
      have h1 := congrArg List.length HYE.out
      simp only [List.length_map, List.length_take] at h1
      show _ ≤ _; omega
    have hz9 := HLY.out
    clear hyx hyt hgy a0 a1 a2 a3 a4 a5 a6 p0 p1 p2 p3 p4 p5 p6 HYE HYT HTX HOW HOW1
    obtain ⟨ym, yc, yf, yt, ya, yl, ⟨YA, yd, yes⟩⟩ := y
    obtain ⟨yn, hyn⟩ : ∃ n, yes.length = n := ⟨_, rfl⟩
    have HYN := Lib.hid hyn
    rw [hyn]
    clear hyn
    go_wp2_with (at_builtin; (refine wpList_append_lies _ rfl _ _ 22 rfl w.heap.size 39 ii _ 7 80 Tryz.underlying22 HII.out.1 HII.out.2.1 HII.out.2.2.1 HII.out.2.2.2 rfl (by decide) _ _ _ rfl (HO2.out.alloc _) ⟨wy.heap.size, 0, none⟩ 1 1 [.string ym, .int .i64 yc, .int .i64 yf, .int .i64 yt, .int .i64 ya, .int .i64 yl, .slice YA yn yd] (by rfl) (by rfl) (World.news_of_block (cs := #[.string ym, .int .i64 yc, .int .i64 yf, .int .i64 yt, .int .i64 ya, .int .i64 yl, .slice YA yn yd]) (t := 39) (fr := (0, 0)) (by exact heap_alloc_new wy _)) (by simp [Value.oneCell']) (by decide) (by unfold maxLen; omega) (by omega) (by have := HSZ.out; simp; omega) _ rfl ?_); intro g9 cap9 w9 hown9 hgrow9 hat9 hg9)
    have HO9 : Hid (w9.ownsRow w.heap.size 39 7 (.slice (some ⟨g9, 0, none⟩) (ys.length + 1) cap9) (ys ++ [(⟨ym, yc, yf, yt, ya, yl, ⟨YA, yd, yes⟩⟩ : CliM)]).length ((ys ++ [(⟨ym, yc, yf, yt, ya, yl, ⟨YA, yd, yes⟩⟩ : CliM)]).flatMap CliM.cs)) := by
      show World.ownsRow _ _ _ _ _ _ _
      rw [flat_snoc, List.length_append, List.length_singleton]
      have h1 := hown9
      rw [← HYN.out] at h1
      exact h1
    have HG9 : Hid (Gq w w9) := below_app' HGW.out HSZ.out HO2.out hgrow9
    have HT9 : Hid (∀ z ∈ ys ++ [(⟨ym, yc, yf, yt, ya, yl, ⟨YA, yd, yes⟩⟩ : CliM)], CliT w9 z) := fun z hz => (HT2.out z hz).kp (((KpT.refl _ _).alloc _).trans (KpT.own (HO2.out.alloc _) hgrow9 (by decide)))
    clear hown9 hgrow9 hat9 hg9 HO2 HT2
    go_wp2_with fail
    go_roundw
    case rel => exact ⟨k + 1, _, hlt, by go_num, HO9, HY2, HT9, HG9⟩
    case measure => simp [intOf]; omega
end Go.Proofs.YteaghgbpcpileaaGreatDoor
/- The contract of edit.ordered: a row of clips of the call's own is put in order, in place. -/
namespace Go.Proofs.YteaghgbpcpileaaGreatDoor
open Go.RowKit Go.Dw Go.Sort Go.Stb
attribute [local go_sem ↓] Go.wp_at_zero Go.wp_at_succ

theorem stbCl : StbCl Tryz.prog 7 where
  mixed := by kernel_rfl
  fs := Tryz.func134
  fr := Tryz.func115
  fy := Tryz.func98
  ft := Tryz.func76
  fo := Tryz.func59
  es := enters_of Tryz.func134 (by kernel_rfl) rfl
  er := enters_of Tryz.func115 (by kernel_rfl) rfl
  ey := enters_of Tryz.func98 (by kernel_rfl) rfl
  et := enters_of Tryz.func76 (by kernel_rfl) rfl
  ei := enters_of Tryz.func97 (by kernel_rfl) rfl
  t0 := Tryz.underlying0
  a0 := Tryz.isAgg0
  z0 := Tryz.sizeOf0
  v0 := Tryz.zeroValue0
  t3 := Tryz.underlying3
  a3 := Tryz.isAgg3
  z3 := Tryz.sizeOf3
  v3 := Tryz.zeroValue3
  t4 := Tryz.underlying4
  a4 := Tryz.isAgg4
  z4 := Tryz.sizeOf4
  v4 := Tryz.zeroValue4
  t22 := Tryz.underlying22
  a22 := Tryz.isAgg22
  z22 := Tryz.sizeOf22
  v22 := Tryz.zeroValue22
  t25 := Tryz.underlying69
  a25 := Tryz.isAgg69
  z25 := Tryz.sizeOf69
  v25 := Tryz.zeroValue69
  t39 := Tryz.underlying151
  aE := Tryz.isAgg39
  zE := Tryz.sizeOf39
instance : Inhabited CliM := ⟨⟨⟨#[]⟩, 0, 0, 0, 0, 0, ⟨none, 0, []⟩⟩⟩
def encT (x : CliM × Nat) : List Value := x.1.cs
def cfT (x y : CliM × Nat) : Int := cmpK x.1.x y.1.x
theorem swoT : SWO (ltOf cfT) := (ord3_K.on (fun x : CliM × Nat => x.1.x)).swo
theorem encT_one (x : CliM × Nat) : ∀ v ∈ encT x, v.oneCell' = true := fun v hv => by
  simp [encT, CliM.cs] at hv
  rcases hv with rfl | rfl | rfl | rfl | rfl | rfl | rfl <;> rfl
theorem cmpLaysT (g off size : Nat) (w : World) : CmpLays Tryz.prog 36 #[] encT 7 cfT g off size w :=
  fun _ _ _ _ x y => compare_gr x.1 y.1 _
theorem flat_tag (l : List CliM) : ∀ k, (l.zipIdx k).flatMap encT = l.flatMap CliM.cs := by
  induction l with
  | nil => intro k; rfl
  | cons x l ih => intro k; rw [List.zipIdx_cons, List.flatMap_cons, List.flatMap_cons, ih]; rfl
theorem flat_fst (l : List (CliM × Nat)) : l.flatMap encT = (l.map (fun x => x.1)).flatMap CliM.cs := by
  rw [List.flatMap_map]; rfl
set_option maxRecDepth 100000 in
set_option maxHeartbeats 2000000 in
theorem insNone (w : World) : Calls Tryz.prog 97 #[.slice none 0 0, .int .i64 0, .int .i64 0, .func (.func 36) #[] #[]] w fun e w' => e = .returned (.tuple #[]) ∧ w' = w := by
  go_enter Tryz.func97, Tryz.ntmps97
  go_wp2_with fail
  go_loopw [8] (fun s wq => s = .int .i64 1 ∧ wq = w) (fun _ _ => 0)
  case atStart => exact ⟨rfl, rfl⟩
  case round =>
    obtain ⟨rfl, rfl⟩ := hrel
    go_wp2
    go_end0
    exact ⟨rfl, rfl⟩
set_option maxRecDepth 100000 in
set_option maxHeartbeats 2000000 in
theorem stbNone (w : World) : Calls Tryz.prog 76 #[.slice none 0 0, .int .i64 0, .func (.func 36) #[] #[]] w fun e w' => e = .returned (.tuple #[]) ∧ w' = w := by
  have HI := Lib.hid (insNone w)
  go_enter Tryz.func76, Tryz.ntmps76
  go_wp2_with fail
  go_loopw [7, 8] (fun s t wq => s = .int .i64 0 ∧ t = .int .i64 20 ∧ wq = w) (fun _ _ _ => 0)
  case atStart => exact ⟨rfl, rfl, rfl⟩
  case round =>
    obtain ⟨rfl, rfl, rfl⟩ := hrel
    go_wp2_with fail
    refine HI.out.mono ?_
    rintro e w' ⟨rfl, rfl⟩
    go_wp2_with fail
    go_loopw [6, 7, 8, 9] (fun s _ _ _ wq => s = .int .i64 20 ∧ wq = w') (fun _ _ _ _ _ => 0)
    case atStart => exact ⟨rfl, rfl⟩
    case round =>
      obtain ⟨rfl, rfl⟩ := hrel
      go_wp2
      go_end0
      exact ⟨rfl, rfl⟩
set_option maxRecDepth 100000 in
set_option maxHeartbeats 2000000 in
theorem ssfNone (w : World) : Calls Tryz.prog 59 #[.slice none 0 0, .func (.func 36) #[] #[]] w fun e w' => e = .returned (.tuple #[]) ∧ w' = w := by
  have HI := Lib.hid (stbNone w)
  go_enter Tryz.func59, Tryz.ntmps59
  go_wp2_with fail
  refine HI.out.mono ?_
  rintro e w' ⟨rfl, rfl⟩
  go_wp2_with fail
  go_end0
  exact ⟨rfl, rfl⟩
/-- a row of clips of the call's own, put in order -/
def OrdR (w : World) (B base : Nat) (A : Option Addr) (n c : Nat) (ys : List CliM) (w' : World) : Prop :=
  w'.ownsRow base 39 7 (.slice A n c) n ((srtF CliM.x ys).flatMap CliM.cs) ∧ (∀ T, T ≠ 39 → KpT T w w') ∧ Below B w w'
theorem sortCl_any (B base : Nat) (A : Option Addr) (n c : Nat) (ys : List CliM) (w : World) (hB : B ≤ base) (hown : w.ownsRow base 39 7 (.slice A n c) n (ys.flatMap CliM.cs)) (hn : ys.length = n) (hm : n < 1000000000) :
    Calls Tryz.prog 59 #[.slice A n c, .func (.func 36) #[] #[]] w fun e w' => e = .returned (.tuple #[]) ∧ OrdR w B base A n c ys w' := by
  have eg : ∀ args w, (callFunc 36 args).run Tryz.prog w = .ok (.enter 36 args) w := enters_of Tryz.func36 (by kernel_rfl) rfl
  rcases hown.2 with ⟨h1, h2⟩ | ⟨g, cap, cur, hv, hb, hg, _⟩
  · injection h1 with e1 _ e3
    subst e1 e3 h2
    have hy : ys = [] := List.eq_nil_of_length_eq_zero hn
    subst hy
    refine (ssfNone w).mono fun e w' ⟨h1, h2⟩ => ⟨h1, ?_⟩
    subst h2
    exact ⟨hown, fun _ _ => KpT.refl _ _, Below.refl _ _⟩
  · injection hv with e1 e2 e3
    subst e1
    have hgs : g < w.heap.size := (Array.getElem?_eq_some_iff.1 hg).1
    have hownT : w.ownsRow base 39 7 (.slice (some ⟨g, 0, none⟩) n c) n (ys.zipIdx.flatMap encT) := by rw [flat_tag]; exact hown
    have hl : ys.zipIdx.length = n := by rw [List.length_zipIdx]; exact hn
    have hH := holdsK_of_own (enc := encT) (fun _ => rfl) hownT hl
    have hs : ys.zipIdx.toArray.size = n := by simpa using hl
    have hgt : ∀ (i : Nat) (hi : i < n), ys.zipIdx.toArray[i]! = (ys[i]'(by omega), i) := fun i hi => by
      rw [getElem!_pos _ i (by rw [hs]; exact hi)]
      simp
    have hT : TagUp (fun x : CliM × Nat => x.2) 0 n ys.zipIdx.toArray := fun i j _ hij hj => by
      rw [hgt i (by omega), hgt j hj]; exact hij
    have R : RowK encT 7 w g 0 ys.zipIdx.toArray := ⟨fun _ => rfl, encT_one, hH, hgs⟩
    have hI : ∀ (a b : Nat) (dk : Array (CliM × Nat)) (W : World), a ≤ b → b ≤ n → dk.size = n → SWK encT 7 w g 0 dk W → Calls Tryz.prog 97 #[.slice (some ⟨g, 0, none⟩) n c, .int .i64 (a : Int), .int .i64 (b : Int), .func (.func 36) #[] #[]] W fun e w' => e = .returned (.tuple #[]) ∧ SWK encT 7 w g 0 (insertionSort (ltOf cfT) dk a b) w' := fun a b dk W h1 h2 h3 h4 => by
      have := AnyQ.insertionSortCmpFunc_w Tryz.insCl 7 Tryz.isAgg39 Tryz.sizeOf39 encT cfT 36 #[] g 0 c a b ys.zipIdx.toArray dk w W eg (cmpLaysT g 0 _ w) R (by omega) h4 swoT h1 (by omega) (by omega)
      rw [h3] at this
      exact this
    refine (stbCl.sortStable cfT (fun x => x.2) swoT encT 36 #[] g 0 c ys.zipIdx.toArray w n hs eg (cmpLaysT g 0 _ w) R hT hm hI).mono fun e w' ⟨h1, d', m, os, hw, hp, hsd⟩ => ⟨h1, ?_⟩
    obtain ⟨p1, _, p3⟩ := hp
    rw [hs] at p1
    have e1 : d'.extract 0 n = d' := by rw [← p1]; simp
    have e2 : ys.zipIdx.toArray.extract 0 n = ys.zipIdx.toArray := by
      have h0 : ∀ Z : Array (CliM × Nat), Z.extract 0 Z.size = Z := fun Z => by simp
      have := h0 ys.zipIdx.toArray
      rw [hs] at this; exact this
    rw [e1, e2] at p3
    have hlist : d'.toList.map (fun x => x.1) = srtF CliM.x ys := by
      refine srt_tag CliM.x (by simpa using p3) ?_
      rw [List.pairwise_iff_getElem]
      intro i j hi hj hij
      have h1 := hsd i j (Nat.zero_le _) hij (by rw [← p1]; simpa using hj)
      rw [getElem!_pos d' i (by simpa using hi), getElem!_pos d' j (by simpa using hj)] at h1
      exact h1
    have hsort := own_sort (enc := encT) (m := m) (os := os) (fun _ => rfl) hownT p1
    rw [flat_fst, hlist] at hsort
    rw [hw]
    exact ⟨hsort, fun T hT => kp_sort hg (fun e => hT e.symm), below_sort (Nat.le_trans hB hb) hgs⟩
set_option maxRecDepth 100000 in
set_option maxHeartbeats 2000000 in
theorem ordered_any (B base : Nat) (A : Option Addr) (n c : Nat) (ys : List CliM) (w : World) (hB : B ≤ base) (hown : w.ownsRow base 39 7 (.slice A n c) n (ys.flatMap CliM.cs)) (hn : ys.length = n) (hm : n < 1000000000) :
    Calls Tryz.prog 38 #[.slice A n c] w fun e w' => e = .returned (.slice A n c) ∧ OrdR w B base A n c ys w' := by
  have HS := Lib.hid (sortCl_any B base A n c ys w hB hown hn hm)
  clear hown hn hm hB
  go_enter Tryz.func38, Tryz.ntmps38
  go_wp2_with fail
  refine HS.out.mono ?_
  rintro e w' ⟨rfl, ho⟩
  have HO := Lib.hid ho
  clear ho HS
  go_wp2_with fail
  go_ret
  exact ⟨rfl, HO.out⟩
end Go.Proofs.YteaghgbpcpileaaGreatDoor
/- A region by facts: an append of any slice that reads as cells. -/
namespace Go.Dwo
open Go Go.RowKit Go.Dw

section
variable {P : Program}
theorem tame_append_rd {o : Oper} {a : Act} {w : World} {K : Value → World → Prop} (s x : Operand) (t : TypeId)
    (ho : o.op = .call { callee := .builtin .append, args := #[s, x], argTypes := #[t, t] })
    (base : Nat) (e : TypeId) (i : TypeInfo) (z : Value) (size bytes : Nat) (ht : P.underlying t = some (.slice e)) (hi : P.info? e = some i) (hz : i.zero = some z)
    (hsize : i.size = size) (hby : i.bytes = bytes) (hzs : z.cells.size = size) (hsz : 0 < size)
    (v : Value) (n : Nat) (xs : List Value) (hs : a.eval s = v) (hown : w.ownsRow base e size v n xs)
    (A : Option Addr) (m c : Nat) (news : List Value) (hx : a.eval x = .slice A m c) (hl : news.length = m * size) (hR : Rd w A news) (h1 : ∀ u ∈ news, u.oneCell' = true)
    (h63 : n + m ≤ maxLen) (hbytes : (n + m) * bytes ≤ 140737488355328) (hbase : base ≤ w.heap.size)
    (h : ∀ A' c' w', w'.ownsRow base e size (.slice A' (n + m) c') (n + m) (xs ++ news) → w.grownBy w' v.ownBlock → K (.slice A' (n + m) c') w') : Oper.tame P o a w K := by
  have key : ∃ v' w', (Builtin.append_ #[t, t] o.type #[v, .slice A m c]).run P w = .ok v' w' ∧ w'.ownsRow base e size v' (n + m) (xs ++ news) ∧ w.grownBy w' v.ownBlock := by
    cases A with
    | none =>
      have h0 : news = [] := by
        rcases hR with hR | ⟨b, off, e, _⟩
        · exact hR
        · cases e
      subst h0
      have hm : m = 0 := by
        rcases Nat.eq_zero_or_pos m with k | k
        · exact k
        · have := Nat.mul_pos k hsz; simp at hl; omega
      subst hm
      refine ⟨v, w, ?_, by simpa using hown, grown_refl w _⟩
      exact run_append_none_c (P := P) (w := w) base t o.type e i size ht hi v n xs hown c
    | some ad =>
      obtain ⟨v', w', hr, h2, h3, _⟩ := run_append_own (P := P) w base t o.type e i z size bytes ht hi hz hsize hby hzs hsz v n xs hown ad m c news hl (fun j u hu => by
        rcases hR with hR | ⟨b, off, e, hb, hc⟩
        · subst hR; simp at hu
        · injection e with e
          subst e
          have hadd : (⟨b, off, none⟩ : Addr).add j = ⟨b, off + j, none⟩ := by unfold Addr.add; split <;> simp_all
          rw [hadd]; exact hc j u hu) h1 h63 hbytes hbase
      exact ⟨v', w', hr, h2, h3⟩
  obtain ⟨v', w', hr, h2, h3⟩ := key
  obtain ⟨A', c', rfl⟩ := slice_of_own h2
  refine tame_val (v := .slice A' (n + m) c') (w' := w') ?_ (h A' c' w' h2 h3)
  unfold execOp
  simp only [ho, resolve, invoke, builtin, Sem.run_bind, Sem.run_pure, Result.andThen_ok, List.map_toArray, List.map_cons, List.map_nil, hs, hx, hr]
end
end Go.Dwo
