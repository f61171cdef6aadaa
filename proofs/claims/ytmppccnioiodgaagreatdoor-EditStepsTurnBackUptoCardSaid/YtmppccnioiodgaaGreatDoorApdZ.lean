/- Several texts laid into one: append onto a row of the call's own, of any slice that reads as cells (nil too); A box whose cells are all written; -/
import Derived.Test.YtmppccnioiodgaaGreatDoorRdT
import Derived.Laws.AppendOwnNone
import Derived.Test.YtmppccnioiodgaaGreatDoorNumB
/- append onto a row of the call's own, of any slice that reads as cells (nil too). -/
namespace Go.Dw
open Go Go.RowKit

theorem grown_refl (w : World) (r : Option Nat) : w.grownBy w r := ⟨rfl, rfl, rfl, Nat.le_refl _, fun _ _ _ => rfl⟩
/-- a nil slice adds nothing, whatever capacity stands in it -/
theorem run_append_none_c {P : Program} {w : World} (base : Nat) (t ty e : TypeId) (i : TypeInfo) (size : Nat) (ht : P.underlying t = some (.slice e)) (hi : P.info? e = some i)
    (v : Value) (n : Nat) (xs : List Value) (hown : w.ownsRow base e size v n xs) (c : Nat) :
    (Builtin.append_ #[t, t] ty #[v, .slice none 0 c]).run P w = .ok v w := by
  rcases hown.2 with ⟨rfl, rfl⟩ | ⟨g, cap, cur, rfl, _, _, hnc, _⟩
  · simp [Builtin.append_, run_underlying ht, sizeOf, typeInfo, hi, Builtin.lenOf, Builtin.firstCells]
  · simp [Builtin.append_, run_underlying ht, sizeOf, typeInfo, hi, Builtin.lenOf, Builtin.firstCells, hnc, storeCells]
theorem wpList_append_rd {P : Program} {w : World} {ops : Array Oper} {rest : List Oper} {o : Oper} {a : Act} {Q : Exit → Act → World → Prop} (hgd : o.guard = none) (s x : Operand) (t : TypeId)
    (ho : o.op = .call { callee := .builtin .append, args := #[s, x], argTypes := #[t, t] })
    (base : Nat) (e : TypeId) (i : TypeInfo) (z : Value) (size bytes : Nat) (ht : P.underlying t = some (.slice e)) (hi : P.info? e = some i) (hz : i.zero = some z)
    (hsize : i.size = size) (hby : i.bytes = bytes) (hzs : z.cells.size = size) (hsz : 0 < size)
    (v : Value) (n : Nat) (xs : List Value) (hs : a.eval s = v) (hown : w.ownsRow base e size v n xs)
    (A : Option Addr) (m c : Nat) (news : List Value) (hx : a.eval x = .slice A m c) (hl : news.length = m * size) (hR : Rd w A news) (h1 : ∀ u ∈ news, u.oneCell' = true)
    (h63 : n + m ≤ maxLen) (hbytes : (n + m) * bytes ≤ 140737488355328) (hbase : base ≤ w.heap.size)
    (h : ∀ v' w', w'.ownsRow base e size v' (n + m) (xs ++ news) → w.grownBy w' v.ownBlock → wpList P ops Q rest (a.put o.dst v') w') : wpList P ops Q (o :: rest) a w := by
  cases A with
  | none =>
    have h0 : news = [] := by
      rcases hR with hR | ⟨b, off, e, _⟩
      · exact hR
      · cases e
    subst h0
    have hm : m = 0 := by
      rcases Nat.eq_zero_or_pos m with k | k
      · exact k
      · have := Nat.mul_pos k hsz; simp at hl; omega
    subst hm
    refine wpList_plain hgd fun K hK => ?_
    have hrun := run_append_none_c (P := P) (w := w) base t o.type e i size ht hi v n xs hown c
    unfold Oper.wp
    simp [execOp, ho, resolve, invoke, builtin, hs, hx, hrun, Result.andThen]
    exact hK _ _ (h v w (by simpa using hown) (grown_refl w _))
  | some ad =>
    refine wpList_append_own w hgd s x t ho base e i z size bytes ht hi hz hsize hby hzs hsz v n xs hs hown ad m c news hx hl ?_ h1 h63 hbytes hbase fun v' w' h2 h3 _ => h v' w' h2 h3
    intro j u hu
    rcases hR with hR | ⟨b, off, e, hb, hc⟩
    · subst hR; simp at hu
    · injection e with e
      subst e
      have hadd : (⟨b, off, none⟩ : Addr).add j = ⟨b, off + j, none⟩ := by unfold Addr.add; split <;> simp_all
      rw [hadd]; exact hc j u hu
theorem Rd.left {w : World} {A : Option Addr} {xs ys : List Value} (h : Rd w A (xs ++ ys)) : Rd w A xs := by
  rcases h with h | ⟨b, off, e, hb, hc⟩
  · exact .inl (List.append_eq_nil_iff.1 h).1
  · exact .inr ⟨b, off, e, hb, fun j u hu => hc j u (by rw [List.getElem?_append_left (List.getElem?_eq_some_iff.1 hu).1]; exact hu)⟩
/-- parts of a slice -/
theorem Rd.part {w : World} {b off : Nat} {xs ys zs : List Value} (h : Rd w (some ⟨b, off, none⟩) (xs ++ ys ++ zs)) : Rd w (some ⟨b, off + xs.length, none⟩) ys := by
  rcases h with h | ⟨b', off', e, hb, hc⟩
  · left
    simp only [List.append_eq_nil_iff] at h
    exact h.1.2
  · injection e with e
    injection e with e1 e2 e3
    subst e1 e2
    refine .inr ⟨b, off + xs.length, rfl, hb, fun j u hu => ?_⟩
    have := hc (xs.length + j) u (by
      rw [List.append_assoc, List.getElem?_append_right (by omega), Nat.add_sub_cancel_left, List.getElem?_append_left (List.getElem?_eq_some_iff.1 hu).1]
      exact hu)
    rw [Nat.add_assoc]; exact this
/-- what xs[k:] reads as -/
theorem Rd.tail_ {w : World} {A : Option Addr} {xs ys : List Value} {c k m : Nat} (h : Rd w A (xs ++ ys)) (hk : xs.length = m) (hc : c = k → ys = []) : Rd w (if c = k then A else Option.map (fun x => x.add m) A) ys := by
  by_cases h0 : ys = []
  · exact .inl h0
  · rw [if_neg (fun e => h0 (hc e))]
    rcases h with h | ⟨b, off, e, hb, hcell⟩
    · exact absurd (List.append_eq_nil_iff.1 h).2 h0
    · subst e
      have hadd : (⟨b, off, none⟩ : Addr).add m = ⟨b, off + m, none⟩ := by unfold Addr.add; split <;> simp_all
      refine .inr ⟨b, off + m, by rw [Option.map_some, hadd], hb, fun j u hu => ?_⟩
      have := hcell (m + j) u (by rw [List.getElem?_append_right (by omega), hk, Nat.add_sub_cancel_left]; exact hu)
      rw [Nat.add_assoc]; exact this
theorem tail_none {A : Option Addr} {c k m : Nat} (hA : A = none → c = 0) (h : (if c = k then A else Option.map (fun x => x.add m) A) = none) : c - k = 0 := by
  by_cases e : c = k
  · omega
  · rw [if_neg e] at h
    cases A with
    | none => have := hA rfl; omega
    | some a => cases h
end Go.Dw
/- A box whose cells are all written. -/
namespace Go.Dw
open Go Go.RowKit

theorem blkq {w w' : World} {g : Nat} {t : TypeId} {cs : List Value} (h : Blk w g t cs) (hb : Below w.heap.size w w') : Blk w' g t cs := (hb.block g h.lt).trans h
/-- cells from i on are written -/
def setN (W : World) (g : Nat) : Nat → List Value → World
  | _, [] => W
  | i, v :: vs => setN (W.setCell ⟨g, i, none⟩ v) g (i + 1) vs
theorem setN_app {g : Nat} {t : TypeId} : ∀ (vs : List Value) (W : World) (i : Nat) (pre cs : List Value), Blk W g t (pre ++ cs) → pre.length = i → cs.length = vs.length → Blk (setN W g i vs) g t (pre ++ vs)
  | [], W, i, pre, cs, h, _, hl => by
    have : cs = [] := List.eq_nil_of_length_eq_zero hl
    subst this; exact h
  | v :: vs, W, i, pre, cs, h, hi, hl => by
    cases cs with
    | nil => simp at hl
    | cons c cs =>
      have h1 := h.set_ i v
      have e : (pre ++ c :: cs).set i v = (pre ++ [v]) ++ cs := by
        rw [List.set_append_right _ _ (by omega), hi]
        simp
      rw [e] at h1
      have := setN_app vs (W.setCell ⟨g, i, none⟩ v) (i + 1) (pre ++ [v]) cs h1 (by simp [hi]) (by simpa using hl)
      simpa [setN] using this
theorem setN_blk {g : Nat} {t : TypeId} {W : World} {cs : List Value} (vs : List Value) (h : Blk W g t cs) (hl : cs.length = vs.length) : Blk (setN W g 0 vs) g t vs := by
  have := setN_app vs W 0 [] cs (by simpa using h) rfl hl
  simpa using this
theorem setN_below {w0 : World} {B g : Nat} (hg : B ≤ g) : ∀ (vs : List Value) (W : World) (i : Nat), Below B w0 W → Below B w0 (setN W g i vs)
  | [], _, _, h => h
  | v :: vs, _, i, h => setN_below hg vs _ (i + 1) (h.setCell (p := ⟨g, i, none⟩) hg v)
theorem setN_heap {g : Nat} : ∀ (vs : List Value) (W : World) (i j : Nat), j ≠ g → (setN W g i vs).heap[j]? = W.heap[j]?
  | [], _, _, _, _ => rfl
  | v :: vs, W, i, j, h => (setN_heap vs _ (i + 1) j h).trans (Below.heap_setCell W ⟨g, i, none⟩ v j (by exact h))
theorem setN_size {g : Nat} : ∀ (vs : List Value) (W : World) (i : Nat), (setN W g i vs).heap.size = W.heap.size
  | [], _, _ => rfl
  | v :: vs, W, i => (setN_size vs _ (i + 1)).trans (by simp [World.setCell])
theorem setN_kp {T T' : TypeId} {g : Nat} {W : World} {cs : List Value} (vs : List Value) (h : Blk W g T' cs) (hne : T' ≠ T) (i : Nat) : KpT T W (setN W g i vs) :=
  ⟨by rw [setN_size]; exact Nat.le_refl _, fun b cs' fr hb => setN_heap vs W i b fun e => by
    subst e
    unfold Blk at h
    rw [hb] at h
    injection h with h
    injection h with _ h
    exact hne h.symm⟩
end Go.Dw
