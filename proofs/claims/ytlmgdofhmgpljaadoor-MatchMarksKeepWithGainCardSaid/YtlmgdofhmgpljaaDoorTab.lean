/- Words for slices of slices that the call itself made: whatever program. -/
import Derived.Test.YtlmgdofhmgpljaaDoorBase
import Derived.Laws.Rows
import Derived.Laws.MakeOwn
namespace Go.Dw
open Go.RowKit

/-- as Rd, and the block meets S -/
def RdS (S : Nat → Prop) (w : World) (A : Option Addr) (vs : List Value) : Prop :=
  vs = [] ∨ ∃ b off, A = some ⟨b, off, none⟩ ∧ S b ∧ b < w.heap.size ∧ ∀ j u, vs[j]? = some u → w.cell? ⟨b, off + j, none⟩ = some u
/-- what is at the blocks that meet S has stayed -/
def Same (S : Nat → Prop) (w w' : World) : Prop := w.heap.size ≤ w'.heap.size ∧ ∀ b, S b → b < w.heap.size → w'.heap[b]? = w.heap[b]?
theorem Same.refl (S : Nat → Prop) (w : World) : Same S w w := ⟨Nat.le_refl _, fun _ _ _ => rfl⟩
theorem Same.trans {S : Nat → Prop} {a b c : World} (h : Same S a b) (k : Same S b c) : Same S a c :=
  ⟨Nat.le_trans h.1 k.1, fun i hs hi => (k.2 i hs (Nat.lt_of_lt_of_le hi h.1)).trans (h.2 i hs hi)⟩
theorem Same.mono {S S' : Nat → Prop} {w w' : World} (h : Same S w w') (hs : ∀ b, b < w.heap.size → S' b → S b) : Same S' w w' := ⟨h.1, fun b hb hl => h.2 b (hs b hl hb) hl⟩
theorem Same.of_below {S : Nat → Prop} {w w' : World} (h : Below w.heap.size w w') : Same S w w' := ⟨h.size, fun b _ hb => h.block b hb⟩
theorem Same.alloc {S : Nat → Prop} (w : World) (o : Obj) : Same S w (w.alloc o) := ⟨by simp, fun b _ hb => Below.heap_alloc w o b hb⟩
theorem Same.set {S : Nat → Prop} (w : World) (p : Addr) (u : Value) (hp : ¬ S p.block) : Same S w (w.setCell p u) :=
  ⟨by simp [World.setCell], fun b hb _ => Below.heap_setCell w p u b (fun e => hp (e ▸ hb))⟩
theorem Same.drewN {S : Nat → Prop} (w : World) (n : Nat) : Same S w (w.drewN n) := ⟨Nat.le_refl _, fun _ _ _ => rfl⟩
theorem Same.drew {S : Nat → Prop} (w : World) : Same S w w.drew := ⟨Nat.le_refl _, fun _ _ _ => rfl⟩
theorem RdS.same {S : Nat → Prop} {w w' : World} {A : Option Addr} {vs : List Value} (h : RdS S w A vs) (hs : Same S w w') : RdS S w' A vs := by
  rcases h with h | ⟨b, off, e, hb, hl, hc⟩
  · exact .inl h
  · exact .inr ⟨b, off, e, hb, Nat.lt_of_lt_of_le hl hs.1, fun j u hu => (World.cell?_of_block (hs.2 b hb hl)).trans (hc j u hu)⟩
theorem RdS.mono {S S' : Nat → Prop} {w : World} {A : Option Addr} {vs : List Value} (h : RdS S w A vs) (hs : ∀ b, b < w.heap.size → S b → S' b) : RdS S' w A vs := by
  rcases h with h | ⟨b, off, e, hb, hl, hc⟩
  · exact .inl h
  · exact .inr ⟨b, off, e, hs b hl hb, hl, hc⟩
theorem RdS.rd {S : Nat → Prop} {w : World} {A : Option Addr} {vs : List Value} (h : RdS S w A vs) : Rd w A vs := by
  rcases h with h | ⟨b, off, e, hb, hl, hc⟩
  · exact .inl h
  · exact .inr ⟨b, off, e, hl, hc⟩
theorem Rd.rds {w : World} {A : Option Addr} {vs : List Value} (h : Rd w A vs) : RdS (fun b => b < w.heap.size) w A vs := by
  rcases h with h | ⟨b, off, e, hl, hc⟩
  · exact .inl h
  · exact .inr ⟨b, off, e, hl, hl, hc⟩
theorem RdS.at_ {S : Nat → Prop} {w : World} {A : Option Addr} {vs : List Value} (h : RdS S w A vs) (hn : 0 < vs.length) :
    ∃ b off, A = some ⟨b, off, none⟩ ∧ S b ∧ b < w.heap.size ∧ ∀ j u, vs[j]? = some u → w.cell? ⟨b, off + j, none⟩ = some u := by
  rcases h with rfl | h
  · simp at hn
  · exact h

/-- the value is a slice of the integers xs, at blocks that meet S -/
def RdIs (S : Nat → Prop) (w : World) (v : Value) (xs : List Int) : Prop := ∃ A c, v = .slice A xs.length c ∧ RdS S w A (ic xs)
theorem RdIs.same {S : Nat → Prop} {w w' : World} {v : Value} {xs : List Int} (h : RdIs S w v xs) (hs : Same S w w') : RdIs S w' v xs := by
  obtain ⟨A, c, e, h⟩ := h
  exact ⟨A, c, e, h.same hs⟩
theorem RdIs.mono {S S' : Nat → Prop} {w : World} {v : Value} {xs : List Int} (h : RdIs S w v xs) (hs : ∀ b, b < w.heap.size → S b → S' b) : RdIs S' w v xs := by
  obtain ⟨A, c, e, h⟩ := h
  exact ⟨A, c, e, h.mono hs⟩
/-- the value is a slice of such slices -/
def RdIIs (S : Nat → Prop) (w : World) (v : Value) (xss : List (List Int)) : Prop :=
  ∃ A c vs, v = .slice A xss.length c ∧ vs.length = xss.length ∧ RdS S w A vs ∧ ∀ i (h1 : i < vs.length) (h2 : i < xss.length), RdIs S w vs[i] xss[i]
theorem RdIIs.same {S : Nat → Prop} {w w' : World} {v : Value} {xss : List (List Int)} (h : RdIIs S w v xss) (hs : Same S w w') : RdIIs S w' v xss := by
  obtain ⟨A, c, vs, e, hl, h, hi⟩ := h
  exact ⟨A, c, vs, e, hl, h.same hs, fun i h1 h2 => (hi i h1 h2).same hs⟩
theorem RdIIs.mono {S S' : Nat → Prop} {w : World} {v : Value} {xss : List (List Int)} (h : RdIIs S w v xss) (hs : ∀ b, b < w.heap.size → S b → S' b) : RdIIs S' w v xss := by
  obtain ⟨A, c, vs, e, hl, h, hi⟩ := h
  exact ⟨A, c, vs, e, hl, h.mono hs, fun i h1 h2 => (hi i h1 h2).mono hs⟩
/-- the cell of row i, and of its element k -/
theorem RdIIs.at_ {S : Nat → Prop} {w : World} {v : Value} {xss : List (List Int)} (h : RdIIs S w v xss) {i k : Nat} (hi : i < xss.length) (hk : k < xss[i].length) :
    ∃ b off c b2 off2 c2, v = .slice (some ⟨b, off, none⟩) xss.length c ∧ w.cell? ⟨b, off + i, none⟩ = some (.slice (some ⟨b2, off2, none⟩) xss[i].length c2) ∧ w.cell? ⟨b2, off2 + k, none⟩ = some (.int .i64 xss[i][k]) := by
  obtain ⟨A, c, vs, rfl, hl, h, hr⟩ := h
  obtain ⟨b, off, rfl, _, _, hc⟩ := h.at_ (by omega)
  obtain ⟨A2, c2, e2, h2⟩ := hr i (by omega) hi
  obtain ⟨b2, off2, rfl, _, _, hc2⟩ := h2.at_ (by rw [ic_length]; omega)
  refine ⟨b, off, c, b2, off2, c2, rfl, ?_, hc2 k _ (ic_at _ k hk)⟩
  rw [← e2]
  exact hc i _ (List.getElem?_eq_getElem (by omega))

/-- a block that is known whole, nothing of it frozen -/
def Blk (w : World) (g : Nat) (t : TypeId) (cs : List Value) : Prop := w.heap[g]? = some (.cells cs.toArray t (0, 0))
section
variable {w w' : World} {g : Nat} {t : TypeId} {cs : List Value}
theorem Blk.lt (h : Blk w g t cs) : g < w.heap.size := by
  rcases Nat.lt_or_ge g w.heap.size with hlt | hge
  · exact hlt
  · unfold Blk at h; rw [Array.getElem?_eq_none hge] at h; cases h
theorem Blk.cell (h : Blk w g t cs) (i : Nat) : w.cell? ⟨g, i, none⟩ = cs[i]? := by
  rw [cell_of_row w g i cs.toArray t (0, 0) h]; simp
theorem Blk.frozen (h : Blk w g t cs) (i : Nat) : w.frozen? ⟨g, i, none⟩ = false := by
  unfold Blk at h
  simp [World.frozen?, h]
theorem Blk.new (w : World) (t : TypeId) (cs : List Value) : Blk (w.alloc (.cells cs.toArray t)) w.heap.size t cs := heap_alloc_new w _
theorem Blk.same {S : Nat → Prop} (h : Blk w g t cs) (hs : Same S w w') (hg : S g) : Blk w' g t cs := (hs.2 g hg h.lt).trans h
theorem Blk.set_ (h : Blk w g t cs) (i : Nat) (u : Value) : Blk (w.setCell ⟨g, i, none⟩ u) g t (cs.set i u) := by
  unfold Blk at h ⊢
  simp [World.setCell, Array.getElem?_modify, h]
theorem Blk.rds {S : Nat → Prop} (h : Blk w g t cs) (hg : S g) : RdS S w (some ⟨g, 0, none⟩) cs :=
  .inr ⟨g, 0, rfl, hg, h.lt, fun j u hu => by rw [Nat.zero_add, h.cell j]; exact hu⟩
end
/-- n times the value z -/
def zs (n : Nat) (z : Value) : List Value := List.replicate n z
theorem zs_length (n : Nat) (z : Value) : (zs n z).length = n := by simp [zs]
theorem zs_at (n : Nat) (z : Value) (k : Nat) (h : k < n) : (zs n z)[k]? = some z := by simp [zs, h]
theorem run_mk {P : Program} (t e : TypeId) (i : TypeInfo) (z : Value) (bytes : Nat) (ht : P.underlying t = some (.slice e)) (hi : P.info? e = some i) (hz : i.zero = some z) (hz1 : i.size = 1) (hz2 : i.bytes = bytes) (hzc : z.cells = #[z])
    (n : Int) (k : Nat) (hn : n = k) (hb : bytes * k ≤ 281474976710656) (hk : k ≤ 9223372036854775807) (w : World) :
    (Instr.makeSlice t (.int .i64 n) (.int .i64 n)).run P w = .ok (.slice (some ⟨w.heap.size, 0, none⟩) k k) (w.alloc (.cells (zs k z).toArray e)) := by
  subst hn
  have hbb : (i.bytes : Int) * (k : Int) ≤ 281474976710656 := by
    rw [hz2]
    have h : ((bytes * k : Nat) : Int) ≤ 281474976710656 := by omega
    rwa [Int.natCast_mul] at h
  have hr := run_make (P := P) w t e i z ht hi hz .i64 .i64 k k (by omega) (by omega) hbb (by omega)
  simp only [Int.toNat_natCast] at hr
  rw [hr, hz1, hzc, Nat.mul_one]
  have : madeCells #[z] k = (zs k z).toArray := by
    apply Array.ext'
    rw [toList_madeCells_one]; simp [zs]
  rw [this]
theorem new_cell {W : World} {cs : List Value} {t : TypeId} {i b : Nat} {v : Value} (hb : b = W.heap.size) (hv : cs[i]? = some v) : (W.alloc (.cells cs.toArray t)).cell? ⟨b, i, none⟩ = some v := by
  subst hb; rw [(Blk.new W t cs).cell i, hv]
end Go.Dw
