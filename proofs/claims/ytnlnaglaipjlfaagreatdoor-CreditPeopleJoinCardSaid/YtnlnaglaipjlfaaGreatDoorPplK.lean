/- Plain: the reference's leaders, a list of labels in memory. -/
import Derived.Test.YtnlnaglaipjlfaaGreatDoorPplI
import Derived.Test.YtnlnaglaipjlfaaGreatDoorPplH
import Derived.Test.YtnlnaglaipjlfaaGreatDoorGrp
namespace Go.Proofs.YtnlnaglaipjlfaaGreatDoor
open Go.RowKit Go.Dw

/-- a list of numbers of the call's own, nil perhaps -/
structure Ow (w0 : World) (A : Option Addr) (n c : Nat) (l : List Nat) (wr : World) : Prop where
  len : l.length = n
  own : wr.ownsRow w0.heap.size 3 1 (.slice A n c) n (nc l)
  bel : Below w0.heap.size w0 wr
section
variable {w0 wr : World} {A : Option Addr} {n c g : Nat} {l : List Nat}
theorem Ow.ex (h : Ow w0 A n c l wr) (hn : 0 < n) : ∃ g, A = some ⟨g, 0, none⟩ := by
  obtain ⟨g, cap, hv, _⟩ := h.own.form hn
  injection hv with h1
  exact ⟨g, h1⟩
theorem Ow.below {w' : World} (h : Ow w0 A n c l wr) (hb : Below wr.heap.size wr w') : Ow w0 A n c l w' :=
  ⟨h.len, own_belowL h.own hb, h.bel.trans (hb.mono h.bel.size)⟩
theorem Ow.cell (h : Ow w0 (some ⟨g, 0, none⟩) n c l wr) {j : Nat} (hj : j < n) : wr.cell? ⟨g, j, none⟩ = some (.int .i64 ((l.getD j 0 : Nat) : Int)) := by
  have := h.len
  rw [h.own.cellAt j (by omega)]
  simp [nc, show j < l.length by omega]
theorem Ow.frozen (h : Ow w0 (some ⟨g, 0, none⟩) n c l wr) (j : Nat) : wr.frozen? ⟨g, j, none⟩ = false := h.own.frozenAt j
theorem Ow.lt (h : Ow w0 (some ⟨g, 0, none⟩) n c l wr) : g < wr.heap.size := (h.own.lt g rfl).2
theorem Ow.le (h : Ow w0 (some ⟨g, 0, none⟩) n c l wr) : w0.heap.size ≤ g := (h.own.lt g rfl).1
theorem Ow.store (h : Ow w0 (some ⟨g, 0, none⟩) n c l wr) (j v : Nat) : Ow w0 (some ⟨g, 0, none⟩) n c (l.set j v) (wr.setCell ⟨g, j, none⟩ (.int .i64 (v : Int))) := by
  refine ⟨by rw [List.length_set]; exact h.len, ?_, h.bel.setCell h.le _⟩
  have h1 := (h.own.stored j (.int .i64 (v : Int))).1
  have e1 : (nc l).set j (.int .i64 (v : Int)) = nc (l.set j v) := by unfold nc; rw [List.map_set]
  rw [e1] at h1
  exact h1
/-- the sum of the numbers in memory -/
def mW (A : Option Addr) (n : Nat) (wr : World) : Nat :=
  match A with
  | none => 0
  | .some a => outS ((List.range n).map fun j => match wr.cell? ⟨a.block, j, none⟩ with | .some (.int _ v) => v.toNat | _ => 0)
def bM (v : Value) : Nat := match v with | .bool true => 1 | _ => 0
theorem Ow.sum (h : Ow w0 A n c l wr) : mW A n wr = outS l := by
  have hl := h.len
  rcases Nat.eq_zero_or_pos n with h0 | h0
  · have : l = [] := List.eq_nil_of_length_eq_zero (by omega)
    subst this
    unfold mW
    cases A with
    | none => rfl
    | some a => simp [h0, outS]
  · obtain ⟨g, rfl⟩ := h.ex h0
    unfold mW
    simp only
    congr 1
    apply List.ext_getElem
    · simp [hl]
    · intro i h1 h2
      simp only [List.getElem_map, List.getElem_range]
      rw [h.cell (by omega)]
      simp [List.getElem?_eq_getElem h2]
end
theorem edg_take {ps : List Psp} {cs : List Clm} {k : Nat} (hk : k < cs.length) {e : Nat × Nat} (h : e ∈ edg ps (cs.take (k + 1))) : e ∈ edg ps (cs.take k) ∨ (cs[k].s = true ∧ e = (ixP ps cs[k].a, ixP ps cs[k].b)) := by
  unfold edg at *
  rw [List.take_succ_eq_append_getElem hk, List.filter_append, List.map_append, List.mem_append] at h
  rcases h with h | h
  · exact .inl h
  · right
    cases hs : cs[k].s with
    | false => simp [hs] at h
    | true => simp [hs] at h; exact ⟨rfl, h⟩
theorem edg_mem {ps : List Psp} {cs : List Clm} {k : Nat} (hk : k < cs.length) (h : cs[k].s = true) : (ixP ps cs[k].a, ixP ps cs[k].b) ∈ edg ps cs := by
  unfold edg
  exact List.mem_map.2 ⟨cs[k], List.mem_filter.2 ⟨List.getElem_mem hk, h⟩, rfl⟩
/-- behind k claims of a round -/
structure IR (p : Ppl) (out0 out : List Nat) (k : Nat) (ag : Bool) : Prop where
  f : ag = false → out = out0 ∧ ∀ e ∈ edg p.ps (p.cs.take k), out.getD e.1 0 = out.getD e.2 0
  t : ag = true → outS out < outS out0
theorem IR.start (p : Ppl) (out : List Nat) : IR p out out 0 false := ⟨fun _ => ⟨rfl, fun e he => by simp [edg] at he⟩, fun h => by simp at h⟩
theorem IR.skip {p : Ppl} {out0 out : List Nat} {k : Nat} {ag : Bool} (h : IR p out0 out k ag) (hk : k < p.cs.length) (hs : p.cs[k].s = true → out.getD (ixP p.ps p.cs[k].a) 0 = out.getD (ixP p.ps p.cs[k].b) 0) : IR p out0 out (k + 1) ag :=
  ⟨fun hf => ⟨(h.f hf).1, fun e he => by
    rcases edg_take hk he with h1 | ⟨h1, rfl⟩
    · exact (h.f hf).2 e h1
    · exact hs h1⟩, h.t⟩
theorem IR.put {p : Ppl} {out0 out out2 : List Nat} {k k2 : Nat} {ag : Bool} (h : IR p out0 out k ag) (hlt : outS out2 < outS out) : IR p out0 out2 k2 true :=
  ⟨fun hf => by simp at hf, fun _ => by
    cases ag with
    | false => rw [← (h.f rfl).1]; exact hlt
    | true => exact Nat.lt_trans hlt (h.t rfl)⟩
theorem getD_el (l : List Nat) {j : Nat} (h : j < l.length) : l.getD j 0 = l[j] := by simp [h]
/-- one step of a round -/
theorem pair_step {p : Ppl} (hcs : ClR p.ps p.cs) {out : List Nat} (hO : OutI (edg p.ps p.cs) out) (hl : out.length = p.ps.length) {k : Nat} (hk : k < p.cs.length) (hs : p.cs[k].s = true)
    (hne : out.getD (ixP p.ps p.cs[k].a) 0 ≠ out.getD (ixP p.ps p.cs[k].b) 0) {m : Nat} (hm : m = min (out.getD (ixP p.ps p.cs[k].a) 0) (out.getD (ixP p.ps p.cs[k].b) 0)) :
    OutI (edg p.ps p.cs) ((out.set (ixP p.ps p.cs[k].a) m).set (ixP p.ps p.cs[k].b) m) ∧ outS ((out.set (ixP p.ps p.cs[k].a) m).set (ixP p.ps p.cs[k].b) m) < outS out := by
  have ia := hcs.ia _ (List.getElem_mem hk)
  have ib := hcs.ib _ (List.getElem_mem hk)
  have ha : ixP p.ps p.cs[k].a < out.length := by omega
  have hb : ixP p.ps p.cs[k].b < out.length := by omega
  rw [getD_el _ ha, getD_el _ hb] at hne hm
  subst hm
  exact ⟨hO.pair ha hb (edg_mem hk hs), outS_pair ha hb hne⟩
/-- what leaders says -/
def LeadPost (w : World) (p : Ppl) (e : Ending) (w' : World) : Prop :=
  ∃ A c, e = .returned (.slice A p.ps.length c) ∧ Rd w' A (nc ((List.range p.ps.length).map (lab p))) ∧ Below w.heap.size w w'
theorem lead_done {p : Ppl} (hcs : ClR p.ps p.cs) {out : List Nat} (hO : OutI (edg p.ps p.cs) out) (hl : out.length = p.ps.length) (hc : ∀ e ∈ edg p.ps p.cs, out.getD e.1 0 = out.getD e.2 0) : out = (List.range p.ps.length).map (lab p) := by
  have hE : ∀ e ∈ edg p.ps p.cs, e.1 < out.length ∧ e.2 < out.length := fun e he => by
    unfold edg at he
    obtain ⟨x, hx, rfl⟩ := List.mem_map.1 he
    have hx' := (List.mem_filter.1 hx).1
    rw [hl]
    exact ⟨hcs.ia _ hx', hcs.ib _ hx'⟩
  apply List.ext_getElem
  · simp [hl]
  · intro i h1 h2
    simp only [List.getElem_map, List.getElem_range]
    exact out_done hO hE hc i h1
theorem pix_in {ps : List Psp} {q : ByteArray} (h : ixP ps q < ps.length) : pix ps q = (ixP ps q : Nat) := by unfold pix; rw [if_pos h]
end Go.Proofs.YtnlnaglaipjlfaaGreatDoor
