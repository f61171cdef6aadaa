/- A list of limbs is put behind one limb. -/
import Derived.Test.YtlmgdofhmgpljaaDoorLmbE
import Derived.Laws.AppendOwnNone
namespace Go.Proofs.YtlmgdofhmgpljaaDoor
open Go.RowKit Go.Dw

theorem grownBy_refl (w : World) (row : Option Nat) : w.grownBy w row :=
  ⟨rfl, rfl, rfl, Nat.le_refl _, fun _ _ _ => rfl⟩
set_option maxRecDepth 100000 in
theorem app_lim {ops : Array Oper} {rest : List Oper} {o : Oper} {a : Act} {Q : Exit → Act → World → Prop} {w : World} (hgd : o.guard = none) (s x : Operand)
    (ho : o.op = .call { callee := .builtin .append, args := #[s, x], argTypes := #[25, 25] })
    (base : Nat) (v : Value) (n : Nat) (xs : List Value) (hs : a.eval s = v) (hown : w.ownsRow base 3 1 v n xs)
    (B : Option Addr) (c : Nat) (l : List Nat) (hx : a.eval x = .slice B l.length c) (hr : Rd w B (nc l)) (hB : B = none → c = 0) (hl : n + l.length ≤ 3000000000000) (hbase : base ≤ w.heap.size)
    (h : ∀ v' w', w'.ownsRow base 3 1 v' (n + l.length) (xs ++ nc l) → w.grownBy w' v.ownBlock → wpList Tryd.prog ops Q rest (a.put o.dst v') w') : wpList Tryd.prog ops Q (o :: rest) a w := by
  obtain ⟨ii, hii, hzi0, hzi1, hzi2⟩ := info_parts infoI
  cases B with
  | none =>
    have hc := hB rfl
    have hl0 : l = [] := by
      rcases hr with h | ⟨b, off, e, _⟩
      · simpa [nc] using h
      · cases e
    subst hc hl0
    refine wpList_append_own_none hgd s x 25 ho base 3 ii 1 Tryd.underlying25 hii v n xs hs hown hx (h v w ?_ (grownBy_refl _ _))
    simpa [nc] using hown
  | some ad =>
    refine wpList_append_own w hgd s x 25 ho base 3 ii _ 1 8 Tryd.underlying25 hii hzi0 hzi1 hzi2 rfl (by decide) v n xs hs hown ad l.length c (nc l) hx (by rw [nc_length]; omega) ?_ ?_ (by unfold maxLen; omega) (by omega) hbase ?_
    · intro j u hj
      rcases hr with h | ⟨b, off, e, hb, hc⟩
      · rw [h] at hj; simp at hj
      · have := hc j u hj
        injection e with e
        subst e
        have he : (⟨b, off, none⟩ : Addr).add j = ⟨b, off + j, none⟩ := by unfold Addr.add; split <;> simp_all
        rw [he]; exact this
    · intro u hu
      simp only [nc, List.mem_map] at hu
      obtain ⟨d, _, rfl⟩ := hu
      rfl
    · intro v' w' h1 h2 _
      exact h v' w' h1 h2
/-- one limb of a quotient: what is done from limb i on -/
structure DvI (w wr : World) (G : Nat) (l : List Nat) (b i : Nat) (o : List Nat) (rv : Value) (R : Nat) : Prop where
  len : o.length = l.length
  ds : Ds L4 o
  eq : val L4 (l.drop i) = val L4 (o.drop i) * b + R
  lt : R < b
  blk : Blk wr G 3 (nc o)
  bel : Below G w wr
  rest : LimV wr rv R
  fr : FrB (G + 1) rv
theorem DvI.cell {w wr : World} {G b i : Nat} {l o : List Nat} {rv : Value} {R : Nat} (h : DvI w wr G l b i o rv R) {k : Nat} (hk : k < l.length) :
    wr.cell? ⟨G, k, none⟩ = some (.int .i64 (o.getD k 0 : Nat)) ∧ wr.frozen? ⟨G, k, none⟩ = false := by
  refine ⟨?_, h.blk.frozen _⟩
  rw [h.blk.cell, nc_at _ _ (by rw [h.len]; exact hk)]
theorem DvI.step {w wr wx w2 : World} {G b k : Nat} {l o : List Nat} {rv rv' : Value} {R r d : Nat} (h : DvI w wr G l b (k + 1) o rv R) (hk : k < l.length) (hG : w.heap.size = G)
    (hr : r = l.getD k 0 + L4 * R) (hd : d < L4) (hq : r / b = d) (hb : Below wr.heap.size wr wx)
    (hw2 : Below (wx.setCell ⟨G, k, none⟩ (.int .i64 (d : Int))).heap.size (wx.setCell ⟨G, k, none⟩ (.int .i64 (d : Int))) w2) (hv : LimV w2 rv' (r % b)) (hf : FrB wx.heap.size rv') :
    DvI w w2 G l b k (o.set k d) rv' (r % b) := by
  have hb0 : 0 < b := by have := h.lt; omega
  have hgl := h.blk.lt
  subst hG
  have hbx : Below w.heap.size w wx := h.bel.trans (hb.mono h.bel.size)
  have hbx2 : Below w.heap.size w (wx.setCell ⟨w.heap.size, k, none⟩ (.int .i64 (d : Int))) := hbx.setCell (p := ⟨w.heap.size, k, none⟩) (Nat.le_refl _) _
  have hblk : Blk wx w.heap.size 3 (nc o) := (hb.block _ hgl).trans h.blk
  refine ⟨by simp [h.len], h.ds.set _ _ hd, ?_, Nat.mod_lt _ hb0, ?_, hbx2.trans (hw2.mono hbx2.size), hv, hf.mono (by have := hb.size; omega)⟩
  · have h1 := dv_step hk h.eq
    rw [← hr, hq] at h1
    rw [h1, dv_val (by rw [h.len]; exact hk) rfl]
  · refine (hw2.block _ ?_).trans ?_
    · have := hb.size; simp [World.setCell]; omega
    · have := hblk.set_ k (.int .i64 (d : Int))
      rw [nc_set]; exact this
end Go.Proofs.YtlmgdofhmgpljaaDoor
