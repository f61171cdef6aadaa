/- Words for rows of numbers of the call's own, and for slices of such rows. -/
import Derived.Test.YtnlnaglaipjlfaaGreatDoorTab
import Derived.Test.YtnlnaglaipjlfaaGreatDoorDblP
import Derived.Test.YtnlnaglaipjlfaaGreatDoorProg
namespace Go.Dw
open Go.RowKit

theorem rng_set {α : Type} (g : Nat → α) (m j : Nat) (v : α) : ((List.range m).map g).set j v = (List.range m).map fun k => if k = j then v else g k := by
  apply List.ext_getElem
  · simp
  · intro i h1 h2
    simp only [List.length_set, List.length_map, List.length_range] at h1
    rw [List.getElem_set]
    by_cases h : j = i
    · subst h; simp
    · have h' : ¬ i = j := fun e => h e.symm
      simp [h, h']
theorem rng_congr {α : Type} {g g' : Nat → α} {m : Nat} (h : ∀ k, k < m → g k = g' k) : (List.range m).map g = (List.range m).map g' :=
  List.map_congr_left fun k hk => h k (List.mem_range.1 hk)
/-- numbers as cells -/
def nc (l : List Nat) : List Value := l.map fun (x : Nat) => Value.int .i64 (x : Int)
theorem nc_len (l : List Nat) : (nc l).length = l.length := by simp [nc]
theorem nc_at (l : List Nat) (k : Nat) (h : k < l.length) : (nc l)[k]? = some (.int .i64 (l[k] : Int)) := by simp [nc, h]
theorem nc_snoc (l : List Nat) (x : Nat) : nc (l ++ [x]) = nc l ++ [.int .i64 (x : Int)] := by simp [nc]
/-- a row of n numbers of the call's own -/
def Grp (e : TypeId) (w0 : World) (g n c : Nat) (f : Nat → Nat) (wr : World) : Prop :=
  wr.ownsRow w0.heap.size e 1 (.slice (some ⟨g, 0, none⟩) n c) n (nc ((List.range n).map f)) ∧ Below w0.heap.size w0 wr
section
variable {e : TypeId} {w0 wr : World} {g n c : Nat} {f f' : Nat → Nat}
theorem Grp.lt (h : Grp e w0 g n c f wr) : g < wr.heap.size := (h.1.lt g rfl).2
theorem Grp.le (h : Grp e w0 g n c f wr) : w0.heap.size ≤ g := (h.1.lt g rfl).1
theorem Grp.cell (h : Grp e w0 g n c f wr) {j : Nat} (hj : j < n) : wr.cell? ⟨g, j, none⟩ = some (.int .i64 (f j : Int)) := by
  rw [h.1.cellAt j (by omega)]; simp [nc, hj]
theorem Grp.frozen (h : Grp e w0 g n c f wr) (j : Nat) : wr.frozen? ⟨g, j, none⟩ = false := h.1.frozenAt j
theorem Grp.congr (h : Grp e w0 g n c f wr) (hf : ∀ k, k < n → f k = f' k) : Grp e w0 g n c f' wr := by
  unfold Grp; rw [← rng_congr hf]; exact h
theorem Grp.store (h : Grp e w0 g n c f wr) (j v : Nat) (hf : ∀ k, k < n → f' k = if k = j then v else f k) : Grp e w0 g n c f' (wr.setCell ⟨g, j, none⟩ (.int .i64 (v : Int))) := by
  refine ⟨?_, h.2.setCell h.le _⟩
  have h1 := (h.1.stored j (.int .i64 (v : Int))).1
  have e1 : (nc ((List.range n).map f)).set j (.int .i64 (v : Int)) = nc ((List.range n).map f') := by
    unfold nc
    rw [← List.map_set, rng_set, rng_congr hf]
  rw [e1] at h1
  exact h1
theorem Grp.below {w' : World} (h : Grp e w0 g n c f wr) (hb : Below wr.heap.size wr w') : Grp e w0 g n c f w' :=
  ⟨own_belowL h.1 hb, h.2.trans (hb.mono h.2.size)⟩
end
/-- a slice by its cells -/
structure Rw where
  a : Option Addr
  c : Nat
  cs : List Value
def Rw.v (s : Rw) : Value := .slice s.a s.cs.length s.c
/-- slices that lie in other blocks than o -/
def Rws (w : World) (o : Option Nat) (G : List Rw) : Prop := ∀ s ∈ G, RdS (fun b => o ≠ some b) w s.a s.cs
section
variable {w w' : World} {o : Option Nat} {G : List Rw}
theorem Rws.below (h : Rws w o G) (hb : Below w.heap.size w w') : Rws w' o G := fun s hs => (h s hs).same (Same.of_below hb)
theorem Rws.rd (h : Rws w o G) : ∀ s ∈ G, Rd w s.a s.cs := fun s hs => (h s hs).rd
theorem Rws.snoc (h : Rws w o G) {s : Rw} (hs : RdS (fun b => o ≠ some b) w s.a s.cs) : Rws w o (G ++ [s]) := fun t ht => by
  rcases List.mem_append.1 ht with ht | ht
  · exact h t ht
  · rw [List.mem_singleton] at ht; subst ht; exact hs
theorem Rws.app (h : Rws w o G) (hg : w.grownBy w' o) {g : Nat} (hat : o = some g ∨ g = w.heap.size) : Rws w' (some g) G := fun s hs => by
  rcases h s hs with h1 | ⟨b, off, h1, h2, h3, h4⟩
  · exact .inl h1
  · refine .inr ⟨b, off, h1, ?_, Nat.lt_of_lt_of_le h3 hg.size, fun j u hu => ?_⟩
    · intro hh
      injection hh with hh
      subst hh
      rcases hat with hat | hat
      · exact h2 hat
      · omega
    · rw [hg.cell_far _ h3 (fun e => h2 e.symm)]; exact h4 j u hu
theorem rds_own {base e size n c : Nat} {A : Option Addr} {xs : List Value} (h : w.ownsRow base e size (.slice A n c) n xs) (ho : ∀ k, o = some k → k < base) : RdS (fun b => o ≠ some b) w A xs := by
  rcases h.2 with ⟨h0, h1⟩ | ⟨g, cap, cur, hv, hb, hg, _⟩
  · exact .inl (List.eq_nil_of_length_eq_zero (by rw [h.1, h1]; simp))
  · injection hv with hv1 hv2 hv3
    subst hv1
    refine .inr ⟨g, 0, rfl, fun hh => ?_, (Array.getElem?_eq_some_iff.1 hg).1, fun j u hu => ?_⟩
    · have := ho g hh; omega
    · have := h.cells (g := g) rfl j u hu
      have hadd : (⟨g, 0, none⟩ : Addr).add j = ⟨g, 0 + j, none⟩ := by unfold Addr.add; split <;> simp_all
      rw [← hadd]; exact this
end
end Go.Dw
