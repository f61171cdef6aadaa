/- The reference's numbers as quotients; boxes of them. -/
import Derived.Test.YtlmgdofhmgpljaaDoorOfR
import Derived.Test.YtlmgdofhmgpljaaDoorRatP
import Derived.Test.YtlmgdofhmgpljaaDoorFac
namespace Go.Proofs.YtlmgdofhmgpljaaDoor
open Go.RowKit Go.Dw

/-- a value is no limb -/
def NoI (c : Value) : Prop := ∀ m, c ≠ .int .i64 m
theorem noI_bool (b : Bool) : NoI (.bool b) := fun _ h => by cases h
theorem noI_slice (A : Option Addr) (n c : Nat) : NoI (.slice A n c) := fun _ h => by cases h
theorem noI_string (s : ByteArray) : NoI (.string s) := fun _ h => by cases h
/-- w' is w but for block g -/
structure Otr (g : Nat) (w w' : World) : Prop where
  size : w.heap.size ≤ w'.heap.size
  heap : ∀ b, b ≠ g → w'.heap[b]? = w.heap[b]?
theorem Otr.set {g : Nat} {w w' : World} (h : Otr g w w') (k : Nat) (u : Value) : Otr g w (w'.setCell ⟨g, k, none⟩ u) :=
  ⟨by simpa [World.setCell] using h.size, fun b hb => (Below.heap_setCell w' ⟨g, k, none⟩ u b hb).trans (h.heap b hb)⟩
theorem Otr.refl (g : Nat) (w : World) : Otr g w w := ⟨Nat.le_refl _, fun _ _ => rfl⟩
theorem otr3 (w : World) (g : Nat) (x y z : Value) : Otr g w (((w.setCell ⟨g, 0, none⟩ x).setCell ⟨g, 1, none⟩ y).setCell ⟨g, 2, none⟩ z) := (((Otr.refl g w).set 0 x).set 1 y).set 2 z
theorem LimV.other {w w' : World} {g : Nat} {t : TypeId} {cs : List Value} (h : Blk w g t cs) (hc : ∀ c ∈ cs, NoI c) (ho : Otr g w w') {v : Value} {n : Nat} (hv : LimV w v n) : LimV w' v n := by
  obtain ⟨A, c, l, rfl, hr, hn, hvl⟩ := hv
  refine ⟨A, c, l, rfl, ?_, hn, hvl⟩
  rcases hr with hr | ⟨b, off, e, hlt, hcl⟩
  · exact .inl hr
  · by_cases hl : l = []
    · exact .inl (by rw [hl]; rfl)
    · have hne : b ≠ g := by
        rintro rfl
        have h0 := hcl 0 (.int .i64 (l.getD 0 0 : Nat)) (nc_at l 0 (List.length_pos_iff.2 hl))
        rw [Nat.add_zero, h.cell] at h0
        exact hc _ (List.mem_of_getElem? h0) _ rfl
      exact .inr ⟨b, off, e, by have := ho.size; omega, fun j u hu => (World.cell?_of_block (ho.heap b hne)).trans (hcl j u hu)⟩
/-- a box of three cells that are no limbs -/
def NB (t : TypeId) (w : World) (g : Nat) : Prop := ∃ x y z, Blk w g t [x, y, z] ∧ NoI x ∧ NoI y ∧ NoI z
theorem NB.lim {t : TypeId} {w w' : World} {g : Nat} (h : NB t w g) (ho : Otr g w w') {v : Value} {n : Nat} (hv : LimV w v n) : LimV w' v n := by
  obtain ⟨x, y, z, hb, hx, hy, hz⟩ := h
  exact LimV.other hb (fun c hc => by simp at hc; rcases hc with rfl | rfl | rfl <;> assumption) ho hv
theorem blk_gqr {w w' : World} {g : Nat} {t : TypeId} {cs : List Value} (h : Blk w g t cs) (hb : Gq w w') : Blk w' g t cs := h.same (Same.of_below (S := fun _ => True) hb) trivial
theorem NB.gq {t : TypeId} {w w' : World} {g : Nat} (h : NB t w g) (hb : Gq w w') : NB t w' g := by
  obtain ⟨x, y, z, h1, h2⟩ := h
  exact ⟨x, y, z, blk_gqr h1 hb, h2⟩
theorem Otr.blk {w w' : World} {g g' : Nat} {t : TypeId} {cs : List Value} (ho : Otr g w w') (h : Blk w g' t cs) (hne : g' ≠ g) : Blk w' g' t cs := (ho.heap _ hne).trans h
theorem NB.other {t : TypeId} {w w' : World} {g g' : Nat} (h : NB t w g') (ho : Otr g w w') (hne : g' ≠ g) : NB t w' g' := by
  obtain ⟨x, y, z, h1, h2⟩ := h
  exact ⟨x, y, z, ho.blk h1 hne, h2⟩
theorem NB.lt {t : TypeId} {w : World} {g : Nat} (h : NB t w g) : g < w.heap.size := by
  obtain ⟨x, y, z, h1, _⟩ := h
  exact h1.lt
theorem NB.cells {t : TypeId} {w : World} {g : Nat} (h : NB t w g) : ∃ x y z, w.cell? ⟨g, 0, none⟩ = some x ∧ w.cell? ⟨g, 1, none⟩ = some y ∧ w.cell? ⟨g, 2, none⟩ = some z ∧ w.frozen? ⟨g, 0, none⟩ = false ∧ w.frozen? ⟨g, 1, none⟩ = false ∧ w.frozen? ⟨g, 2, none⟩ = false := by
  obtain ⟨x, y, z, h1, _⟩ := h
  exact ⟨x, y, z, h1.cell 0, h1.cell 1, h1.cell 2, h1.frozen 0, h1.frozen 1, h1.frozen 2⟩
theorem NB.new (t : TypeId) (w : World) {x y z : Value} (hx : NoI x) (hy : NoI y) (hz : NoI z) : NB t (w.alloc (.cells #[x, y, z] t)) w.heap.size :=
  ⟨_, _, _, Blk.new w t [x, y, z], hx, hy, hz⟩
theorem NB.store {t : TypeId} {w : World} {g : Nat} (h : NB t w g) {x y z : Value} : Blk (((w.setCell ⟨g, 0, none⟩ x).setCell ⟨g, 1, none⟩ y).setCell ⟨g, 2, none⟩ z) g t [x, y, z] := by
  obtain ⟨a, b, c, h1, _⟩ := h
  exact ((h1.set_ 0 x).set_ 1 y).set_ 2 z
theorem NB.stored {t : TypeId} {w : World} {g : Nat} (h : NB t w g) {x y z : Value} (hx : NoI x) (hy : NoI y) (hz : NoI z) : NB t (((w.setCell ⟨g, 0, none⟩ x).setCell ⟨g, 1, none⟩ y).setCell ⟨g, 2, none⟩ z) g :=
  ⟨x, y, z, h.store, hx, hy, hz⟩
theorem gq_set3r {wc w : World} {g : Nat} (h : Gq wc w) (hg : wc.heap.size ≤ g) (x y z : Value) : Gq wc (((w.setCell ⟨g, 0, none⟩ x).setCell ⟨g, 1, none⟩ y).setCell ⟨g, 2, none⟩ z) :=
  ((h.set (p := ⟨g, 0, none⟩) hg x).set (p := ⟨g, 1, none⟩) hg y).set (p := ⟨g, 2, none⟩) hg z
/-- the reference's number reads as a quotient -/
def NumQ (w : World) (v : Value) (q : Rat) : Prop := NumR w v (decide (q.num < 0)) q.num.natAbs q.den
def NumRes (q : Rat) (w : World) (e : Ending) (w' : World) : Prop := ∃ v, e = .returned v ∧ NumQ w' v q ∧ Below w.heap.size w w'
theorem num_agg {w : World} {v : Value} {s : Bool} {a b : Nat} (h : NumR w v s a b) : ∃ A L c B M d, v = .agg #[.bool s, .slice A L c, .slice B M d] ∧ LimV w (.slice A L c) a ∧ LimV w (.slice B M d) b := by
  obtain ⟨x, y, rfl, hx, hy⟩ := h
  obtain ⟨A, L, c, rfl⟩ := lim_form hx
  obtain ⟨B, M, d, rfl⟩ := lim_form hy
  exact ⟨A, L, c, B, M, d, rfl, hx, hy⟩
theorem NumR.gq {w w' : World} {v : Value} {s : Bool} {a b : Nat} (h : NumR w v s a b) (hb : Gq w w') : NumR w' v s a b := h.below hb
theorem NB.num {t : TypeId} {w w' : World} {g : Nat} (h : NB t w g) (ho : Otr g w w') {v : Value} {s : Bool} {a b : Nat} (hv : NumR w v s a b) : NumR w' v s a b := by
  obtain ⟨x, y, e, h1, h2⟩ := hv
  exact ⟨x, y, e, h.lim ho h1, h.lim ho h2⟩
/-- a box that holds a number -/
def NumB (w : World) (g : Nat) (s : Bool) (a b : Nat) : Prop := ∃ A L c B M d, Blk w g 48 [.bool s, .slice A L c, .slice B M d] ∧ LimV w (.slice A L c) a ∧ LimV w (.slice B M d) b
theorem NumB.gq {w w' : World} {g : Nat} {s : Bool} {a b : Nat} (h : NumB w g s a b) (hb : Gq w w') : NumB w' g s a b := by
  obtain ⟨A, L, c, B, M, d, h1, h2, h3⟩ := h
  exact ⟨A, L, c, B, M, d, blk_gqr h1 hb, h2.below hb, h3.below hb⟩
theorem NumB.nb {w : World} {g : Nat} {s : Bool} {a b : Nat} (h : NumB w g s a b) : NB 48 w g := by
  obtain ⟨A, L, c, B, M, d, h1, _⟩ := h
  exact ⟨_, _, _, h1, noI_bool _, noI_slice _ _ _, noI_slice _ _ _⟩
theorem NumB.other {t : TypeId} {w w' : World} {g g' : Nat} {s : Bool} {a b : Nat} (h : NumB w g' s a b) (hb : NB t w g) (ho : Otr g w w') (hne : g' ≠ g) : NumB w' g' s a b := by
  obtain ⟨A, L, c, B, M, d, h1, h2, h3⟩ := h
  exact ⟨A, L, c, B, M, d, ho.blk h1 hne, hb.lim ho h2, hb.lim ho h3⟩
theorem NumB.of {w : World} {g : Nat} {s : Bool} {a b : Nat} {A : Option Addr} {L c : Nat} {B : Option Addr} {M d : Nat} (h : Blk w g 48 [.bool s, .slice A L c, .slice B M d]) (hv : NumR w (.agg #[.bool s, .slice A L c, .slice B M d]) s a b) : NumB w g s a b := by
  obtain ⟨x, y, e, h1, h2⟩ := hv
  injection e with e
  simp only [Array.mk.injEq, List.cons.injEq, and_true, true_and] at e
  obtain ⟨rfl, rfl⟩ := e
  exact ⟨A, L, c, B, M, d, h, h1, h2⟩
/-- the quotient that a lowest number stands for -/
theorem numQ_mk {w : World} {v : Value} {s : Bool} {a b : Nat} {z : Int} (hb : 0 < b) (hz : z.natAbs = a) (hs : s = decide (z < 0)) (h : NumR w v s (a / Nat.gcd a b) (b / Nat.gcd a b)) : NumQ w v (mkRat z b) := by
  unfold NumQ
  rw [mk_abs hb, mk_den hb, hz]
  have : decide ((mkRat z b).num < 0) = s := by
    rw [hs]
    by_cases h0 : z < 0
    · rw [decide_eq_true h0, decide_eq_true ((mk_neg hb).2 h0)]
    · rw [decide_eq_false h0, decide_eq_false (fun e => h0 ((mk_neg hb).1 e))]
  rw [this]; exact h
end Go.Proofs.YtlmgdofhmgpljaaDoor
