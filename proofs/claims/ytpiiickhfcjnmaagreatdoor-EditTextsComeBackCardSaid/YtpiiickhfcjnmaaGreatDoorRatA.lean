/- Quotients as the program has them; the contract of num.Over. -/
import Derived.Test.YtpiiickhfcjnmaaGreatDoorNumC
import Derived.Deep.DeepCutAuto
namespace Go.Proofs.YtpiiickhfcjnmaaGreatDoor
open Go.RowKit Go.Dw

/-- the value reads as the whole number z -/
def IntV (w : World) (v : Value) (z : Int) : Prop := ∃ u, v = .agg #[.bool (decide (z < 0)), u] ∧ NatV w u z.natAbs
theorem IntV.below {w w' : World} {v : Value} {z : Int} (h : IntV w v z) (hb : Below w.heap.size w w') : IntV w' v z := by
  obtain ⟨u, e, h⟩ := h
  exact ⟨u, e, h.below hb⟩
/-- .. as z over d -/
def RawV (w : World) (v : Value) (z : Int) (d : Nat) : Prop := ∃ u b, v = .agg #[.bool (decide (z < 0)), u, b] ∧ NatV w u z.natAbs ∧ NatV w b d ∧ 0 < d
theorem RawV.below {w w' : World} {v : Value} {z : Int} {d : Nat} (h : RawV w v z d) (hb : Below w.heap.size w w') : RawV w' v z d := by
  obtain ⟨a, b, e, h, k, hd⟩ := h
  exact ⟨a, b, e, h.below hb, k.below hb, hd⟩
/-- .. as a quotient in lowest terms -/
def RatV (w : World) (v : Value) (q : Rat) : Prop := RawV w v q.num q.den
theorem RatV.below {w w' : World} {v : Value} {q : Rat} (h : RatV w v q) (hb : Below w.heap.size w w') : RatV w' v q := RawV.below h hb
def RatRes (q : Rat) (w : World) (e : Ending) (w' : World) : Prop := ∃ v, e = .returned v ∧ RatV w' v q ∧ Below w.heap.size w w'
def IntRes (z : Int) (w : World) (e : Ending) (w' : World) : Prop := ∃ v, e = .returned v ∧ IntV w' v z ∧ Below w.heap.size w w'
theorem nat_one {w : World} {v : Value} {n : Nat} (h : NatV w v n) : ∃ A c L, v = .slice A L c ∧ (L = 0 ↔ n = 0) ∧ (L = 1 → ∃ b off, A = some ⟨b, off, none⟩ ∧ b < w.heap.size ∧ w.cell? ⟨b, off, none⟩ = some (.int .u32 (n : Int))) ∧ (n = 1 → L = 1) := by
  obtain ⟨A, c, l, rfl, hr, hn, rfl⟩ := h
  refine ⟨A, c, l.length, rfl, ?_, fun h1 => ?_, fun h1 => ?_⟩
  · rw [hn.zero_iff (by decide)]
    exact ⟨fun e => List.eq_nil_of_length_eq_zero e, fun e => by rw [e]; rfl⟩
  · obtain ⟨b, off, e, hb, hc⟩ := uc_cell hr (by omega)
    have := hc 0 (by omega)
    rw [← (nat_len hn).2.1 h1] at this
    exact ⟨b, off, e, hb, this⟩
  · rcases Nat.lt_trichotomy l.length 1 with e | e | e
    · have : l = [] := List.eq_nil_of_length_eq_zero (by omega)
      subst this; simp [val] at h1
    · exact e
    · have h2 := val_ge hn (by omega)
      have h3 : W32 ^ 1 ≤ W32 ^ (l.length - 1) := Nat.pow_le_pow_right (by decide) (by omega)
      have h4 : W32 ^ 1 = 4294967296 := by decide
      omega
/-- what over_any stands on: the boxes -/
structure OvW (w w1 : World) (sg : Bool) (u : Value) : Prop where
  bel : Below w.heap.size w w1
  sz : w1.heap.size = w.heap.size + 2
  b0 : Blk w1 w.heap.size 78 [.bool sg, u]
  b1 : Blk w1 (w.heap.size + 1) 80 [.bool false, .slice none 0 0, .slice none 0 0]
theorem OvW.mk' (w : World) (sg : Bool) (u : Value) : OvW w ((w.alloc (.cells #[.bool sg, u] 78)).alloc (.cells #[.bool false, .slice none 0 0, .slice none 0 0] 80)) sg u := by
  refine ⟨((Below.refl _ _).alloc (Nat.le_refl _) _).alloc (by simp) _, by simp, ?_, ?_⟩
  · exact (Below.heap_alloc _ _ _ (by simp)).trans (Blk.new w _ [.bool sg, u])
  · have := Blk.new (w.alloc (.cells #[.bool sg, u] 78)) 80 [.bool false, .slice none 0 0, .slice none 0 0]
    simpa using this
theorem OvW.cells {w w1 W : World} {sg : Bool} {u : Value} (h : OvW w w1 sg u) (hb : Below w1.heap.size w1 W) :
    (W.cell? ⟨w.heap.size, 0, none⟩ = some (.bool sg) ∧ W.cell? ⟨w.heap.size, 1, none⟩ = some u) ∧
    (W.cell? ⟨w.heap.size + 1, 0, none⟩ = some (.bool false) ∧ W.cell? ⟨w.heap.size + 1, 1, none⟩ = some (.slice none 0 0) ∧ W.cell? ⟨w.heap.size + 1, 2, none⟩ = some (.slice none 0 0)) ∧
    (W.frozen? ⟨w.heap.size + 1, 0, none⟩ = false ∧ W.frozen? ⟨w.heap.size + 1, 1, none⟩ = false ∧ W.frozen? ⟨w.heap.size + 1, 2, none⟩ = false) ∧ w.heap.size ≠ w.heap.size + 1 := by
  have c0 : Blk W w.heap.size 78 [.bool sg, u] := (hb.block _ h.b0.lt).trans h.b0
  have c1 : Blk W (w.heap.size + 1) 80 [.bool false, .slice none 0 0, .slice none 0 0] := (hb.block _ h.b1.lt).trans h.b1
  exact ⟨⟨c0.cell 0, c0.cell 1⟩, ⟨c1.cell 0, c1.cell 1, c1.cell 2⟩, ⟨c1.frozen 0, c1.frozen 1, c1.frozen 2⟩, by omega⟩
/-- the world behind the store of the result -/
def OvSet (w W : World) (x y z : Value) : World := ((W.setCell ⟨w.heap.size + 1, 0, none⟩ x).setCell ⟨w.heap.size + 1, 1, none⟩ y).setCell ⟨w.heap.size + 1, 2, none⟩ z
theorem NatV.other {W W' : World} {g : Nat} {t : TypeId} {cs : List Value} (h : Blk W g t cs) (hc : ∀ c ∈ cs, ∀ m, c ≠ .int .u32 m) (hs : W.heap.size ≤ W'.heap.size) (hh : ∀ b, b ≠ g → W'.heap[b]? = W.heap[b]?) {v : Value} {n : Nat} (hv : NatV W v n) : NatV W' v n := by
  obtain ⟨A, c, l, rfl, hr, hn, hvl⟩ := hv
  refine ⟨A, c, l, rfl, ?_, hn, hvl⟩
  rcases hr with hr | ⟨b, off, e, hlt, hcl⟩
  · exact .inl hr
  · by_cases hl : l = []
    · exact .inl (by rw [hl]; rfl)
    · have hne : b ≠ g := by
        rintro rfl
        have h0 := hcl 0 (.int .u32 (l.getD 0 0 : Nat)) (uc_at l 0 (List.length_pos_iff.2 hl))
        rw [Nat.add_zero, h.cell] at h0
        exact hc _ (List.mem_of_getElem? h0) _ rfl
      exact .inr ⟨b, off, e, by omega, fun j u hu => (World.cell?_of_block (hh b hne)).trans (hcl j u hu)⟩
theorem OvW.store {w w1 W : World} {sg : Bool} {u : Value} (h : OvW w w1 sg u) (hb : Below w1.heap.size w1 W) (x y z : Value) :
    Below w.heap.size w (OvSet w W x y z) ∧ ((OvSet w W x y z).cell? ⟨w.heap.size + 1, 0, none⟩ = some x ∧ (OvSet w W x y z).cell? ⟨w.heap.size + 1, 1, none⟩ = some y ∧ (OvSet w W x y z).cell? ⟨w.heap.size + 1, 2, none⟩ = some z) ∧
    ∀ v n, NatV W v n → NatV (OvSet w W x y z) v n := by
  have h1 : Below w.heap.size w W := h.bel.trans (hb.mono (by rw [h.sz]; omega))
  have c1 : Blk W (w.heap.size + 1) 80 [.bool false, .slice none 0 0, .slice none 0 0] := (hb.block _ h.b1.lt).trans h.b1
  have c2 := ((c1.set_ 0 x).set_ 1 y).set_ 2 z
  have hB : Below w.heap.size w (OvSet w W x y z) := ((h1.setCell (p := ⟨w.heap.size + 1, 0, none⟩) (by show _ ≤ w.heap.size + 1; omega) _).setCell (p := ⟨w.heap.size + 1, 1, none⟩) (by show _ ≤ w.heap.size + 1; omega) _).setCell (p := ⟨w.heap.size + 1, 2, none⟩) (by show _ ≤ w.heap.size + 1; omega) _
  refine ⟨hB, ⟨c2.cell 0, c2.cell 1, c2.cell 2⟩, fun v n hv => ?_⟩
  refine NatV.other c1 (fun c hc m => by simp at hc; rcases hc with rfl | rfl <;> simp) (by simp [OvSet, World.setCell]) (fun b hb => ?_) hv
  unfold OvSet
  rw [Below.heap_setCell _ ⟨w.heap.size + 1, 2, none⟩ _ b hb, Below.heap_setCell _ ⟨w.heap.size + 1, 1, none⟩ _ b hb, Below.heap_setCell _ ⟨w.heap.size + 1, 0, none⟩ _ b hb]
set_option maxRecDepth 100000 in
set_option maxHeartbeats 8000000 in
theorem over_zero (u vd : Value) (sg : Bool) (w : World) (hu : NatV w u 0) :
    Calls Tryz.prog 97 #[.agg #[.bool sg, u], vd] w (RatRes 0 w) := by
  obtain ⟨A, c, L, rfl, hL, _, _⟩ := nat_one hu
  have hL0 : L = 0 := hL.2 rfl
  subst hL0
  have HON : Hid (∀ W, Calls Tryz.prog 150 #[] W fun e w' => ∃ v, e = .returned v ∧ NatV w' v 1 ∧ Below W.heap.size W w') := fun W => one_any W
  obtain ⟨w1, hw1⟩ : ∃ w1, w1 = (w.alloc (.cells #[.bool sg, .slice A 0 c] 78)).alloc (.cells #[.bool false, .slice none 0 0, .slice none 0 0] 80) := ⟨_, rfl⟩
  have HO : Hid (OvW w w1 sg (.slice A 0 c)) := by rw [hw1]; exact OvW.mk' w sg _
  obtain ⟨⟨c0, c1⟩, ⟨r0, r1, r2⟩, ⟨f0, f1, f2⟩, hne⟩ := HO.out.cells (Below.refl _ _)
  have HW1 := Lib.hid hw1
  clear hu hL hw1
  go_enter Tryz.func97, Tryz.ntmps97
  go_upto_region 1 with (fail)
  rw [← HW1.out]
  go_wp2_with fail
  refine (HON.out _).mono ?_
  rintro e w2 ⟨v, rfl, hv, hb⟩
  obtain ⟨⟨d0, d1⟩, ⟨s0, s1, s2⟩, ⟨g0, g1, g2⟩, _⟩ := HO.out.cells hb
  have HV := Lib.hid hv
  have HB := Lib.hid hb
  clear hv hb c0 c1 r0 r1 r2 f0 f1 f2
  obtain ⟨A2, c2, L2, hv2, hz2⟩ := nat_one HV.out
  subst hv2
  clear hz2
  have HV2 : Hid True := trivial
  go_wp2_with fail
  obtain ⟨k1, ⟨k2, k3, k4⟩, k5⟩ := HO.out.store HB.out (.bool false) (.slice none 0 0) (.slice A2 L2 c2)
  unfold OvSet at k1 k2 k3 k4 k5
  refine bodyPost_ret (v := .agg #[.bool false, .slice none 0 0, .slice A2 L2 c2]) (by simp [results, Tryz.results97, go_sem, k2, k3, k4]) rfl ⟨_, rfl, ⟨.slice none 0 0, .slice A2 L2 c2, by simp, ?_, ?_, by simp⟩, k1⟩
  · exact nat_zero _
  · have := HV2.out
    exact k5 _ _ (by first | exact HV.out | (rw [← this]; exact HV.out))
end Go.Proofs.YtpiiickhfcjnmaaGreatDoor
