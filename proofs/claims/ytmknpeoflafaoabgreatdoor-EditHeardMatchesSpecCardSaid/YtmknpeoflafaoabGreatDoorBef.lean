/- The reference's grains: cells, numbers; the contract of before. -/
import Derived.Test.YtmknpeoflafaoabGreatDoorHrdP
import Derived.Test.YtmknpeoflafaoabGreatDoorNumY
import Derived.Test.YtmknpeoflafaoabGreatDoorNumB
import Derived.Test.YtmknpeoflafaoabGreatDoorOrdR
namespace Go.Proofs.YtmknpeoflafaoabGreatDoor
open Go.RowKit Go.Dw

theorem bLe3_lt {a b : ByteArray} (h : sLt a b) : Op.bytesLess a.toList b.toList = true := by
  rw [ByteArray.toList_eq, ByteArray.toList_eq]; exact h
theorem bLe3_eq (a : ByteArray) : Op.bytesLess a.toList a.toList = false ∧ (a.toList == a.toList) = true := by
  rw [ByteArray.toList_eq]; exact ⟨bL_irr _, by simp⟩
theorem bLe3_gt {a b : ByteArray} (h : sLt b a) : Op.bytesLess a.toList b.toList = false ∧ (a.toList == b.toList) = false := by
  rw [ByteArray.toList_eq, ByteArray.toList_eq]
  have h2 := sLt_asymm h
  refine ⟨by simpa [sLt, bL] using h2, ?_⟩
  have h3 : ¬ a.data.toList = b.data.toList := fun e => by
    have := ba_ext e
    subst this
    exact sLt_irr a h
  exact beq_eq_false_iff_ne.2 h3
theorem bs_iff3 (a b : ByteArray) : Op.bytesLess a.toList b.toList = decide (sLt a b) := by
  rcases sLt_tri a b with h | h | h
  · rw [bLe3_lt h]; simp [h]
  · subst h; rw [(bLe3_eq a).1]; simp [sLt_irr]
  · rw [(bLe3_gt h).1]; simpa using sLt_asymm h
/-- a grain of the reference's -/
structure Gr6 where
  g : Gk
  s : Bool
  a : Option Addr
  l : Nat
  c : Nat
  b : Option Addr
  m : Nat
  d : Nat
def Gr6.cs (x : Gr6) : List Value := [.string x.g.m, .int .i64 x.g.ch, .int .i64 x.g.s, .bool x.s, .slice x.a x.l x.c, .slice x.b x.m x.d]
def Gr6.v (x : Gr6) : Value := .agg #[.string x.g.m, .int .i64 x.g.ch, .int .i64 x.g.s, .bool x.s, .slice x.a x.l x.c, .slice x.b x.m x.d]
def Gr6.n (x : Gr6) : Value := .agg #[.bool x.s, .slice x.a x.l x.c, .slice x.b x.m x.d]
instance : Inhabited Gr6 := ⟨⟨⟨⟨#[]⟩, 0, 0⟩, false, none, 0, 0, none, 0, 0⟩⟩
/-- rows of them against sums -/
def RelG (w : World) (R : List Gr6) (l : Gs) : Prop := R.length = l.length ∧ ∀ i (hi : i < R.length) (hl : i < l.length), R[i].g = l[i].1 ∧ NumQ w R[i].n l[i].2
theorem RelG.mono {w w' : World} {R : List Gr6} {l : Gs} (h : RelG w R l) (hk : ∀ v q, NumQ w v q → NumQ w' v q) : RelG w' R l :=
  ⟨h.1, fun i hi hl => ⟨(h.2 i hi hl).1, hk _ _ (h.2 i hi hl).2⟩⟩
theorem numQ_below {w w' : World} {v : Value} {q : Rat} (h : NumQ w v q) (hb : Below w.heap.size w w') : NumQ w' v q := NumR.below h hb
theorem RelG.below {w w' : World} {R : List Gr6} {l : Gs} (h : RelG w R l) (hb : Below w.heap.size w w') : RelG w' R l := h.mono fun _ _ k => numQ_below k hb
/-- a number stays where a block of another type is written -/
theorem numQ_typed {w w' : World} {row : Option Nat} (hg : w.grownBy w' row) (ht : ∀ g, row = some g → ∃ cs fr, ∃ T : TypeId, w.heap[g]? = some (.cells cs T fr) ∧ T ≠ 3) {v : Value} {q : Rat} (h : NumQ w v q) : NumQ w' v q := by
  have hk : ∀ (b : Nat) cs fr, w.heap[b]? = some (Obj.cells cs 3 fr) → w'.heap[b]? = w.heap[b]? := fun b cs fr hb => by
    refine hg.block b (Array.getElem?_eq_some_iff.1 hb).1 fun e => ?_
    obtain ⟨cs', fr', T, h1, h2⟩ := ht b e.symm
    rw [hb] at h1
    injection h1 with h1
    injection h1 with _ h1
    exact h2 h1.symm
  obtain ⟨x, y, e, h1, h2⟩ := h
  exact ⟨x, y, e, h1.kept hg.size hk, h2.kept hg.size hk⟩
/-- the block of a row of grains is none of whole numbers -/
theorem own_type {w : World} {base n : Nat} {v : Value} {xs : List Value} (h : w.ownsRow base 64 6 v n xs) : ∀ g, v.ownBlock = some g → ∃ cs fr, ∃ T : TypeId, w.heap[g]? = some (.cells cs T fr) ∧ T ≠ 3 := fun g hg => by
  rcases h.2 with ⟨h1, _⟩ | ⟨g', cap, cur, hv, _, hgg, _⟩
  · subst h1; cases hg
  · subst hv
    injection hg with hg
    subst hg
    exact ⟨_, _, _, hgg, by decide⟩
theorem gLt_f {a b : Gk} (h : sLt b.m a.m) : ¬ gLt a b := fun k => by
  rcases k with k | ⟨k, _⟩
  · exact sLt_asymm h k
  · rw [k] at h; exact sLt_irr _ h
theorem gLt_e {m : ByteArray} {c d s t : Int} : gLt ⟨m, c, s⟩ ⟨m, d, t⟩ ↔ c < d ∨ (c = d ∧ s < t) := by
  unfold gLt
  exact ⟨fun h => by rcases h with h | ⟨_, h⟩; exact absurd h (sLt_irr _); exact h, fun h => .inr ⟨rfl, h⟩⟩
set_option maxRecDepth 100000 in
set_option maxHeartbeats 2000000 in
theorem before_any (x y : Gr6) (w : World) :
    Calls Tryz.prog 47 #[x.v, y.v] w fun e w' => e = .returned (.bool (decide (gLt x.g y.g))) ∧ Below w.heap.size w w' := by
  obtain ⟨⟨xm, xc, xs⟩, x1, x2, x3, x4, x5, x6, x7⟩ := x
  obtain ⟨⟨ym, yc, ys⟩, y1, y2, y3, y4, y5, y6, y7⟩ := y
  unfold Gr6.v
  simp only
  obtain ⟨r, hr⟩ : ∃ r, decide (gLt ⟨xm, xc, xs⟩ ⟨ym, yc, ys⟩) = r := ⟨_, rfl⟩
  have HR := Lib.hid hr
  rw [hr]
  clear hr
  have HBF : Hid (Below w.heap.size w ((w.alloc (.cells #[.string xm, .int .i64 xc, .int .i64 xs, .bool x1, .slice x2 x3 x4, .slice x5 x6 x7] 64)).alloc (.cells #[.string ym, .int .i64 yc, .int .i64 ys, .bool y1, .slice y2 y3 y4, .slice y5 y6 y7] 64))) := ((Below.refl _ _).alloc (Nat.le_refl _) _).alloc (by simp) _
  have b1 := bs_iff3 xm ym
  rcases sLt_tri xm ym with hl | hl | hl
  · have HE : Hid (r = true) := by show _ = _; rw [← HR.out]; exact decide_eq_true (.inl hl)
    have e1 : Op.bytesLess xm.toList ym.toList = true := by rw [b1]; simpa using hl
    have e2 : (xm.toList == ym.toList) = false := seq_f (fun e => by subst e; exact sLt_irr _ hl)
    clear b1 hl
    go_enter Tryz.func47, Tryz.ntmps47
    go_wp2_with fail
    go_ret
    exact ⟨by rw [HE.out]; rfl, HBF.out⟩
  · subst hl
    have e2 : (xm.toList == xm.toList) = true := by simp
    clear b1
    rcases Int.lt_trichotomy xc yc with hc | hc | hc
    · have HE : Hid (r = true) := by show _ = _; rw [← HR.out]; exact decide_eq_true (gLt_e.2 (.inl hc))
      have e3 : (xc != yc) = true := by simp; omega
      have e4 : decide (xc < yc) = true := decide_eq_true hc
      clear hc
      go_enter Tryz.func47, Tryz.ntmps47
      go_wp2_with fail
      go_ret
      exact ⟨by rw [HE.out]; rfl, HBF.out⟩
    · subst hc
      have HE : Hid (r = decide (xs < ys)) := by
        show _ = _
        rw [← HR.out]
        exact decide_eq_decide.2 (gLt_e.trans ⟨fun h => by omega, fun h => .inr ⟨rfl, h⟩⟩)
      have e3 : (xc != xc) = false := by simp
      go_enter Tryz.func47, Tryz.ntmps47
      go_wp2_with fail
      go_ret
      exact ⟨by rw [HE.out]; rfl, HBF.out⟩
    · have HE : Hid (r = false) := by show _ = _; rw [← HR.out]; exact decide_eq_false (fun h => by have := gLt_e.1 h; omega)
      have e3 : (xc != yc) = true := by simp; omega
      have e4 : decide (xc < yc) = false := decide_eq_false (by omega)
      clear hc
      go_enter Tryz.func47, Tryz.ntmps47
      go_wp2_with fail
      go_ret
      exact ⟨by rw [HE.out]; rfl, HBF.out⟩
  · have HE : Hid (r = false) := by show _ = _; rw [← HR.out]; exact decide_eq_false (gLt_f hl)
    have e1 : Op.bytesLess xm.toList ym.toList = false := by rw [b1]; simpa using sLt_asymm hl
    have e2 : (xm.toList == ym.toList) = false := seq_f (fun e => by subst e; exact sLt_irr _ hl)
    clear b1 hl
    go_enter Tryz.func47, Tryz.ntmps47
    go_wp2_with fail
    go_ret
    exact ⟨by rw [HE.out]; rfl, HBF.out⟩
end Go.Proofs.YtmknpeoflafaoabGreatDoor
