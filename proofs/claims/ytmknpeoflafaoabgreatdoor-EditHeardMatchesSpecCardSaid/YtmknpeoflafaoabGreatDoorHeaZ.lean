/- Several texts laid into one: Words for maps that the call made, as functions of their keys: whatever program; The map of sums by samples, as the program has it; The contract of slices.Equal at []api.Grain, where both read alike; What is known of right edits where they are heard; what Heard answers; -/
import Derived.Test.YtmknpeoflafaoabGreatDoorBase
import Derived.Maps.OwnSet
import Derived.WideKeyArgs2
import Derived.DeepKeys4
import Derived.Test.YtmknpeoflafaoabGreatDoorHrdP
import Derived.Test.YtmknpeoflafaoabGreatDoorVal
import Derived.Test.YtmknpeoflafaoabGreatDoorNatY
import Derived.Maps.RangeWalk
import Derived.Test.YtmknpeoflafaoabGreatDoorProg
import Derived.Deep.RegionHeld3
import Derived.Deep.DrawnRows
import Derived.BigQuiet
import Derived.Test.YtmknpeoflafaoabGreatDoorDec
import Derived.Test.YtmknpeoflafaoabGreatDoorEdtZ
/- Words for maps that the call made, as functions of their keys: whatever program. -/
namespace Go.Dw
open Go.RowKit Go.Maps

/-- an element as it stands -/
def tok (v : Value) : Option (DataW Value × List MemPlace) := some (.held v, [])
theorem tok_inj {v u : Value} {ps : List MemPlace} (h : tok v = some (.held u, ps)) : v = u := by
  unfold tok at h
  simp at h
  exact h.1
/-- block b is a map of at most n entries, f its elements -/
def OMap (P : Program) (k : TypeId) (w : World) (b n : Nat) (f : Value → Option Value) : Prop :=
  ∃ D : DataW Value, w.ownsMap P k tok b n D ∧ ∀ key kl, keyOf P k key = some kl → has D kl = (f key).isSome ∧ ∀ z, D.atKey kl z = match f key with | some v => .held v | none => z
section
variable {P : Program} {k : TypeId} {w : World} {b n : Nat} {f : Value → Option Value}
theorem OMap.made (w : World) (P : Program) (k : TypeId) : OMap P k (w.alloc (.map #[] 0)) w.heap.size 0 (fun _ => none) :=
  ⟨_, World.ownsMap_made w P k tok, fun _ _ _ => ⟨rfl, fun _ => rfl⟩⟩
theorem OMap.mono (h : OMap P k w b n f) {m : Nat} (hm : n ≤ m) : OMap P k w b m f := by
  obtain ⟨D, h1, h2⟩ := h; exact ⟨D, h1.mono hm, h2⟩
theorem OMap.congr (h : OMap P k w b n f) {f' : Value → Option Value} (hf : ∀ key kl, keyOf P k key = some kl → f key = f' key) : OMap P k w b n f' := by
  obtain ⟨D, h1, h2⟩ := h
  exact ⟨D, h1, fun key kl hk => by rw [← hf key kl hk]; exact h2 key kl hk⟩
theorem OMap.lt (h : OMap P k w b n f) : b < w.heap.size := by obtain ⟨D, h1, _⟩ := h; exact h1.lt
theorem OMap.kept {w' : World} {row : Option Nat} (h : OMap P k w b n f) (hg : w.grownBy w' row) (hne : some b ≠ row) : OMap P k w' b n f := by
  obtain ⟨D, h1, h2⟩ := h; exact ⟨D, h1.kept hg hne, h2⟩
theorem OMap.alloc (h : OMap P k w b n f) (o : Obj) : OMap P k (w.alloc o) b n f := by
  obtain ⟨D, h1, h2⟩ := h; exact ⟨D, h1.alloc o, h2⟩
theorem OMap.drewN (h : OMap P k w b n f) (m : Nat) : OMap P k (w.drewN m) b n f := h
theorem OMap.below {w' : World} (h : OMap P k w b n f) (hb : Below w.heap.size w w') : OMap P k w' b n f :=
  h.kept (row := none) ⟨hb.os, hb.tape, hb.output, hb.size, fun j hj _ => hb.block j hj⟩ (by simp)
theorem OMap.set {a : Addr} (h : OMap P k w b n f) (ha : b ≠ a.block) (u : Value) : OMap P k (w.setCell a u) b n f := by
  obtain ⟨D, h1, h2⟩ := h; exact ⟨D, h1.setCell ha u, h2⟩
theorem OMap.look {t e : TypeId} (h : OMap P k w b n f) (K : Keyed P k) (ht : P.underlying t = some (.map k e)) {z : Value} (hz : ∀ w, (zeroValue e).run P w = .ok z w) {key : Value} {kl : Lit} (hk : keyOf P k key = some kl) :
    (Instr.lookup t (.map (some b)) key false).run P w = .ok ((f key).getD z) w := by
  obtain ⟨D, h1, h2⟩ := h
  obtain ⟨_, h3⟩ := h2 key kl hk
  obtain ⟨v, ps, hr, hv⟩ := h1.lookup K ht (hz w) (zd := .held z) (zp := []) rfl hk
  rw [h3] at hv
  rw [hr]
  cases hf : f key with
  | none => rw [hf] at hv; rw [tok_inj hv]; rfl
  | some u => rw [hf] at hv; rw [tok_inj hv]; rfl
theorem OMap.look_ok {t e : TypeId} (h : OMap P k w b n f) (K : Keyed P k) (ht : P.underlying t = some (.map k e)) {z : Value} (hz : ∀ w, (zeroValue e).run P w = .ok z w) {key : Value} {kl : Lit} (hk : keyOf P k key = some kl) :
    (Instr.lookup t (.map (some b)) key true).run P w = .ok (.tuple #[(f key).getD z, .bool (f key).isSome]) w := by
  obtain ⟨D, h1, h2⟩ := h
  obtain ⟨h4, h3⟩ := h2 key kl hk
  obtain ⟨v, ps, hr, hv⟩ := h1.look_ok K ht (hz w) (zd := .held z) (zp := []) rfl hk
  rw [h3] at hv
  rw [hr, h4]
  cases hf : f key with
  | none => rw [hf] at hv; rw [tok_inj hv]; rfl
  | some u => rw [hf] at hv; rw [tok_inj hv]; rfl
/-- an element put in -/
theorem OMap.put {w' : World} {D : DataW Value} (K : Keyed P k) {key v : Value} {kl : Lit} (hk : keyOf P k key = some kl) (hD : IsMap D) (h : w'.ownsMap P k tok b n (D.put kl (.held v)))
    (h2 : ∀ key kl, keyOf P k key = some kl → has D kl = (f key).isSome ∧ ∀ z, D.atKey kl z = match f key with | some v => .held v | none => z)
    {f' : Value → Option Value} (hf1 : f' key = some v) (hf2 : ∀ x, x ≠ key → f' x = f x) : OMap P k w' b n f' := by
  refine ⟨_, h, fun x xl hx => ?_⟩
  by_cases he : x = key
  · subst he
    have : xl = kl := by rw [hk] at hx; injection hx with hx; exact hx.symm
    subst this
    rw [hf1]
    exact ⟨has_put_same hD (K.key hk) _, fun z => atKey_put_same hD (K.key hk) _ z⟩
  · have hne : xl ≠ kl := fun e => he (K.inj hx (by rw [e]; exact hk))
    rw [hf2 x he, has_put_other hne]
    refine ⟨(h2 x xl hx).1, fun z => ?_⟩
    rw [atKey_put_other hne]; exact (h2 x xl hx).2 z
theorem OMap.update {t e : TypeId} (h : OMap P k w b n f) (K : Keyed P k) (ht : P.underlying t = some (.map k e)) (hn : n < maxLen) {key : Value} (v : Value) {kl : Lit} (hk : keyOf P k key = some kl) {f' : Value → Option Value} (hf1 : f' key = some v) (hf2 : ∀ x, x ≠ key → f' x = f x) :
    ∃ w', (Instr.mapUpdate t (.map (some b)) key v).run P w = .ok () w' ∧ OMap P k w' b (n + 1) f' ∧ w.grownBy w' (some b) := by
  obtain ⟨D, h1, h2⟩ := h
  obtain ⟨w', hr, h3, h4⟩ := h1.update K ht hn hk (val := v) (d := .held v) (ps := []) rfl
  exact ⟨w', hr, OMap.put K hk h1.isMap h3 h2 hf1 hf2, h4⟩
end
/-- a store into such a map, at the operation -/
theorem wpList_omap {P : Program} (w : World) {ops : Array Oper} {rest : List Oper} {o : Oper} {a : Act} {Q : Exit → Act → World → Prop}
    (hg : o.guard = none) (m x v : Operand) (t : TypeId) (hop : o.op = Op.mapUpdate t m x v)
    (k e : TypeId) (K : Keyed P k) (ht : P.underlying t = some (.map k e)) (b n : Nat) (f : Value → Option Value)
    (hm : a.eval m = .map (some b)) (hown : OMap P k w b n f) (hn : n < maxLen) (key val : Value) (hx : a.eval x = key) (hv : a.eval v = val) (kl : Lit) (hkey : keyOf P k key = some kl)
    (f' : Value → Option Value) (hf1 : f' key = some val) (hf2 : ∀ x, x ≠ key → f' x = f x) (hK : ∀ w', OMap P k w' b (n + 1) f' → w.grownBy w' (some b) → wpList P ops Q rest (a.put o.dst undef) w') :
    wpList P ops Q (o :: rest) a w := by
  obtain ⟨D, h1, h2⟩ := hown
  exact wpList_mapUpdate_own w hg m x v t hop k e K ht tok b n D hm h1 hn key val kl hx hv hkey (.held val) [] rfl fun w' h3 h4 => hK w' (OMap.put K hkey h1.isMap h3 h2 hf1 hf2) h4
end Go.Dw
/- The map of sums by samples, as the program has it. -/
namespace Go.Proofs.YtmknpeoflafaoabGreatDoor
open Go.RowKit Go.Dw Go.Maps

theorem laidOutG : laidOutB Tryz.prog = true := by kernel_rfl
theorem rowGr : (33 : TypeId) < Tryz.prog.types.size := of_decide_eq_true (by kernel_rfl)
theorem wideGr : (match Tryz.prog.underlying 33 with | some (.array _ _) | some (.struct _) => true | _ => false) = true := by kernel_rfl
set_option maxRecDepth 100000 in
theorem grKeyed : Keyed Tryz.prog 33 := Keyed.of_law (deep_law_laid laidOutG (m := 3) (by omega) rowGr (by kernel_rfl) wideGr)
/-- a sample as a key -/
def gv (g : Gk) : Value := .agg #[.string g.m, .int .i64 g.ch, .int .i64 g.s, .string ⟨#[]⟩, .string ⟨#[]⟩]
theorem gv_inj {a b : Gk} (h : gv a = gv b) : a = b := by
  unfold gv at h
  injection h with h
  have h2 := congrArg Array.toList h
  simp only [List.cons.injEq, Value.string.injEq, Value.int.injEq, true_and, and_true] at h2
  exact Gk.ext' h2.1 h2.2.1 h2.2.2
theorem zeroRat (w : World) : (zeroValue 47).run Tryz.prog w = .ok (.agg #[.bool false, .slice none 0 0, .slice none 0 0]) w := by kernel_rfl
def GkOk (g : Gk) : Prop := g.m.size ≤ 9223372036854775807 ∧ inI64 g.ch ∧ inI64 g.s
theorem keyGr (g : Gk) (h : GkOk g) : ∃ kl, keyOf Tryz.prog 33 (gv g) = some kl := by
  obtain ⟨h1, h2, h3⟩ := h
  have hkt : Tryz.prog.keyType 33 = true := by kernel_rfl
  have hc : Tryz.prog.cellsOf 33 = 5 := by kernel_rfl
  have hc2 : Tryz.prog.cellsOf 31 = 2 := by kernel_rfl
  have hc9 : Tryz.prog.cellsOf 9 = 1 := by kernel_rfl
  have hc3 : Tryz.prog.cellsOf 3 = 1 := by kernel_rfl
  have h1' : g.m.size ≤ maxLen := by unfold maxLen; exact h1
  have h2' : (Lit.int .i64 g.ch).wf = true := WalkArith.wf_i64 h2
  have h3' : (Lit.int .i64 g.s).wf = true := WalkArith.wf_i64 h3
  have hrow : (33 : Nat) < Tryz.prog.types.size := rowGr
  obtain ⟨d, hd⟩ : ∃ d, Tryz.prog.types.size + 1 = d + 1 + 1 + 1 := ⟨Tryz.prog.types.size - 2, by omega⟩
  unfold keyOf
  rw [Tryz.underlying33]
  simp only [hkt, hd]
  have h0 : (⟨#[]⟩ : ByteArray).size ≤ maxLen := Nat.zero_le _
  simp [Value.formed, Tryz.underlying33, Tryz.underlying31, Tryz.underlying9, Tryz.underlying3, hc, hc2, hc3, hc9, gv, Value.cells, Program.keyLits, h1', h2', h3', h0]
  rw [if_pos (by intro i hi; rcases (by omega : i = 0 ∨ i = 1) with rfl | rfl <;> simp)]
  exact ⟨_, rfl⟩
/-- a block that holds no cells is no number's -/
def NoC (w : World) (b : Nat) : Prop := ∀ off, w.cell? ⟨b, off, none⟩ = none
theorem noC_of {w : World} {b : Nat} {o : Obj} (h : w.heap[b]? = some o) (ho : ∀ cs t fr, o ≠ .cells cs t fr) : NoC w b := fun off => by
  unfold World.cell?
  cases o with
  | cells cs t fr => exact absurd rfl (ho cs t fr)
  | _ => simp [h]
theorem NatV.noC {w w' : World} {b : Nat} (hg : w.grownBy w' (some b)) (hb : NoC w b) {v : Value} {n : Nat} (hv : NatV w v n) : NatV w' v n := by
  refine NatV.grown hg hv fun hp b' hb' e => ?_
  injection e with e
  subst e
  obtain ⟨A, c, l, rfl, hr, hn, hvl⟩ := hv
  rcases hr with hr | ⟨b2, off, rfl, hlt, hcl⟩
  · have : l = [] := by simpa [uc] using hr
    rw [this] at hvl
    simp [val] at hvl
    omega
  · injection hb' with hb'
    subst hb'
    have hl : 0 < l.length := List.length_pos_iff.2 (fun e => by rw [e] at hvl; simp [val] at hvl; omega)
    have := hcl 0 _ (uc_at l 0 hl)
    rw [hb] at this
    cases this
theorem RatV.noC {w w' : World} {b : Nat} (hg : w.grownBy w' (some b)) (hb : NoC w b) {v : Value} {q : Rat} (hv : RatV w v q) : RatV w' v q := by
  obtain ⟨x, y, e, h1, h2, h3⟩ := hv
  exact ⟨x, y, e, NatV.noC hg hb h1, NatV.noC hg hb h2, h3⟩
theorem omap_noC {w : World} {k : TypeId} {b n : Nat} {f : Value → Option Value} (h : OMap Tryz.prog k w b n f) : NoC w b := by
  obtain ⟨D, ⟨es, clock, hb, _⟩, _⟩ := h
  exact noC_of hb (fun _ _ _ e => by cases e)
/-- what the map says of sums -/
structure SumsF (w : World) (l : Gs) (f : Value → Option Value) : Prop where
  some_ : ∀ g q, lookG l g = some q → ∃ v, f (gv g) = some v ∧ RatV w v q
  none_ : ∀ g, lookG l g = none → f (gv g) = none
  form : ∀ v u, f v = some u → ∃ g, v = gv g
theorem SumsF.mono {w w' : World} {l : Gs} {f : Value → Option Value} (h : SumsF w l f) (hk : ∀ v q, RatV w v q → RatV w' v q) : SumsF w' l f :=
  ⟨fun g q hq => by obtain ⟨v, h1, h2⟩ := h.some_ g q hq; exact ⟨v, h1, hk _ _ h2⟩, h.none_, h.form⟩
/-- block b is the map of the sums l, of at most n entries -/
def MapG (w : World) (b n : Nat) (l : Gs) : Prop := ∃ f, OMap Tryz.prog 33 w b n f ∧ SumsF w l f
theorem MapG.made (w : World) : MapG (w.alloc (.map #[] 0)) w.heap.size 0 [] := ⟨_, OMap.made w _ _, fun g q h => by simp [lookG] at h, fun _ _ => rfl, fun _ _ h => by cases h⟩
theorem MapG.below {w w' : World} {b n : Nat} {l : Gs} (h : MapG w b n l) (hb : Below w.heap.size w w') : MapG w' b n l := by
  obtain ⟨f, h1, h2⟩ := h
  exact ⟨f, h1.below hb, h2.mono fun _ _ hv => hv.below hb⟩
theorem MapG.drewN {w : World} {b n : Nat} {l : Gs} (h : MapG w b n l) (m : Nat) : MapG (w.drewN m) b n l := h.below (below_drewN (Below.refl _ _) m)
theorem MapG.lt {w : World} {b n : Nat} {l : Gs} (h : MapG w b n l) : b < w.heap.size := by obtain ⟨f, h1, _⟩ := h; exact h1.lt
theorem MapG.look {w : World} {b n : Nat} {l : Gs} (h : MapG w b n l) (g : Gk) (hg : GkOk g) :
    ∃ v ok, (Instr.lookup 37 (.map (some b)) (gv g) true).run Tryz.prog w = .ok (.tuple #[v, .bool ok]) w ∧ (∃ s A L c B M d, v = .agg #[.bool s, .slice A L c, .slice B M d]) ∧
      ((ok = false ∧ lookG l g = none) ∨ (ok = true ∧ ∃ q, lookG l g = some q ∧ RatV w v q)) := by
  obtain ⟨f, h1, h2⟩ := h
  obtain ⟨kl, hk⟩ := keyGr g hg
  have hr := h1.look_ok grKeyed Tryz.underlying37 zeroRat hk
  cases hl : lookG l g with
  | none =>
    rw [h2.none_ g hl] at hr
    exact ⟨_, false, hr, ⟨false, none, 0, 0, none, 0, 0, rfl⟩, .inl ⟨rfl, rfl⟩⟩
  | some q =>
    obtain ⟨v, e, hv⟩ := h2.some_ g q hl
    rw [e] at hr
    exact ⟨v, true, hr, rat_agg hv, .inr ⟨rfl, q, rfl, hv⟩⟩
theorem MapG.update {w : World} {b n : Nat} {l l' : Gs} (h : MapG w b n l) (hn : n < maxLen) (g : Gk) (hg : GkOk g) (v : Value) (q : Rat) (hv : RatV w v q) (hl : ∀ g', lookG l' g' = if g' = g then some q else lookG l g') :
    ∃ w', (Instr.mapUpdate 37 (.map (some b)) (gv g) v).run Tryz.prog w = .ok () w' ∧ MapG w' b (n + 1) l' ∧ w.grownBy w' (some b) := by
  classical
  obtain ⟨f, h1, h2⟩ := h
  obtain ⟨kl, hk⟩ := keyGr g hg
  have hnc := omap_noC h1
  obtain ⟨w', hr, h3, h4⟩ := h1.update grKeyed Tryz.underlying37 hn v hk (f' := fun x => if gv g = x then some v else f x) (if_pos rfl) (fun x hx => if_neg (fun e => hx e.symm))
  refine ⟨w', hr, ⟨_, h3, ?_, ?_, ?_⟩, h4⟩
  · intro g' q' hq
    rw [hl] at hq
    by_cases e : g' = g
    · subst e
      rw [if_pos rfl] at hq
      injection hq with hq
      subst hq
      exact ⟨v, if_pos rfl, RatV.noC h4 hnc hv⟩
    · rw [if_neg e] at hq
      obtain ⟨u, e1, e2⟩ := h2.some_ g' q' hq
      exact ⟨u, by rw [if_neg (fun k => e (gv_inj k).symm)]; exact e1, RatV.noC h4 hnc e2⟩
  · intro g' hq
    rw [hl] at hq
    by_cases e : g' = g
    · rw [if_pos e] at hq; cases hq
    · rw [if_neg e] at hq
      rw [if_neg (fun k => e (gv_inj k).symm)]
      exact h2.none_ g' hq
  · intro x u hx
    by_cases e : gv g = x
    · exact ⟨g, e.symm⟩
    · rw [if_neg e] at hx
      exact h2.form x u hx
/-- the map is gone through: 'left' is still to come -/
def IterF (w : World) (b r n : Nat) (f : Value → Option Value) (left : Lit → Bool) (cnt : Nat) : Prop :=
  ∃ D, w.ranges Tryz.prog 33 Go.Dw.tok b r n D left cnt ∧ ∀ key kl, keyOf Tryz.prog 33 key = some kl → has D kl = (f key).isSome ∧ ∀ z, D.atKey kl z = match f key with | some v => .held v | none => z
theorem IterF.left_eq {w : World} {b r n : Nat} {f : Value → Option Value} {left : Lit → Bool} {cnt : Nat} (h : IterF w b r n f left cnt) : w.rangeLeft b r = cnt := by
  obtain ⟨D, h1, _⟩ := h; exact h1.left_eq
theorem IterF.kept {w w' : World} {row : Option Nat} {b r n : Nat} {f : Value → Option Value} {left : Lit → Bool} {cnt : Nat} (h : IterF w b r n f left cnt) (hg : w.grownBy w' row) (hb : some b ≠ row) (hr : some r ≠ row) : IterF w' b r n f left cnt := by
  obtain ⟨D, h1, h2⟩ := h
  exact ⟨D, h1.kept hg hb hr, h2⟩
theorem IterF.below {w w' : World} {b r n : Nat} {f : Value → Option Value} {left : Lit → Bool} {cnt : Nat} (h : IterF w b r n f left cnt) (hb : Below w.heap.size w w') : IterF w' b r n f left cnt :=
  h.kept (row := none) ⟨hb.os, hb.tape, hb.output, hb.size, fun j hj _ => hb.block j hj⟩ (by simp) (by simp)
/-- what has been met -/
def VisG (l : Gs) (left : Lit → Bool) (V : Gs) : Prop :=
  V.Pairwise (fun x y => x.1 ≠ y.1) ∧ ∀ g q, (g, q) ∈ V ↔ lookG l g = some q ∧ ∃ kl, keyOf Tryz.prog 33 (gv g) = some kl ∧ left kl = false
theorem VisG.done {l : Gs} {left : Lit → Bool} {V : Gs} (h : VisG l left V) (hl : ∀ kl, left kl = false) (hs : SrtG l) (hok : ∀ x ∈ l, GkOk x.1) : ∀ g q, (g, q) ∈ V ↔ (g, q) ∈ l := fun g q => by
  rw [h.2 g q, look_mem hs]
  constructor
  · exact fun h => h.1
  · intro hm
    obtain ⟨kl, hk⟩ := keyGr g (hok _ hm)
    exact ⟨hm, kl, hk, hl kl⟩
section
variable {w : World} {ops : Array Oper} {rest : List Oper} {o : Oper} {a : Act} {Q : Exit → Act → World → Prop}
theorem wpList_rangeG (w : World) (hg : o.guard = none) (m : Operand) (hop : o.op = Op.range 37 m) (b n : Nat) (l : Gs) (hm : a.eval m = .map (some b)) (h : MapG w b n l)
    (hK : ∀ w' f left cnt, SumsF w l f → IterF w' b w.heap.size n f left cnt → VisG l left [] → cnt ≤ n → w.grownBy w' none → w'.heap.size = w.heap.size + 1 → wpList Tryz.prog ops Q rest (a.put o.dst (.pointer (some ⟨w.heap.size, 0, none⟩))) w') :
    wpList Tryz.prog ops Q (o :: rest) a w := by
  obtain ⟨f, ⟨D, h1, h2⟩, h3⟩ := h
  refine wpList_range_own w hg m _ hop 33 47 grKeyed Tryz.underlying37 tok b n D hm h1 fun w' hr hgr hs => ?_
  refine hK w' f _ _ h3 ⟨D, hr, h2⟩ ⟨List.Pairwise.nil, fun g q => ⟨fun h => by simp at h, ?_⟩⟩ ?_ hgr hs
  · rintro ⟨hq, kl, hk, hl⟩
    obtain ⟨v, e, _⟩ := h3.some_ g q hq
    have := (h2 _ _ hk).1
    rw [e, hl] at this
    cases this
  · obtain ⟨es, clock, _, _, h5, rfl⟩ := h1
    rw [size_eq, length_sorted]
    simpa using h5
theorem wpList_nextG (w : World) (hg : o.guard = none) (it : Operand) (hop : o.op = Op.next it false) (b r n : Nat) (l : Gs) (f : Value → Option Value) (left : Lit → Bool) (cnt : Nat) (V : Gs) (wo : World) (h3 : SumsF wo l f)
    (hit : a.eval it = .pointer (some ⟨r, 0, none⟩)) (h : IterF w b r n f left cnt) (hV : VisG l left V)
    (hDone : cnt = 0 → (∀ kl, left kl = false) → wpList Tryz.prog ops Q rest (a.put o.dst (.tuple #[.bool false])) w)
    (hMore : ∀ g q v w' left' cnt', RatV wo v q → (g, q) ∉ V → lookG l g = some q → IterF w' b r n f left' cnt' → VisG l left' (V ++ [(g, q)]) → cnt' < cnt → w.grownBy w' (some r) → w'.heap.size = w.heap.size →
      (Instr.entry (.pointer (some ⟨r, 0, none⟩))).run Tryz.prog w' = .ok (.tuple #[gv g, v]) w' → wpList Tryz.prog ops Q rest (a.put o.dst (.tuple #[.bool true, gv g, v])) w') :
    wpList Tryz.prog ops Q (o :: rest) a w := by
  obtain ⟨D, h1, h2⟩ := h
  refine wpList_next_ranges w hg it hop 33 grKeyed Go.Dw.tok id id (fun key _ _ => ⟨key, rfl⟩) (fun v _ _ => ⟨v, rfl⟩) b r n D left cnt hit h1 hDone ?_
  intro x c kl y w' cnt' hk hl hy hat hrg hlt hgr hs hen
  simp only [id] at hk hy hen ⊢
  have hfx : f x = some c := by
    have h4 := (h2 x kl hk)
    cases hf : f x with
    | none =>
      have h5 := h4.1
      rw [hf] at h5
      rw [has_true_of_atKey hat] at h5
      cases h5
    | some u =>
      have h5 := h4.2 y.1
      rw [hf, hat] at h5
      unfold Go.Dw.tok at hy
      simp at hy
      rw [← hy] at h5
      simp at h5
      rw [h5]
  obtain ⟨g, rfl⟩ := h3.form x c hfx
  have hlk : ∃ q, lookG l g = some q := by
    cases e : lookG l g with
    | none => rw [h3.none_ g e] at hfx; cases hfx
    | some q => exact ⟨q, rfl⟩
  obtain ⟨q, hq⟩ := hlk
  obtain ⟨v, e, hv⟩ := h3.some_ g q hq
  rw [hfx] at e
  injection e with e
  subst e
  have hnv : (g, q) ∉ V := fun hm => by
    obtain ⟨_, kl', hk', hl'⟩ := (hV.2 g q).1 hm
    rw [hk] at hk'
    injection hk' with hk'
    rw [← hk', hl] at hl'
    cases hl'
  refine hMore g q c w' _ cnt' hv hnv hq ⟨D, hrg, h2⟩ ⟨?_, fun g' q' => ?_⟩ hlt hgr hs hen
  · rw [List.pairwise_append]
    refine ⟨hV.1, by simp, fun z hz z' hz' => ?_⟩
    simp at hz'
    subst hz'
    intro e
    obtain ⟨zg, zq⟩ := z
    simp only at e
    subst e
    have := ((hV.2 zg zq).1 hz).1
    rw [hq] at this
    injection this with this
    subst this
    exact hnv hz
  · rw [List.mem_append, hV.2 g' q']
    constructor
    · rintro (⟨e1, kl', hk', hl'⟩ | e1)
      · exact ⟨e1, kl', hk', by show (left kl' && !kl'.sameKey kl) = false; rw [hl']; rfl⟩
      · simp at e1
        obtain ⟨rfl, rfl⟩ := e1
        refine ⟨hq, kl, hk, ?_⟩
        show (left kl && !kl.sameKey kl) = false
        rw [WideAt.sameKey_self (grKeyed.key hk)]; simp
    · rintro ⟨e1, kl', hk', hl'⟩
      by_cases e : g' = g
      · subst e
        rw [hq] at e1
        injection e1 with e1
        exact .inr (by simp [e1])
      · have hne : kl' ≠ kl := fun e2 => e (gv_inj (grKeyed.inj hk' (by rw [e2]; exact hk)))
        have hl' : (left kl' && !kl'.sameKey kl) = false := hl'
        rw [sameKey_ne hne] at hl'
        exact .inl ⟨e1, kl', hk', by simpa using hl'⟩
end
end Go.Proofs.YtmknpeoflafaoabGreatDoor
/- The contract of slices.Equal at []api.Grain, where both read alike. -/
namespace Go.Proofs.YtmknpeoflafaoabGreatDoor
open Go.RowKit Go.Dw

/-- a grain: a sample, its channel, its place, its factor -/
structure Grn where
  n : ByteArray
  o : Int
  b : Int
  p : ByteArray
  q : ByteArray
def Grn.cs (g : Grn) : List Value := [.string g.n, .int .i64 g.o, .int .i64 g.b, .string g.p, .string g.q]
theorem neqGr (s : ByteArray) (a b : Int) (p q : ByteArray) (w : World) : Sem.run Tryz.prog (binOp .neq 33 (.agg #[.string s, .int .i64 a, .int .i64 b, .string p, .string q]) (.agg #[.string s, .int .i64 a, .int .i64 b, .string p, .string q])) w = .ok (.bool false) w := by
  go_simp
set_option maxHeartbeats 400000 in
theorem sameGr_any (A B : Option Addr) (c d : Nat) (xs : List Grn) (w : World) (ha : Rd w A (xs.flatMap Grn.cs)) (hb : Rd w B (xs.flatMap Grn.cs)) (hn : xs.length ≤ 9223372036854775807) :
    Calls Tryz.prog 6 #[.slice A xs.length c, .slice B xs.length d] w fun e w' => e = .returned (.bool true) ∧ ∃ n, w' = w.drewN n := by
  have hl1 : ((xs.length : Int) != (xs.length : Int)) = false := by simp
  go_enter Tryz.func6, Tryz.ntmps6
  go_wp2
  go_loopw [13] (fun i wr => ∃ k : Nat, k ≤ xs.length ∧ i = .int .i64 k ∧ ∃ n, wr = w.drewN n) (fun i _ => xs.length - (intOf i).toNat)
  case atStart => exact ⟨0, Nat.zero_le _, rfl, 0, rfl⟩
  case round =>
    obtain ⟨k, hk, rfl, n, rfl⟩ := hrel
    by_cases hlt : k < xs.length
    · obtain ⟨b, off, rfl, hbb, hc⟩ := ha.at_ (by rw [flat_len Grn.cs 5 (fun _ => rfl)]; omega)
      obtain ⟨b2, off2, rfl, hbb2, hc2⟩ := hb.at_ (by rw [flat_len Grn.cs 5 (fun _ => rfl)]; omega)
      have hg : ∀ i, i < 5 → (xs.flatMap Grn.cs)[k * 5 + i]? = (xs[k].cs)[i]? := fun i hi => flat_get Grn.cs 5 (fun _ => rfl) xs k i hlt hi
      have c0 := hc (k * 5) (.string xs[k].n) (by have := hg 0 (by omega); rw [Nat.add_zero] at this; rw [this]; rfl)
      have c1 := hc (k * 5 + 1) (.int .i64 xs[k].o) (by rw [hg 1 (by omega)]; rfl)
      have c2 := hc (k * 5 + 2) (.int .i64 xs[k].b) (by rw [hg 2 (by omega)]; rfl)
      have c3 := hc (k * 5 + 3) (.string xs[k].p) (by rw [hg 3 (by omega)]; rfl)
      have c4 := hc (k * 5 + 4) (.string xs[k].q) (by rw [hg 4 (by omega)]; rfl)
      have d0 := hc2 (k * 5) (.string xs[k].n) (by have := hg 0 (by omega); rw [Nat.add_zero] at this; rw [this]; rfl)
      have d1 := hc2 (k * 5 + 1) (.int .i64 xs[k].o) (by rw [hg 1 (by omega)]; rfl)
      have d2 := hc2 (k * 5 + 2) (.int .i64 xs[k].b) (by rw [hg 2 (by omega)]; rfl)
      have d3 := hc2 (k * 5 + 3) (.string xs[k].p) (by rw [hg 3 (by omega)]; rfl)
      have d4 := hc2 (k * 5 + 4) (.string xs[k].q) (by rw [hg 4 (by omega)]; rfl)
      rw [← Nat.add_assoc] at c1 c2 c3 c4 d1 d2 d3 d4
      clear hc hc2 ha hb hg
      generalize xs[k] = h at *
      obtain ⟨pn, po, pb, pc, pd⟩ := h
      simp only at c0 c1 c2 c3 c4 d0 d1 d2 d3 d4
      have hne := neqGr pn po pb pc pd
      go_wp2
      go_quiet (fail)
      go_wp2
      go_roundw
      case rel => exact ⟨k + 1, by omega, by go_num, _, rfl⟩
      case measure => simp [intOf]; omega
    · go_wp2
      go_ret
      exact ⟨rfl, _, rfl⟩
end Go.Proofs.YtmknpeoflafaoabGreatDoor
/- What is known of right edits where they are heard; what Heard answers. -/
namespace Go.Proofs.YtmknpeoflafaoabGreatDoor
open Go.RowKit Go.Dw

/-- a sum as a grain -/
def grnOf (x : Gk × Rat) : Grn := ⟨x.1.m, x.1.ch, x.1.s, ⟨(topT x.2).toArray⟩, ⟨(botT x.2).toArray⟩⟩
theorem ediF_cli {nm : ByteArray → Bool} {mx : Int} {e : Edt} (h : ediF nm mx e = 0) : ∀ c ∈ e.cs, cliF nm e.tracks c = 0 := by
  unfold ediF at h
  split at h
  · omega
  · split at h
    · omega
    · intro c hc
      obtain ⟨k, hk, rfl⟩ := List.mem_iff_getElem.1 hc
      have h2 := firstNZ_zer h k hk
      unfold ediK at h2
      rw [List.getD_eq_getElem?_getD, List.getElem?_eq_getElem hk, Option.getD_some] at h2
      split at h2
      · rename_i h3; exact absurd h2 h3
      · rename_i h3; simpa using h3
theorem cliF_env {nm : ByteArray → Bool} {tk : Int} {c : Cli} (h : cliF nm tk c = 0) : envF c.ln c.e = 0 := by
  unfold cliF at h
  split at h
  · omega
  · split at h
    · omega
    · exact h
/-- how long the numbers of a factor are -/
theorem valQ_lim {e : List Pnt} {ln i : Int} (h : envF ln e = 0) (hl : ln ≤ 100000) (hi : 0 ≤ i ∧ i < 100000) : RLim 300 (valQ e i) := by
  obtain ⟨h1, h2, h3⟩ := envF_ok h
  have hg : ∀ k, k < e.length → RLim 40 (ratQ (e.getD k dPnt)) ∧ 0 ≤ (e.getD k dPnt).at_ ∧ (e.getD k dPnt).at_ < ln := fun k hk => by
    have hm : e.getD k dPnt ∈ e := by rw [List.getD_eq_getElem?_getD, List.getElem?_eq_getElem hk]; exact List.getElem_mem hk
    have hp := h3 _ hm
    exact ⟨(pnt_lim hp).1, hp.a⟩
  unfold valQ
  split
  · exact (hg 0 h1).1.mono (by omega)
  · split
    · exact (hg _ (by omega)).1.mono (by omega)
    · rename_i q1 q2
      have hle := lowP_le e i
      obtain ⟨a1, a2, a3⟩ := hg (lowP e i - 1) (by omega)
      obtain ⟨b1, b2, b3⟩ := hg (lowP e i) (by omega)
      unfold segQ
      have hd : RLim 81 (ratQ (e.getD (lowP e i) dPnt) - ratQ (e.getD (lowP e i - 1) dPnt)) := (RLim.sub b1 a1).mono (by omega)
      have hinc := envF_inc h (lowP e i - 1) (by omega)
      rw [show lowP e i - 1 + 1 = lowP e i by omega] at hinc
      generalize (e.getD (lowP e i) dPnt) = q at *
      generalize (e.getD (lowP e i - 1) dPnt) = p at *
      have hm : RLim 81 (mkRat (i - p.at_) (q.at_ - p.at_).toNat) := by
        have g1 : Lim 1 (i - p.at_).natAbs := by unfold Lim; rw [Nat.pow_one]; have : W32 = 4294967296 := rfl; omega
        have g2 : Lim 1 (q.at_ - p.at_).toNat := by unfold Lim; rw [Nat.pow_one]; have : W32 = 4294967296 := rfl; omega
        exact (RLim.mk g1 g2 (by omega)).mono (by omega)
      exact (RLim.add a1 (RLim.mul hd hm)).mono (by omega)
/-- what is known of a clip where it is heard -/
structure HrdC (tr at_ : Int) (c : Cli) : Prop where
  e : envF c.ln c.e = 0
  l : c.ln ≤ 100000
  i : 0 ≤ at_ - c.at_ ∧ at_ - c.at_ < 100000
  s : 0 ≤ at_ - c.at_ + c.fr ∧ at_ - c.at_ + c.fr ≤ 20000000000000
  ch : 0 ≤ c.ch ∧ c.ch < 16
  q : RLim 300 (valQ c.e (at_ - c.at_))
theorem hrdC_of {nm : ByteArray → Bool} {mx tr at_ : Int} {e : Edt} (h : ediF nm mx e = 0) (hp : 0 ≤ at_ ∧ at_ < 100000) {c : Cli} (hc : c ∈ e.cs) (ho : onC tr at_ c = true) : HrdC tr at_ c := by
  have h1 := ediF_cli h c hc
  have h2 := cliF_env h1
  obtain ⟨r1, r2, r3, r4, r5, r6⟩ := (cliF_ok h1).r
  unfold onC at ho
  have h3 := of_decide_eq_true ho
  exact ⟨h2, by omega, by omega, by omega, r1, valQ_lim h2 (by omega) (by omega)⟩
theorem hrdL_ok {nm : ByteArray → Bool} {mx tr at_ : Int} {e : Edt} (h : ediF nm mx e = 0) (hp : 0 ≤ at_ ∧ at_ < 100000) (hm : ∀ c ∈ e.cs, c.m.size ≤ 9223372036854775807) (i : Nat) : ∀ x ∈ hrdL tr at_ (e.cs.take i), GkOk x.1 := by
  have key : ∀ (cs : List Cli) (l : Gs), (∀ c ∈ cs, c ∈ e.cs) → (∀ x ∈ l, GkOk x.1) → ∀ x ∈ cs.foldl (hrdS tr at_) l, GkOk x.1 := by
    intro cs
    induction cs with
    | nil => exact fun l _ h => h
    | cons c cs ih =>
      intro l hc hl
      refine ih _ (fun x hx => hc x (List.mem_cons_of_mem _ hx)) ?_
      unfold hrdS
      split
      · rename_i ho
        have hk := hrdC_of h hp (hc c (by simp)) ho
        intro x hx
        rcases ins_mem hx with e1 | e1
        · rw [e1]
          exact ⟨hm c (hc c (by simp)), ⟨by have := hk.ch; show _ ≤ c.ch; omega, by have := hk.ch; show c.ch ≤ _; omega⟩, ⟨by have := hk.s; show _ ≤ at_ - c.at_ + c.fr; omega, by have := hk.s; show at_ - c.at_ + c.fr ≤ _; omega⟩⟩
        · exact hl x e1
      · exact hl
  exact key (e.cs.take i) [] (fun c hc => List.mem_of_mem_take hc) (fun x hx => by simp at hx)
theorem hrdL_lim' {nm : ByteArray → Bool} {mx tr at_ : Int} {e : Edt} (h : ediF nm mx e = 0) (hp : 0 ≤ at_ ∧ at_ < 100000) (i : Nat) : LimG 90300 (hrdL tr at_ (e.cs.take i)) :=
  hrdL_lim (ediF_ok h).l (fun _ hc ho => (hrdC_of h hp hc ho).q) i
/-- what comes out of Heard -/
def HeaR (r : Gs × Int) (w : World) (e : Ending) (w' : World) : Prop :=
  ∃ A c, e = .returned (.tuple #[.slice A r.1.length c, .int .i64 r.2]) ∧ Rd w' A ((r.1.map grnOf).flatMap Grn.cs) ∧ Below w.heap.size w w'
theorem heaR_none {w w' : World} {f : Int} {r : Gs × Int} (hr : r = ([], f)) (hb : Below w.heap.size w w') : HeaR r w (.returned (.tuple #[.slice none 0 0, .int .i64 f])) w' := by
  subst hr; exact ⟨none, 0, rfl, .inl rfl, hb⟩
/-- the grains that were met, those that are 0 left out -/
def nzL (V : Gs) : List Grn := (V.filter fun x => decide (x.2 ≠ 0)).map grnOf
theorem nzL_yes {V : Gs} {x : Gk × Rat} (h : x.2 ≠ 0) : nzL (V ++ [x]) = nzL V ++ [grnOf x] := by
  unfold nzL; rw [List.filter_append, List.map_append]; simp [h]
theorem nzL_no {V : Gs} {x : Gk × Rat} (h : x.2 = 0) : nzL (V ++ [x]) = nzL V := by
  unfold nzL; rw [List.filter_append, List.map_append]; simp [h]
/-- what was met, put in order, is what is heard -/
theorem nzL_sorted {V l : Gs} (hs : SrtG l) (hm : ∀ g q, (g, q) ∈ V ↔ (g, q) ∈ l) (hp : V.Pairwise (fun x y => x.1 ≠ y.1)) {l' : List Grn} (p : l'.Perm (nzL V)) (hw : l'.Pairwise (fun x y => ¬ gLt (⟨y.n, y.o, y.b⟩ : Gk) ⟨x.n, x.o, x.b⟩)) :
    l' = (l.filter fun x => decide (x.2 ≠ 0)).map grnOf := by
  have hk : ∀ x : Gk × Rat, (⟨(grnOf x).n, (grnOf x).o, (grnOf x).b⟩ : Gk) = x.1 := fun _ => rfl
  have hne : (nzL V).Pairwise (fun x y => (⟨x.n, x.o, x.b⟩ : Gk) ≠ ⟨y.n, y.o, y.b⟩) := by
    unfold nzL
    rw [List.pairwise_map]
    exact (hp.filter _).imp fun {x y} h => by rw [hk, hk]; exact h
  have hne' : l'.Pairwise (fun x y => (⟨x.n, x.o, x.b⟩ : Gk) ≠ ⟨y.n, y.o, y.b⟩) := (p.pairwise_iff (fun {x y} h => Ne.symm h)).2 hne
  refine srt_uniq (lt := fun x y : Grn => gLt (⟨x.n, x.o, x.b⟩ : Gk) ⟨y.n, y.o, y.b⟩) (fun a => gLt_irr _) (fun h k => gLt_trans h k) ?_ ?_ ?_
  · exact (hw.and hne').imp fun {x y} h => by
      rcases gLt_tri (⟨x.n, x.o, x.b⟩ : Gk) ⟨y.n, y.o, y.b⟩ with k | k | k
      · exact k
      · exact absurd k h.2
      · exact absurd k h.1
  · rw [List.pairwise_map]
    exact (List.Pairwise.filter _ hs).imp fun {x y} h => by rw [hk, hk]; exact h
  · intro x
    rw [p.mem_iff]
    unfold nzL
    simp only [List.mem_map, List.mem_filter]
    constructor
    · rintro ⟨⟨g, q⟩, ⟨h1, h2⟩, rfl⟩
      exact ⟨(g, q), ⟨(hm g q).1 h1, h2⟩, rfl⟩
    · rintro ⟨⟨g, q⟩, ⟨h1, h2⟩, rfl⟩
      exact ⟨(g, q), ⟨(hm g q).2 h1, h2⟩, rfl⟩
end Go.Proofs.YtmknpeoflafaoabGreatDoor
