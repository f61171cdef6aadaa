/- Words for maps that the call made, as functions of their keys: whatever program. -/
import Derived.Test.YtnlnaglaipjlfaaGreatDoorBase
import Derived.Maps.OwnSet
import Derived.WideKeyArgs2
import Derived.DeepKeys4
namespace Go.Dw
open Go.RowKit Go.Maps

/-- an element as it stands -/
def tok (v : Value) : Option (DataW Value × List MemPlace) := some (.held v, [])
theorem tok_inj {v u : Value} {ps : List MemPlace} (h : tok v = some (.held u, ps)) : v = u := by
  unfold tok at h
  simp at h
  exact h.1
/-- block b is a map of at most n entries, f its elements -/
def OMap (P : Program) (k : TypeId) (w : World) (b n : Nat) (f : Value → Option Value) : Prop :=
  ∃ D : DataW Value, w.ownsMap P k tok b n D ∧ ∀ key kl, keyOf P k key = some kl → has D kl = (f key).isSome ∧ ∀ z, D.atKey kl z = match f key with | some v => .held v | none => z
section
variable {P : Program} {k : TypeId} {w : World} {b n : Nat} {f : Value → Option Value}
theorem OMap.made (w : World) (P : Program) (k : TypeId) : OMap P k (w.alloc (.map #[] 0)) w.heap.size 0 (fun _ => none) :=
  ⟨_, World.ownsMap_made w P k tok, fun _ _ _ => ⟨rfl, fun _ => rfl⟩⟩
theorem OMap.mono (h : OMap P k w b n f) {m : Nat} (hm : n ≤ m) : OMap P k w b m f := by
  obtain ⟨D, h1, h2⟩ := h; exact ⟨D, h1.mono hm, h2⟩
theorem OMap.congr (h : OMap P k w b n f) {f' : Value → Option Value} (hf : ∀ key kl, keyOf P k key = some kl → f key = f' key) : OMap P k w b n f' := by
  obtain ⟨D, h1, h2⟩ := h
  exact ⟨D, h1, fun key kl hk => by rw [← hf key kl hk]; exact h2 key kl hk⟩
theorem OMap.lt (h : OMap P k w b n f) : b < w.heap.size := by obtain ⟨D, h1, _⟩ := h; exact h1.lt
theorem OMap.kept {w' : World} {row : Option Nat} (h : OMap P k w b n f) (hg : w.grownBy w' row) (hne : some b ≠ row) : OMap P k w' b n f := by
  obtain ⟨D, h1, h2⟩ := h; exact ⟨D, h1.kept hg hne, h2⟩
theorem OMap.alloc (h : OMap P k w b n f) (o : Obj) : OMap P k (w.alloc o) b n f := by
  obtain ⟨D, h1, h2⟩ := h; exact ⟨D, h1.alloc o, h2⟩
theorem OMap.drewN (h : OMap P k w b n f) (m : Nat) : OMap P k (w.drewN m) b n f := h
theorem OMap.below {w' : World} (h : OMap P k w b n f) (hb : Below w.heap.size w w') : OMap P k w' b n f :=
  h.kept (row := none) ⟨hb.os, hb.tape, hb.output, hb.size, fun j hj _ => hb.block j hj⟩ (by simp)
theorem OMap.set {a : Addr} (h : OMap P k w b n f) (ha : b ≠ a.block) (u : Value) : OMap P k (w.setCell a u) b n f := by
  obtain ⟨D, h1, h2⟩ := h; exact ⟨D, h1.setCell ha u, h2⟩
theorem OMap.look {t e : TypeId} (h : OMap P k w b n f) (K : Keyed P k) (ht : P.underlying t = some (.map k e)) {z : Value} (hz : ∀ w, (zeroValue e).run P w = .ok z w) {key : Value} {kl : Lit} (hk : keyOf P k key = some kl) :
    (Instr.lookup t (.map (some b)) key false).run P w = .ok ((f key).getD z) w := by
  obtain ⟨D, h1, h2⟩ := h
  obtain ⟨_, h3⟩ := h2 key kl hk
  obtain ⟨v, ps, hr, hv⟩ := h1.lookup K ht (hz w) (zd := .held z) (zp := []) rfl hk
  rw [h3] at hv
  rw [hr]
  cases hf : f key with
  | none => rw [hf] at hv; rw [tok_inj hv]; rfl
  | some u => rw [hf] at hv; rw [tok_inj hv]; rfl
theorem OMap.look_ok {t e : TypeId} (h : OMap P k w b n f) (K : Keyed P k) (ht : P.underlying t = some (.map k e)) {z : Value} (hz : ∀ w, (zeroValue e).run P w = .ok z w) {key : Value} {kl : Lit} (hk : keyOf P k key = some kl) :
    (Instr.lookup t (.map (some b)) key true).run P w = .ok (.tuple #[(f key).getD z, .bool (f key).isSome]) w := by
  obtain ⟨D, h1, h2⟩ := h
  obtain ⟨h4, h3⟩ := h2 key kl hk
  obtain ⟨v, ps, hr, hv⟩ := h1.look_ok K ht (hz w) (zd := .held z) (zp := []) rfl hk
  rw [h3] at hv
  rw [hr, h4]
  cases hf : f key with
  | none => rw [hf] at hv; rw [tok_inj hv]; rfl
  | some u => rw [hf] at hv; rw [tok_inj hv]; rfl
/-- an element put in -/
theorem OMap.put {w' : World} {D : DataW Value} (K : Keyed P k) {key v : Value} {kl : Lit} (hk : keyOf P k key = some kl) (hD : IsMap D) (h : w'.ownsMap P k tok b n (D.put kl (.held v)))
    (h2 : ∀ key kl, keyOf P k key = some kl → has D kl = (f key).isSome ∧ ∀ z, D.atKey kl z = match f key with | some v => .held v | none => z)
    {f' : Value → Option Value} (hf1 : f' key = some v) (hf2 : ∀ x, x ≠ key → f' x = f x) : OMap P k w' b n f' := by
  refine ⟨_, h, fun x xl hx => ?_⟩
  by_cases he : x = key
  · subst he
    have : xl = kl := by rw [hk] at hx; injection hx with hx; exact hx.symm
    subst this
    rw [hf1]
    exact ⟨has_put_same hD (K.key hk) _, fun z => atKey_put_same hD (K.key hk) _ z⟩
  · have hne : xl ≠ kl := fun e => he (K.inj hx (by rw [e]; exact hk))
    rw [hf2 x he, has_put_other hne]
    refine ⟨(h2 x xl hx).1, fun z => ?_⟩
    rw [atKey_put_other hne]; exact (h2 x xl hx).2 z
theorem OMap.update {t e : TypeId} (h : OMap P k w b n f) (K : Keyed P k) (ht : P.underlying t = some (.map k e)) (hn : n < maxLen) {key : Value} (v : Value) {kl : Lit} (hk : keyOf P k key = some kl) {f' : Value → Option Value} (hf1 : f' key = some v) (hf2 : ∀ x, x ≠ key → f' x = f x) :
    ∃ w', (Instr.mapUpdate t (.map (some b)) key v).run P w = .ok () w' ∧ OMap P k w' b (n + 1) f' ∧ w.grownBy w' (some b) := by
  obtain ⟨D, h1, h2⟩ := h
  obtain ⟨w', hr, h3, h4⟩ := h1.update K ht hn hk (val := v) (d := .held v) (ps := []) rfl
  exact ⟨w', hr, OMap.put K hk h1.isMap h3 h2 hf1 hf2, h4⟩
end
/-- a store into such a map, at the operation -/
theorem wpList_omap {P : Program} (w : World) {ops : Array Oper} {rest : List Oper} {o : Oper} {a : Act} {Q : Exit → Act → World → Prop}
    (hg : o.guard = none) (m x v : Operand) (t : TypeId) (hop : o.op = Op.mapUpdate t m x v)
    (k e : TypeId) (K : Keyed P k) (ht : P.underlying t = some (.map k e)) (b n : Nat) (f : Value → Option Value)
    (hm : a.eval m = .map (some b)) (hown : OMap P k w b n f) (hn : n < maxLen) (key val : Value) (hx : a.eval x = key) (hv : a.eval v = val) (kl : Lit) (hkey : keyOf P k key = some kl)
    (f' : Value → Option Value) (hf1 : f' key = some val) (hf2 : ∀ x, x ≠ key → f' x = f x) (hK : ∀ w', OMap P k w' b (n + 1) f' → w.grownBy w' (some b) → wpList P ops Q rest (a.put o.dst undef) w') :
    wpList P ops Q (o :: rest) a w := by
  obtain ⟨D, h1, h2⟩ := hown
  exact wpList_mapUpdate_own w hg m x v t hop k e K ht tok b n D hm h1 hn key val kl hx hv hkey (.held val) [] rfl fun w' h3 h4 => hK w' (OMap.put K hkey h1.isMap h3 h2 hf1 hf2) h4
end Go.Dw
