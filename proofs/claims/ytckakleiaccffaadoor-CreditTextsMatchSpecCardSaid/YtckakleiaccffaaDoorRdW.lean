/- Credits of the call's own. -/
import Derived.Test.YtckakleiaccffaaDoorRdP
import Derived.Test.YtckakleiaccffaaDoorTab
import Derived.Test.YtckakleiaccffaaDoorWords
import Derived.Deep.RegionHeld3
import Derived.Deep.DrawnRows
namespace Go.Proofs.YtckakleiaccffaaDoor
open Go.RowKit Go.Dw

theorem rds_app {w w' : World} {o : Option Nat} {A : Option Addr} {cs : List Value} (h : RdS (fun b => o ≠ some b) w A cs) (hg : w.grownBy w' o) {g : Nat} (hat : o = some g ∨ g = w.heap.size) : RdS (fun b => some g ≠ some b) w' A cs := by
  rcases h with h1 | ⟨b, off, h1, h2, h3, h4⟩
  · exact .inl h1
  · refine .inr ⟨b, off, h1, ?_, Nat.lt_of_lt_of_le h3 hg.size, fun j u hu => ?_⟩
    · intro hh
      injection hh with hh
      subst hh
      rcases hat with hat | hat
      · exact h2 hat
      · omega
    · rw [hg.cell_far _ h3 (fun e => h2 e.symm)]; exact h4 j u hu
def Gq (w W : World) : Prop := Below w.heap.size w W
theorem Gq.alloc {a b : World} (h : Gq a b) (o : Obj) : Gq a (b.alloc o) := Below.alloc h (Below.size h) o
theorem Gq.set {a b : World} (h : Gq a b) {p : Addr} (hp : a.heap.size ≤ p.block) (v : Value) : Gq a (b.setCell p v) := Below.setCell h hp v
theorem Gq.drew {a b : World} (h : Gq a b) : Gq a b.drew := Below.drew h
theorem Gq.refl (a : World) : Gq a a := Below.refl _ _
/-- strings that are no longer than the text -/
def CrNice (c : Crd) : Prop := c.r.size ≤ 1048576 ∧ c.p.size ≤ 1048576 ∧ c.n.size ≤ 1048576 ∧ c.s.xs.length ≤ 1048576 ∧ (∀ x ∈ c.s.xs, x.size ≤ 1048576) ∧ inI64 c.m
/-- their lists lie in other blocks than o -/
def CrsO (w : World) (o : Option Nat) (L : List Crd) : Prop := ∀ c ∈ L, RdS (fun b => o ≠ some b) w c.s.a (sb c.s.xs) ∧ CrNice c
theorem CrsO.nil (w : World) (o : Option Nat) : CrsO w o [] := fun _ h => by cases h
theorem CrsO.below {w w' : World} {o : Option Nat} {L : List Crd} (h : CrsO w o L) (hb : Below w.heap.size w w') : CrsO w' o L :=
  fun c hc => ⟨(h c hc).1.same (Same.of_below hb), (h c hc).2⟩
theorem CrsO.app {w w' : World} {o : Option Nat} {L : List Crd} (h : CrsO w o L) (hg : w.grownBy w' o) {g : Nat} (hat : o = some g ∨ g = w.heap.size) : CrsO w' (some g) L :=
  fun c hc => ⟨rds_app (h c hc).1 hg hat, (h c hc).2⟩
theorem CrsO.snoc {w : World} {o : Option Nat} {L : List Crd} {c : Crd} (h : CrsO w o L) (hc : RdS (fun b => o ≠ some b) w c.s.a (sb c.s.xs)) (hn : CrNice c) : CrsO w o (L ++ [c]) := fun x hx => by
  rcases List.mem_append.1 hx with hx | hx
  · exact h x hx
  · rw [List.mem_singleton] at hx; subst hx; exact ⟨hc, hn⟩
theorem crs_own {w : World} {o : Option Nat} {L : List Crd} {base e c : Nat} {A : Option Addr} (h : CrsO w o L) (ho : w.ownsRow base e 5 (.slice A L.length c) L.length (L.flatMap Crd.cs)) (hl : L.length ≤ 1048576) : Crs w ⟨A, c, L⟩ := by
  refine ⟨by simp only; omega, Rd.of_own ho, fun x hx => ?_⟩
  obtain ⟨h1, g1, g2, g3, g4, g5, g6⟩ := h x hx
  exact ⟨by omega, by omega, by omega, by omega, h1.rd, fun y hy => by have := g5 y hy; omega, g6⟩
theorem mkB_size (l : List UInt8) : (mkB l).size = l.length := by
  rw [← size_list]; simp [mkB]
theorem piece_le {z : UInt8} {l : List UInt8} (k : Nat) : ((splitB z l).getD k []).length ≤ l.length := by
  rw [List.getD_eq_getElem?_getD]
  cases h : (splitB z l)[k]? with
  | none => simp
  | some p => exact split_mem z l p (List.mem_of_getElem? h)
theorem split_le (z : UInt8) (l : List UInt8) : (splitB z l).length ≤ l.length + 1 := by
  rw [split_len]; have := List.count_le_length (a := z) (l := l); omega
theorem insL_le (d : List UInt8) : (insL d).length ≤ d.length + 1 ∧ ∀ x ∈ insL d, x.size ≤ d.length := by
  unfold insL
  split
  · simp
  · refine ⟨by rw [List.length_map]; exact split_le 44 d, fun x hx => ?_⟩
    obtain ⟨p, hp, rfl⟩ := List.mem_map.1 hx
    rw [mkB_size]; exact split_mem 44 d p hp
theorem line_nice {l : List UInt8} {c : Crp} (h : lineF l = some c) (hl : l.length ≤ 1000000) (s : Slc ByteArray) (hs : s.xs = c.l) : CrNice ⟨c.r, c.p, c.n, s, c.m⟩ := by
  unfold lineF at h
  split at h
  · cases h
  · cases hn : numF ((splitB 124 l).getD 4 []) with
    | none => rw [hn] at h; cases h
    | some m =>
      rw [hn] at h
      injection h with h
      subst h
      have hm := numF_lt hn
      have h3 := insL_le ((splitB 124 l).getD 3 [])
      have a0 := piece_le (z := 124) (l := l) 0
      have a1 := piece_le (z := 124) (l := l) 1
      have a2 := piece_le (z := 124) (l := l) 2
      have a3 := piece_le (z := 124) (l := l) 3
      refine ⟨by simp only [mkB_size]; omega, by simp only [mkB_size]; omega, by simp only [mkB_size]; omega, by simp only [hs]; omega, fun x hx => ?_, ?_⟩
      · simp only [hs] at hx; have := h3.2 x hx; omega
      · simp only; unfold inI64; omega
end Go.Proofs.YtckakleiaccffaaDoor
