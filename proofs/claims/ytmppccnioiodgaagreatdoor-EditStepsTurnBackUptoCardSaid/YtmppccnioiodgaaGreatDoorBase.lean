/- Words for memory that hold over any program: a slice that reads as a list of cells; lists of integers. -/
import Derived.WalkKit
import Derived.WalkLawsBesides
import Derived.WalkSpells
import Derived.Below
import Derived.Laws.OwnMore
import Derived.Deep.AppendLies
import Derived.Deep.Draws
import Derived.Deep.QuietTactic
import Derived.BigQuiet
import Derived.Lib.Hide
import Derived.IntWalk
import Derived.OwnWalk
import Derived.Laws.IdiomStrings
import Derived.Lib.BufferRead
namespace Go.Dw
open Go.RowKit

/-- the slice over the address A reads as the cells vs -/
def Rd (w : World) (A : Option Addr) (vs : List Value) : Prop :=
  vs = [] ∨ ∃ b off, A = some ⟨b, off, none⟩ ∧ b < w.heap.size ∧ ∀ j u, vs[j]? = some u → w.cell? ⟨b, off + j, none⟩ = some u

theorem Rd.nil (w : World) (A : Option Addr) : Rd w A [] := .inl rfl
theorem Rd.keep {w w' : World} {A : Option Addr} {vs : List Value} (h : Rd w A vs) (hs : w.heap.size ≤ w'.heap.size)
    (hk : ∀ p : Addr, p.block < w.heap.size → w'.cell? p = w.cell? p) : Rd w' A vs := by
  rcases h with h | ⟨b, off, e, hb, hc⟩
  · exact .inl h
  · exact .inr ⟨b, off, e, by omega, fun j u hu => (hk _ hb).trans (hc j u hu)⟩
theorem Rd.below {w w' : World} {A : Option Addr} {vs : List Value} (h : Rd w A vs) (hb : Below w.heap.size w w') : Rd w' A vs :=
  h.keep hb.size fun _ hp => hb.cell hp
theorem Rd.at_ {w : World} {A : Option Addr} {vs : List Value} (h : Rd w A vs) (hn : 0 < vs.length) :
    ∃ b off, A = some ⟨b, off, none⟩ ∧ b < w.heap.size ∧ ∀ j u, vs[j]? = some u → w.cell? ⟨b, off + j, none⟩ = some u := by
  rcases h with rfl | h
  · simp at hn
  · exact h

/-- a list of machine integers as cells -/
def ic (xs : List Int) : List Value := xs.map (Value.int .i64)
theorem ic_length (xs : List Int) : (ic xs).length = xs.length := by simp [ic]
theorem ic_append (a b : List Int) : ic (a ++ b) = ic a ++ ic b := by simp [ic]
theorem ic_at (xs : List Int) (k : Nat) (h : k < xs.length) : (ic xs)[k]? = some (.int .i64 xs[k]) := by simp [ic, h]

theorem ret_int {k : IntKind} {a b : Int} (h : a = b) : Ending.returned (.int k a) = .returned (.int k b) := by rw [h]
theorem ret_bool {a b : Bool} (h : a = b) : Ending.returned (.bool a) = .returned (.bool b) := by rw [h]
theorem below_app {B e size n : Nat} {w wr w1 : World} {o : Obj} {v : Value} {xs : List Value} (hbel : Below B w wr) (hsz : B ≤ wr.heap.size)
    (hown : wr.ownsRow B e size v n xs) (hg : ((wr.alloc o).drew).grownBy w1 v.ownBlock) : Below B w w1 :=
  ((hbel.alloc hsz o).drew).grown hg (by simp; omega) (fun k hk => (hown.lt k hk).1)
theorem below_app' {B e size n : Nat} {w wr w1 : World} {o : Obj} {v : Value} {xs : List Value} (hbel : Below B w wr) (hsz : B ≤ wr.heap.size)
    (hown : wr.ownsRow B e size v n xs) (hg : (wr.alloc o).grownBy w1 v.ownBlock) : Below B w w1 :=
  (hbel.alloc hsz o).grown hg (by simp; omega) (fun k hk => (hown.lt k hk).1)
theorem owns_eq {w : World} {base e size n n' : Nat} {v : Value} {xs xs' : List Value} (h : w.ownsRow base e size v n xs) (hn : n = n') (hx : xs = xs') : w.ownsRow base e size v n' xs' := by
  subst hn hx; exact h
/-- bytes as cells -/
def bc (bs : List UInt8) : List Value := bs.map fun b => Value.int .u8 b.toNat
theorem bc_append (a b : List UInt8) : bc (a ++ b) = bc a ++ bc b := by simp [bc]
/-- 'string(b)' of a row of the call's own -/
theorem run_string_own {P : Program} (w : World) (src dst e base : TypeId) (v : Value) (l : List UInt8) (hs : P.underlying src = some (.slice e)) (he : P.underlying e = some (.int .u8)) (hd : P.underlying dst = some .string)
    (hown : w.ownsRow base e 1 v l.length (bc l)) : (convert src dst v).run P w = .ok (.string ⟨l.toArray⟩) w := by
  rcases hown.2 with ⟨rfl, h0⟩ | ⟨g, cap, cur, rfl, _⟩
  · have : l = [] := List.eq_nil_of_length_eq_zero h0
    subst this
    exact Lib.run_convert_nil_bytes w src dst e 0 hs he hd
  · refine run_convert_bytes_back w src dst e _ cap l hs he hd fun j hj => ?_
    have := hown.cells (g := g) rfl j (.int .u8 l[j].toNat) (by simp [bc, hj])
    exact this
/-- a row of the call's own reads as what it owns -/
theorem Rd.of_own {w : World} {base e size n c : Nat} {A : Option Addr} {xs : List Value} (h : w.ownsRow base e size (.slice A n c) n xs) : Rd w A xs := by
  rcases h.2 with ⟨h0, h1⟩ | ⟨g, cap, cur, hv, hb, hg, _⟩
  · exact .inl (List.eq_nil_of_length_eq_zero (by rw [h.1, h1]; simp))
  · injection hv with hv1 hv2 hv3
    subst hv1
    refine .inr ⟨g, 0, rfl, (Array.getElem?_eq_some_iff.1 hg).1, fun j u hu => ?_⟩
    have := h.cells (g := g) rfl j u hu
    have hadd : (⟨g, 0, none⟩ : Addr).add j = ⟨g, 0 + j, none⟩ := by unfold Addr.add; split <;> simp_all
    rw [← hadd]; exact this
theorem slice_of_own {w : World} {base e size n : Nat} {v : Value} {xs : List Value} (h : w.ownsRow base e size v n xs) : ∃ A c, v = .slice A n c := by
  rcases h.2 with ⟨rfl, rfl⟩ | ⟨g, cap, cur, rfl, _⟩
  · exact ⟨_, _, rfl⟩
  · exact ⟨_, _, rfl⟩
/-- what a row's proof is told of a slice of integers that came in -/
def IsRow (k : IntKind) (w : World) (a : Option Addr) (len cap : Nat) (zs : List Int) : Prop :=
  (a = none ∧ len = 0 ∧ cap = 0 ∧ zs = []) ∨
  ∃ x, a = some x ∧ len ≤ cap ∧ cap ≤ maxLen ∧ zs.length = cap ∧ (∀ i, i < zs.length → w.cell? (x.add i) = some (.int k (zs.getD i 0))) ∧ ∀ n ∈ zs, (Lit.int k n).wf = true
theorem Rd.of_row {w : World} {a : Option Addr} {len cap : Nat} {zs : List Int} (h : IsRow .i64 w a len cap zs) :
    ∃ xs : List Int, xs.length = len ∧ len ≤ maxLen ∧ Rd w a (ic xs) ∧ ∀ n ∈ xs, (Lit.int .i64 n).wf = true := by
  rcases h with ⟨rfl, rfl, rfl, rfl⟩ | ⟨x, rfl, hl, hm, hz, hc, hw⟩
  · exact ⟨[], rfl, Nat.zero_le _, .inl rfl, by simp⟩
  · refine ⟨zs.take len, by rw [List.length_take]; omega, by omega, ?_, fun n hn => hw n (List.mem_of_mem_take hn)⟩
    by_cases h0 : len = 0
    · subst h0; exact .inl (by simp [ic])
    · obtain ⟨b, off, spot⟩ := x
      have hc0 := hc 0 (by omega)
      have hspot : spot = none := by simpa [Addr.add] using World.cell?_spot hc0
      subst hspot
      have hb : b < w.heap.size := by simpa [Addr.add] using World.block_lt_of_cell? w _ hc0
      refine .inr ⟨b, off, rfl, hb, fun j u hu => ?_⟩
      have hj : j < len := by
        have := (List.getElem?_eq_some_iff.1 hu).1
        simp [ic] at this; omega
      have h1 := hc j (by omega)
      have hadd : (⟨b, off, none⟩ : Addr).add j = ⟨b, off + j, none⟩ := by unfold Addr.add; split <;> simp_all
      rw [hadd] at h1
      rw [h1, ← hu]
      have hjz : j < zs.length := by omega
      simp [ic, hj, hjz]
/-- the first number that is not 0 among f 0, f 1, .. -/
def firstNZ (f : Nat → Int) : Nat → Int
  | 0 => 0
  | n + 1 => if firstNZ f n = 0 then f n else firstNZ f n
theorem firstNZ_ok {f : Nat → Int} : ∀ {n : Nat}, (∀ j, j < n → f j = 0) → firstNZ f n = 0
  | 0, _ => rfl
  | n + 1, h => by rw [firstNZ, firstNZ_ok (fun j hj => h j (by omega)), if_pos rfl]; exact h n (by omega)
theorem firstNZ_bad {f : Nat → Int} {k : Nat} (h : ∀ j, j < k → f j = 0) (hb : f k ≠ 0) : ∀ {n : Nat}, k < n → firstNZ f n = f k
  | 0, hk => by omega
  | n + 1, hk => by
    rw [firstNZ]
    by_cases he : k = n
    · subst he; rw [firstNZ_ok h, if_pos rfl]
    · rw [firstNZ_bad h hb (by omega), if_neg hb]
theorem step_all {f : Nat → Int} {k : Nat} (h : ∀ j, j < k → f j = 0) (hk : f k = 0) : ∀ j, j < k + 1 → f j = 0 := by
  intro j hj
  by_cases he : j = k
  · subst he; exact hk
  · exact h j (by omega)
/-- pairs of machine integers as cells -/
def pc (ps : List (Int × Int)) : List Value := ps.flatMap fun p => [.int .i64 p.1, .int .i64 p.2]
theorem pc_length (ps : List (Int × Int)) : (pc ps).length = ps.length * 2 := by
  induction ps with
  | nil => rfl
  | cons p t ih =>
    have : pc (p :: t) = [.int .i64 p.1, .int .i64 p.2] ++ pc t := by simp [pc]
    rw [this, List.length_append, ih]; simp; omega
theorem pc_append (a b : List (Int × Int)) : pc (a ++ b) = pc a ++ pc b := by simp [pc]
theorem pc_at (ps : List (Int × Int)) (k : Nat) (h : k < ps.length) : (pc ps)[k * 2]? = some (.int .i64 ps[k].1) ∧ (pc ps)[k * 2 + 1]? = some (.int .i64 ps[k].2) := by
  induction ps generalizing k with
  | nil => simp at h
  | cons p t ih =>
    have e : pc (p :: t) = .int .i64 p.1 :: .int .i64 p.2 :: pc t := by simp [pc]
    rw [e]
    cases k with
    | zero => simp
    | succ k =>
      have := ih k (by simpa using h)
      rw [show (k + 1) * 2 = k * 2 + 1 + 1 by omega]
      simpa using this
/-- a slice: where it lies, its capacity, its elements -/
structure Slc (α : Type) where
  a : Option Addr
  c : Nat
  xs : List α
def Slc.v {α : Type} (s : Slc α) : Value := .slice s.a s.xs.length s.c

def inI64 (n : Int) : Prop := -9223372036854775808 ≤ n ∧ n ≤ 9223372036854775807
theorem below_drewN {B : Nat} {a w : World} (h : Below B a w) (n : Nat) : Below B a (w.drewN n) := ⟨h.os, h.tape, h.output, h.size, h.block⟩
theorem own_belowL {B : Nat} {e : TypeId} {k : Nat} {v : Value} {n : Nat} {xs : List Value} {w w' : World} (h : w.ownsRow B e k v n xs) (hb : Below w.heap.size w w') : w'.ownsRow B e k v n xs :=
  h.kept (row := none) ⟨hb.os, hb.tape, hb.output, hb.size, fun j hj _ => hb.block j hj⟩ (by cases hv : v.ownBlock <;> simp)
theorem own_drewN {B e size n : Nat} {w : World} {v : Value} {xs : List Value} (h : w.ownsRow B e size v n xs) (m : Nat) : (w.drewN m).ownsRow B e size v n xs := h
theorem below_appQ {e size n : Nat} {w wr w1 : World} {o : Obj} {v : Value} {xs : List Value} {m : Nat} (hbel : Below w.heap.size w wr)
    (hown : wr.ownsRow w.heap.size e size v n xs) (hg : ((wr.alloc o).drewN m).grownBy w1 v.ownBlock) : Below w.heap.size w w1 :=
  (below_drewN (hbel.alloc hbel.size o) m).grown hg (by have := hbel.size; show w.heap.size ≤ (wr.alloc o).heap.size; simp; omega) (fun k hk => (hown.lt k hk).1)
theorem flat_snoc {α : Type} (f : α → List Value) (l : List α) (x : α) : (l ++ [x]).flatMap f = l.flatMap f ++ f x := by simp
theorem flat_take {α : Type} (f : α → List Value) (s : Nat) (hs : ∀ a, (f a).length = s) : ∀ (l : List α) (t : Nat), (l.flatMap f).take (t * s) = (l.take t).flatMap f ∧ (l.flatMap f).drop (t * s) = (l.drop t).flatMap f
  | [], t => by simp
  | x :: l, 0 => by simp
  | x :: l, t + 1 => by
    obtain ⟨h1, h2⟩ := flat_take f s hs l t
    have hx := hs x
    rw [List.flatMap_cons, Nat.succ_mul, List.take_succ_cons, List.drop_succ_cons, List.flatMap_cons, ← h1, ← h2, List.take_append, List.drop_append, hx]
    rw [List.take_of_length_le (by omega), List.drop_eq_nil_of_le (show (f x).length ≤ t * s + s by omega), show t * s + s - s = t * s by omega]
    simp
theorem while_at {α : Type} (p : α → Bool) : ∀ (l : List α) (t : Nat), (∀ j (hj : j < l.length), j < t → p l[j] = true) → t ≤ l.length → (∀ h : t < l.length, p l[t] = false) → l.takeWhile p = l.take t ∧ l.dropWhile p = l.drop t
  | [], t, _, _, _ => by simp
  | x :: l, 0, _, _, h => by
    have := h (by simp)
    simp at this
    simp [this]
  | x :: l, t + 1, h1, h2, h3 => by
    have hx : p x = true := h1 0 (by simp) (by omega)
    obtain ⟨e1, e2⟩ := while_at p l t (fun j hj hjt => by have := h1 (j + 1) (by simpa using hj) (by omega); simpa using this) (by simpa using h2) (fun h => by have := h3 (by simpa using h); simpa using this)
    simp [hx, e1, e2]
end Go.Dw
