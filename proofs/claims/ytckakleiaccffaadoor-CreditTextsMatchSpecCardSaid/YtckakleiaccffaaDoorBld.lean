/- Contracts of strings.Join, of the builder's methods and of Itoa. -/
import Derived.Test.YtckakleiaccffaaDoorTxP
import Derived.Test.YtckakleiaccffaaDoorShBld
import Derived.Test.YtckakleiaccffaaDoorShItoa
import Derived.Lib.AppendIntMem
import Derived.Lib.SmallJoins
import Derived.Shelf.Strings.BuilderK
namespace Go.Proofs.YtckakleiaccffaaDoor
open Go.RowKit Go.Dw

set_option maxRecDepth 100000 in
theorem ext156 : Builder.Extra Tryd.prog Tryd.lays156_ren where
  sizeBuilder := by kernel_rfl
  liesBuilder := by kernel_rfl
  t5 := Tryd.underlying5
  a5 := Tryd.isAgg5
  z5 := Tryd.sizeOf5
  v5 := Tryd.zeroValue5
  infoByte := by kernel_rfl
  cellsByte := by kernel_rfl
  sizeByte := by kernel_rfl
  neB5 := by decide
set_option maxRecDepth 100000 in
theorem ext169 : Builder.Extra Tryd.prog Tryd.lays169_ren where
  sizeBuilder := by kernel_rfl
  liesBuilder := by kernel_rfl
  t5 := Tryd.underlying5
  a5 := Tryd.isAgg5
  z5 := Tryd.sizeOf5
  v5 := Tryd.zeroValue5
  infoByte := by kernel_rfl
  cellsByte := by kernel_rfl
  sizeByte := by kernel_rfl
  neB5 := by decide
theorem join_any (A : Option Addr) (c : Nat) (xs : List ByteArray) (sep : ByteArray) (w : World) (h : Rd w A (sb xs)) (hc : xs.length ≤ c) (hn : xs.length ≤ 1048576) (hl : (Lib.join (xs.map bl) (bl sep)).length ≤ 1048576) :
    Calls Tryd.prog 11 #[.slice A xs.length c, .string sep] w fun e w' => e = .returned (.string (mkB (Lib.join (xs.map bl) (bl sep)))) ∧ Below w.heap.size w w' := by
  cases xs with
  | nil => exact (Any.strings_Join_none Tryd.lays156 ext156 A c sep w).mono fun e w' ⟨h1, h2⟩ => ⟨h1, by rw [h2]; exact Below.refl _ _⟩
  | cons x r =>
    obtain ⟨b, off, rfl, hb, hcs⟩ := h.at_ (by rw [sb_len]; simp)
    exact Any.strings_Join Tryd.lays156 ext156 b off c (x :: r) sep w (fun j y hj => hcs j _ (by simp only [sb, List.getElem?_map, hj, Option.map_some])) hb (by omega) hc (by
      show (Lib.join ((x :: r).map bl) (bl sep)).length ≤ _
      omega)
def IsB (B b : Nat) (l : List UInt8) (w : World) : Prop := Lib.IsBuilderF 35 5 B b (Lib.byteCells l) w
theorem isB_fresh (w : World) : IsB w.heap.size w.heap.size [] (w.alloc (.cells #[.pointer none, .slice none 0 0] 35)) := Lib.IsBuilderF.of (Lib.fresh_isBuilder _ _ w)
theorem builderAtF_below {T e : TypeId} {B b : Nat} {p : Value} {bs : List Value} {w w' : World} (h : Lib.BuilderAtF T e B b p bs w) (hb : Below w.heap.size w w') : Lib.BuilderAtF T e B b p bs w' := by
  have hlt := h.lt
  obtain ⟨h1, v, h2, h3, h4⟩ := h
  refine ⟨h1, v, ?_, h3.kept (row := none) ⟨hb.os, hb.tape, hb.output, hb.size, fun j hj _ => hb.block j hj⟩ (by cases hv : v.ownBlock <;> simp), h4⟩
  rw [hb.block b hlt]; exact h2
theorem IsB.below {B b : Nat} {l : List UInt8} {w w' : World} (h : IsB B b l w) (hb : Below w.heap.size w w') : IsB B b l w' :=
  h.elim (fun x => .inl (builderAtF_below x hb)) (fun x => .inr (builderAtF_below x hb))
theorem IsB.lt {B b : Nat} {l : List UInt8} {w : World} (h : IsB B b l w) : b < w.heap.size := h.elim (fun x => x.lt) (fun x => x.lt)
/-- blocks that a builder's writer leaves alone -/
def Oth (b : Nat) (w w' : World) : Prop := Lib.OthersKept 5 (some b) w w'
theorem Oth.blk {b g : Nat} {t : TypeId} {cs : List Value} {w w' : World} (h : Oth b w w') (hk : Blk w g t cs) (hg : g ≠ b) (ht : t ≠ 5) : Blk w' g t cs :=
  h g _ hk (by simpa using hg) (fun c fz e => by injection e with _ e2 _; exact ht e2)
theorem bwrite_any (B b : Nat) (l : List UInt8) (s : ByteArray) (w : World) (h : IsB B b l w) (hl : l.length + s.size ≤ 140737488355328) (hB : B ≤ w.heap.size) :
    Calls Tryd.prog 10 #[.pointer (some ⟨b, 0, none⟩), .string s] w fun e w' => e = .returned (.tuple #[.int .i64 s.size, .nilIface]) ∧ IsB B b (l ++ bl s) w' ∧ Below B w w' ∧ Oth b w w' :=
  (Any.Builder_WriteString_k { Tryd.lays156 with } ext156 B b (Lib.byteCells l) s w h (by rw [Lib.byteCells_length]; exact hl) hB).mono fun _ _ ⟨h1, h2, h3, h4⟩ => ⟨h1, .inr (by
    have : Lib.byteCells (l ++ bl s) = Lib.byteCells l ++ Lib.strCells s := by simp [Lib.byteCells, Lib.strCells, bl]
    rw [this]; exact h2), h3, h4⟩
theorem bstring_any (B b : Nat) (l : List UInt8) (w : World) (h : IsB B b l w) (hB : B ≤ w.heap.size) :
    Calls Tryd.prog 13 #[.pointer (some ⟨b, 0, none⟩)] w fun e w' => e = .returned (.string (mkB l)) ∧ Below B w w' :=
  (Any.Builder_String_any_k Tryd.lays169 ext169 B b l w h hB).mono fun _ _ ⟨h1, _, h3, _⟩ => ⟨h1, h3⟩
/-- the table that Itoa reads -/
def HasPow (w : World) : Prop := Lib.TabIs Tryd.prog w "internal/strconv.uint64pow10" .u64 Lib.pow10Tab
theorem HasPow.below {w w' : World} (h : HasPow w) (hb : Below w.heap.size w w') : HasPow w' := Lib.tabBelow_of_tabIs h w' hb
theorem itoa_any (m : Int) (w : World) (hm : inI64 m) (hp : HasPow w) :
    Calls Tryd.prog 12 #[.int .i64 m] w fun e w' => e = .returned (.string (mkB (Lib.itoa m))) ∧ Below w.heap.size w w' :=
  (Any.strconv_Itoa Tryd.laysM171 m hm.1 hm.2 w hp).mono fun _ w' ⟨h1, k, os, h2⟩ => ⟨h1, by rw [h2]; exact Lib.below_grow _ w (Nat.le_refl _) k os⟩
end Go.Proofs.YtckakleiaccffaaDoor
