/- Contracts of the builder's WriteString and String. -/
import Derived.Test.YtpiiickhfcjnmaaGreatDoorLmbK
import Derived.Test.YtpiiickhfcjnmaaGreatDoorNumB
import Derived.Test.YtpiiickhfcjnmaaGreatDoorPlnA
import Derived.Test.YtpiiickhfcjnmaaGreatDoorShBld
import Derived.Shelf.Strings.BuilderK
namespace Go.Proofs.YtpiiickhfcjnmaaGreatDoor
open Go.RowKit Go.Dw

set_option maxRecDepth 100000 in
theorem ext169 : Builder.Extra Tryz.prog Tryz.lays169_ren where
  sizeBuilder := by kernel_rfl
  liesBuilder := by kernel_rfl
  t5 := Tryz.underlying5
  a5 := Tryz.isAgg5
  z5 := Tryz.sizeOf5
  v5 := Tryz.zeroValue5
  infoByte := by kernel_rfl
  cellsByte := by kernel_rfl
  sizeByte := by kernel_rfl
  neB5 := by decide
/-- a string's bytes; bytes as a string -/
def bl (s : ByteArray) : List UInt8 := s.data.toList
def mkB (l : List UInt8) : ByteArray := ⟨l.toArray⟩
theorem mkB_bl (s : ByteArray) : mkB (bl s) = s := by cases s; simp [mkB, bl]
theorem bl_mk (l : List UInt8) : bl (mkB l) = l := by simp [bl, mkB]
theorem bl_len (s : ByteArray) : (bl s).length = s.size := by unfold bl; rw [Array.length_toList]; rfl
theorem mkB_size (l : List UInt8) : (mkB l).size = l.length := by show l.toArray.size = _; simp
theorem mkB_app (l m : List UInt8) : mkB (l ++ m) = mkB l ++ mkB m := by
  apply ba_ext
  simp [mkB, ByteArray.data_append]
def IsB (B b : Nat) (l : List UInt8) (w : World) : Prop := Lib.IsBuilderF 128 5 B b (Lib.byteCells l) w
theorem isB_fresh (w : World) : IsB w.heap.size w.heap.size [] (w.alloc (.cells #[.pointer none, .slice none 0 0] 128)) := Lib.IsBuilderF.of (Lib.fresh_isBuilder _ _ w)
theorem builderAtF_below {T e : TypeId} {B b : Nat} {p : Value} {bs : List Value} {w w' : World} (h : Lib.BuilderAtF T e B b p bs w) (hb : Below w.heap.size w w') : Lib.BuilderAtF T e B b p bs w' := by
  have hlt := h.lt
  obtain ⟨h1, v, h2, h3, h4⟩ := h
  refine ⟨h1, v, ?_, h3.kept (row := none) ⟨hb.os, hb.tape, hb.output, hb.size, fun j hj _ => hb.block j hj⟩ (by cases hv : v.ownBlock <;> simp), h4⟩
  rw [hb.block b hlt]; exact h2
theorem IsB.below {B b : Nat} {l : List UInt8} {w w' : World} (h : IsB B b l w) (hb : Below w.heap.size w w') : IsB B b l w' :=
  h.elim (fun x => .inl (builderAtF_below x hb)) (fun x => .inr (builderAtF_below x hb))
theorem IsB.lt {B b : Nat} {l : List UInt8} {w : World} (h : IsB B b l w) : b < w.heap.size := h.elim (fun x => x.lt) (fun x => x.lt)
/-- blocks that a builder's writer leaves alone -/
def Oth (b : Nat) (w w' : World) : Prop := Lib.OthersKept 5 (some b) w w'
theorem Oth.blk {b g : Nat} {t : TypeId} {cs : List Value} {w w' : World} (h : Oth b w w') (hk : Blk w g t cs) (hg : g ≠ b) (ht : t ≠ 5) : Blk w' g t cs :=
  h g _ hk (by simpa using hg) (fun c fz e => by injection e with _ e2 _; exact ht e2)
theorem bwrite_any (B b : Nat) (l : List UInt8) (s : ByteArray) (w : World) (h : IsB B b l w) (hl : l.length + s.size ≤ 140737488355328) (hB : B ≤ w.heap.size) :
    Calls Tryz.prog 67 #[.pointer (some ⟨b, 0, none⟩), .string s] w fun e w' => e = .returned (.tuple #[.int .i64 s.size, .nilIface]) ∧ IsB B b (l ++ bl s) w' ∧ Below B w w' ∧ Oth b w w' :=
  (Any.Builder_WriteString_k { Tryz.lays105 with } ext105 B b (Lib.byteCells l) s w h (by rw [Lib.byteCells_length]; exact hl) hB).mono fun _ _ ⟨h1, h2, h3, h4⟩ => ⟨h1, .inr (by
    have : Lib.byteCells (l ++ bl s) = Lib.byteCells l ++ Lib.strCells s := by simp [Lib.byteCells, Lib.strCells, bl]
    rw [this]; exact h2), h3, h4⟩
theorem bstring_any (B b : Nat) (l : List UInt8) (w : World) (h : IsB B b l w) (hB : B ≤ w.heap.size) :
    Calls Tryz.prog 69 #[.pointer (some ⟨b, 0, none⟩)] w fun e w' => e = .returned (.string (mkB l)) ∧ Below B w w' :=
  (Any.Builder_String_any_k Tryz.lays169 ext169 B b l w h hB).mono fun _ _ ⟨h1, _, h3, _⟩ => ⟨h1, h3⟩
theorem itoaM_any (m : Int) (w : World) (hm : inI64 m) (hp : HasPow w) :
    Calls Tryz.prog 68 #[.int .i64 m] w fun e w' => e = .returned (.string (mkB (Lib.itoa m))) ∧ Below w.heap.size w w' := itoaA_any m w hm hp
end Go.Proofs.YtpiiickhfcjnmaaGreatDoor
