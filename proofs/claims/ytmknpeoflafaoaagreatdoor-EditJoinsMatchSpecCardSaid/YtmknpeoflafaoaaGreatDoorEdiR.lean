/- An edit, or a fault, as values. -/
import Derived.Test.YtmknpeoflafaoaaGreatDoorJmP
import Derived.Test.YtmknpeoflafaoaaGreatDoorEdtZ
import Derived.Test.YtmknpeoflafaoaaGreatDoorNumB
namespace Go.Proofs.YtmknpeoflafaoaaGreatDoor
open Go.RowKit Go.Dw

/-- an edit, and a fault -/
def EdiR (r : Edt × Int) (w : World) (e : Ending) (w' : World) : Prop := Gq w w' ∧ ∃ x : EdtM, e = .returned (.tuple #[x.v, .int .i64 r.2]) ∧ x.x = r.1 ∧ EdtOk w' x
theorem edtOk_nil (w : World) : EdtOk w ⟨0, 0, ⟨none, 0, []⟩⟩ := ⟨⟨by decide, by decide⟩, ⟨by decide, by decide⟩, by simp, .inl rfl, fun c hc => by simp at hc⟩
theorem ediR_none {w w' : World} {r : Edt × Int} {f : Int} (hr : r = (e0, f)) (hb : Gq w w') : EdiR r w (.returned (.tuple #[.agg #[.int .i64 0, .int .i64 0, .slice none 0 0], .int .i64 f])) w' := by
  subst hr; exact ⟨hb, ⟨0, 0, ⟨none, 0, []⟩⟩, rfl, rfl, edtOk_nil w'⟩
/-- the value of an edit, or of none -/
def ckV (f : Int) (v : Value) : Value := if f = 0 then v else .agg #[.int .i64 0, .int .i64 0, .slice none 0 0]
theorem ckV_ok (v : Value) : ckV 0 v = v := rfl
theorem ckV_bad {f : Int} (h : f ≠ 0) (v : Value) : ckV f v = .agg #[.int .i64 0, .int .i64 0, .slice none 0 0] := if_neg h
end Go.Proofs.YtmknpeoflafaoaaGreatDoor
