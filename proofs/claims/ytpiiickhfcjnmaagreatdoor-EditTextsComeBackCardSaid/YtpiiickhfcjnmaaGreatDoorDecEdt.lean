/- How edits that came in read. -/
import Derived.Test.YtpiiickhfcjnmaaGreatDoorEdtM
import Derived.Test.YtpiiickhfcjnmaaGreatDoorProg
namespace Go.Proofs.YtpiiickhfcjnmaaGreatDoor
open Go.RowKit Go.Dw

theorem decRatio {H : Type} {enc : TypeId × Value → H} {w : World} :
    Dec enc Tryz.prog w 38 (fun p : ByteArray × ByteArray => [.string p.1, .string p.2]) (fun p => p.1.size ≤ maxLen ∧ p.2.size ≤ maxLen) :=
  (Dec.struct (tot := 2) (fl := [(9, 0, 1), (9, 1, 1)]) Tryz.underlying38 (by kernel_rfl) (by kernel_rfl)
    (DecS.cons (Dec.string Tryz.underlying9) (DecS.cons (tot := 0) (Dec.string Tryz.underlying9) DecS.nil))).map
    (fun p => ((p.1, p.2.1) : ByteArray × ByteArray)) (fun _ => rfl) (fun p h => ⟨h.1, h.2.1⟩)
theorem decPoint {H : Type} {enc : TypeId × Value → H} {w : World} :
    Dec enc Tryz.prog w 70 Pnt.cs PntOk :=
  (Dec.struct (tot := 3) (fl := [(3, 0, 1), (38, 1, 2)]) Tryz.underlying70 (by kernel_rfl) (by kernel_rfl)
    (DecS.cons (Dec.int Tryz.underlying3) (DecS.cons (tot := 0) decRatio DecS.nil))).map
    (fun p => (⟨p.1, p.2.1.1, p.2.1.2⟩ : Pnt)) (fun _ => rfl) (fun p h => ⟨h.1, by simpa [maxLen] using h.2.1.1, by simpa [maxLen] using h.2.1.2⟩)
theorem decClip {H : Type} {enc : TypeId × Value → H} {w : World} :
    Dec enc Tryz.prog w 36 CliM.cs (CliOk w) :=
  (Dec.struct (tot := 7) (fl := [(9, 0, 1), (3, 1, 1), (3, 2, 1), (3, 3, 1), (3, 4, 1), (3, 5, 1), (34, 6, 1)]) Tryz.underlying36 (by kernel_rfl) (by kernel_rfl)
    (DecS.cons (Dec.string Tryz.underlying9) (DecS.cons (Dec.int Tryz.underlying3) (DecS.cons (Dec.int Tryz.underlying3) (DecS.cons (Dec.int Tryz.underlying3) (DecS.cons (Dec.int Tryz.underlying3) (DecS.cons (Dec.int Tryz.underlying3)
      (DecS.cons (tot := 0) (Dec.slice 3 Tryz.underlying34 (by kernel_rfl) (fun _ => rfl) (by omega) decPoint) DecS.nil)))))))).map
    (fun p => (⟨p.1, p.2.1, p.2.2.1, p.2.2.2.1, p.2.2.2.2.1, p.2.2.2.2.2.1, p.2.2.2.2.2.2.1⟩ : CliM)) (fun _ => rfl) (fun p h => by
      obtain ⟨h1, h2, h3, h4, h5, h6, ⟨h7, h8, h9⟩, _⟩ := h
      exact ⟨by simpa [maxLen] using h1, h2, h3, h4, h5, h6, by simpa [maxLen] using h7, h8, h9⟩)
theorem decEdit {H : Type} {enc : TypeId × Value → H} {w : World} :
    Dec enc Tryz.prog w 24 EdtM.cells (EdtOk w) :=
  (Dec.struct (tot := 3) (fl := [(3, 0, 1), (3, 1, 1), (22, 2, 1)]) Tryz.underlying24 (by kernel_rfl) (by kernel_rfl)
    (DecS.cons (Dec.int Tryz.underlying3) (DecS.cons (Dec.int Tryz.underlying3)
      (DecS.cons (tot := 0) (Dec.slice 7 Tryz.underlying22 (by kernel_rfl) (fun _ => rfl) (by omega) decClip) DecS.nil)))).map
    (fun p => (⟨p.1, p.2.1, p.2.2.1⟩ : EdtM)) (fun _ => rfl) (fun p h => by
      obtain ⟨h1, h2, ⟨h3, h4, h5⟩, _⟩ := h
      exact ⟨h1, h2, by simpa [maxLen] using h3, h4, h5⟩)
end Go.Proofs.YtpiiickhfcjnmaaGreatDoor
