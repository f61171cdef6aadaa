/- What Split says: a new row. -/
import Derived.Test.YtckakleiaccffaaDoorSplit
namespace Go.Proofs.YtckakleiaccffaaDoor
open Go.RowKit Go.Dw
def SResN (w : World) (ls : List (List UInt8)) (e : Ending) (w' : World) : Prop := ∃ b c, w.heap.size ≤ b ∧ e = .returned (.slice (some ⟨b, 0, none⟩) ls.length c) ∧ Rd w' (some ⟨b, 0, none⟩) (sc ls) ∧ Below w.heap.size w w'
end Go.Proofs.YtckakleiaccffaaDoor
