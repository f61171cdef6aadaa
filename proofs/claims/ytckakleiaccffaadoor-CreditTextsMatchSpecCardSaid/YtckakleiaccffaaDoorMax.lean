/- The variable that internal/bytealg reads, at a row's first world. -/
import Derived.Test.YtckakleiaccffaaDoorShMax
import Derived.Test.YtckakleiaccffaaDoorLin
namespace Go.Proofs.YtckakleiaccffaaDoor
open Go.RowKit Go.Dw
theorem hasMax_of (w : World) (h : w.ShapedOpen Tryd.prog) : HasMax w := Tryd.laysM144.s1_3 w h
end Go.Proofs.YtckakleiaccffaaDoor
