/- The variable that internal/bytealg reads, at a row's first world. -/
import Derived.Test.YteklfjkiaknfjaaDoorShMax
import Derived.Test.YteklfjkiaknfjaaDoorLin
namespace Go.Proofs.YteklfjkiaknfjaaDoor
open Go.RowKit Go.Dw
theorem hasMax_of (w : World) (h : w.ShapedOpen Tryd.prog) : HasMax w := Tryd.laysM144.s1_3 w h
end Go.Proofs.YteklfjkiaknfjaaDoor
