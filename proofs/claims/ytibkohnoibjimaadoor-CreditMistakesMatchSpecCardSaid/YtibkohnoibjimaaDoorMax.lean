/- The variable that internal/bytealg reads, at a row's first world. -/
import Derived.Test.YtibkohnoibjimaaDoorShMax
import Derived.Test.YtibkohnoibjimaaDoorLin
namespace Go.Proofs.YtibkohnoibjimaaDoor
open Go.RowKit Go.Dw
theorem hasMax_of (w : World) (h : w.ShapedOpen Tryd.prog) : HasMax w := Tryd.laysM144.s1_3 w h
end Go.Proofs.YtibkohnoibjimaaDoor
