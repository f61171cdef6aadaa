/- The variable that internal/bytealg reads, at a row's first world. -/
import Derived.Test.YtnlnaglaipjlfaaGreatDoorShMax
import Derived.Test.YtnlnaglaipjlfaaGreatDoorLin
namespace Go.Proofs.YtnlnaglaipjlfaaGreatDoor
open Go.RowKit Go.Dw
theorem hasMax_of (w : World) (h : w.ShapedOpen Tryz.prog) : HasMax w := Tryz.laysM144.s1_3 w h
end Go.Proofs.YtnlnaglaipjlfaaGreatDoor
