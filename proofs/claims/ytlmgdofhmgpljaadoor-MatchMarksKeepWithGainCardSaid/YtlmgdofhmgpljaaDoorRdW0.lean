/- A world that lies over another one. -/
import Derived.Test.YtlmgdofhmgpljaaDoorTab
import Derived.Deep.RegionHeld3
namespace Go.Dw
open Go.RowKit
def Gq (w W : World) : Prop := Below w.heap.size w W
theorem Gq.alloc {a b : World} (h : Gq a b) (o : Obj) : Gq a (b.alloc o) := Below.alloc h (Below.size h) o
theorem Gq.set {a b : World} (h : Gq a b) {p : Addr} (hp : a.heap.size ≤ p.block) (v : Value) : Gq a (b.setCell p v) := Below.setCell h hp v
theorem Gq.drew {a b : World} (h : Gq a b) : Gq a b.drew := Below.drew h
theorem Gq.refl (a : World) : Gq a a := Below.refl _ _
theorem Gq.trans {a b c : World} (h : Gq a b) (g : Gq b c) : Gq a c := Below.trans h (Below.mono g (Below.size h))
theorem Gq.rd {a b : World} (h : Gq a b) {A : Option Addr} {vs : List Value} (g : Rd a A vs) : Rd b A vs := g.below h
end Go.Dw
