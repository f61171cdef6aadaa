/- How the arguments of the laws of chapter 4 read. -/
import Derived.Test.YtgjmjdpddionmaaDoorDec
import Derived.Test.YtgjmjdpddionmaaDoorProg
namespace Go.Proofs.YtgjmjdpddionmaaDoor
open Go.RowKit Go.Dw

theorem decInts {H : Type} {enc : TypeId × Value → H} {w : World} :
    Dec enc Tryd.prog w 23 (fun l : Slc Int => [l.v]) (fun l => l.xs.length ≤ maxLen ∧ Rd w l.a (l.xs.flatMap fun n => [Value.int .i64 n]) ∧ ∀ n ∈ l.xs, inI64 n) :=
  Dec.slice 1 Tryd.underlying23 (by kernel_rfl) (fun _ => rfl) (by omega) (Dec.int Tryd.underlying3)
theorem decIntsC {H : Type} {enc : TypeId × Value → H} {w : World} :
    Dec enc Tryd.prog w 23 (fun l : Slc Int => [l.v]) (fun l => (l.xs.length ≤ maxLen ∧ Rd w l.a (l.xs.flatMap fun n => [Value.int .i64 n]) ∧ ∀ n ∈ l.xs, inI64 n) ∧ l.xs.length ≤ l.c ∧ l.c ≤ maxLen) :=
  Dec.sliceC 1 Tryd.underlying23 (by kernel_rfl) (fun _ => rfl) (by omega) (Dec.int Tryd.underlying3)
end Go.Proofs.YtgjmjdpddionmaaDoor
