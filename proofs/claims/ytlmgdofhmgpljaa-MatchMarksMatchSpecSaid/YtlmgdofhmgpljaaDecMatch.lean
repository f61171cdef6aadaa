/- How the arguments of the laws of chapter 4 read. -/
import Derived.Test.YtlmgdofhmgpljaaDec
import Derived.Test.YtlmgdofhmgpljaaProg
namespace Go.Proofs.Ytlmgdofhmgpljaa
open Go.RowKit Go.Dw

theorem decInts {H : Type} {enc : TypeId × Value → H} {w : World} :
    Dec enc Try.prog w 25 (fun l : Slc Int => [l.v]) (fun l => l.xs.length ≤ maxLen ∧ Rd w l.a (l.xs.flatMap fun n => [Value.int .i64 n]) ∧ ∀ n ∈ l.xs, inI64 n) :=
  Dec.slice 1 Try.underlying25 (by kernel_rfl) (fun _ => rfl) (by omega) (Dec.int Try.underlying3)
theorem decIntsC {H : Type} {enc : TypeId × Value → H} {w : World} :
    Dec enc Try.prog w 25 (fun l : Slc Int => [l.v]) (fun l => (l.xs.length ≤ maxLen ∧ Rd w l.a (l.xs.flatMap fun n => [Value.int .i64 n]) ∧ ∀ n ∈ l.xs, inI64 n) ∧ l.xs.length ≤ l.c ∧ l.c ≤ maxLen) :=
  Dec.sliceC 1 Try.underlying25 (by kernel_rfl) (fun _ => rfl) (by omega) (Dec.int Try.underlying3)
end Go.Proofs.Ytlmgdofhmgpljaa
