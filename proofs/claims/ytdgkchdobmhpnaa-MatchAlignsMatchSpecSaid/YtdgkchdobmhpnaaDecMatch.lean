/- How the arguments of the laws of chapter 4 read. -/
import Derived.Test.YtdgkchdobmhpnaaDec
import Derived.Test.YtdgkchdobmhpnaaProg
namespace Go.Proofs.Ytdgkchdobmhpnaa
open Go.RowKit Go.Dw

theorem decInts {H : Type} {enc : TypeId × Value → H} {w : World} :
    Dec enc Try.prog w 22 (fun l : Slc Int => [l.v]) (fun l => l.xs.length ≤ maxLen ∧ Rd w l.a (l.xs.flatMap fun n => [Value.int .i64 n]) ∧ ∀ n ∈ l.xs, inI64 n) :=
  Dec.slice 1 Try.underlying22 (by kernel_rfl) (fun _ => rfl) (by omega) (Dec.int Try.underlying3)
theorem decLinks {H : Type} {enc : TypeId × Value → H} {w : World} :
    Dec enc Try.prog w 31 (fun l : Slc (Int × Int) => [l.v]) (fun l => l.xs.length ≤ maxLen ∧ Rd w l.a (pc l.xs) ∧ ∀ p ∈ l.xs, inI64 p.1 ∧ inI64 p.2) :=
  Dec.slice 2 Try.underlying31 (by kernel_rfl) (fun _ => rfl) (by omega)
    ((Dec.struct (tot := 2) (fl := [(3, 0, 1), (3, 1, 1)]) Try.underlying52 (by kernel_rfl) (by kernel_rfl) (DecS.cons (Dec.int Try.underlying3) (DecS.cons (tot := 0) (Dec.int Try.underlying3) DecS.nil))).map
      (fun p => ((p.1, p.2.1) : Int × Int)) (fun _ => rfl) (fun _ h => ⟨h.1, h.2.1⟩))
end Go.Proofs.Ytdgkchdobmhpnaa
