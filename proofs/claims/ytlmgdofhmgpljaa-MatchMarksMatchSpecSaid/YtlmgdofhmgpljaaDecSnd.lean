/- How a sound that came in reads. -/
import Derived.Test.YtlmgdofhmgpljaaDecMatch
import Derived.Test.YtlmgdofhmgpljaaSndA
namespace Go.Proofs.Ytlmgdofhmgpljaa
open Go.RowKit Go.Dw

theorem decSound {H : Type} {enc : TypeId × Value → H} {w : World} :
    Dec enc Try.prog w 24 Snd.cells (fun x => x.Ok w) :=
  (Dec.struct (tot := 2) (fl := [(3, 0, 1), (22, 1, 1)]) Try.underlying24 (by kernel_rfl) (by kernel_rfl)
    (DecS.cons (Dec.int Try.underlying3) (DecS.cons (tot := 0) (Dec.slice 1 Try.underlying22 (by kernel_rfl) (fun _ => rfl) (by omega) decIntsC) DecS.nil))).map
    (fun p => (⟨p.1, p.2.1⟩ : Snd)) (fun _ => rfl) (fun p h => by
      obtain ⟨_, ⟨h2, h3, h4⟩, _⟩ := h
      refine ⟨by simpa [maxLen] using h2, ?_, fun s hs => ?_⟩
      · show Rd w p.2.1.a (p.2.1.xs.map Slc.v)
        have : p.2.1.xs.flatMap (fun l => [l.v]) = p.2.1.xs.map Slc.v := by
          generalize p.2.1.xs = l
          induction l with
          | nil => rfl
          | cons a t ih => rw [List.flatMap_cons, ih]; rfl
        rw [← this]; exact h3
      · obtain ⟨⟨q1, q2, _⟩, q3, _⟩ := h4 s hs
        rw [ic_flat] at q2
        exact ⟨by simpa [maxLen] using q1, q2, q3⟩)
end Go.Proofs.Ytlmgdofhmgpljaa
