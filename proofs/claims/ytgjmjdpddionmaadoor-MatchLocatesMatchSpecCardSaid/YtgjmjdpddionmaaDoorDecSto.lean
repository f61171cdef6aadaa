/- How a store that came in reads. -/
import Derived.Test.YtgjmjdpddionmaaDoorDecMatch
import Derived.Test.YtgjmjdpddionmaaDoorStoA
namespace Go.Proofs.YtgjmjdpddionmaaDoor
open Go.RowKit Go.Dw

theorem decStore {H : Type} {enc : TypeId × Value → H} {w : World} :
    Dec enc Tryd.prog w 22 (fun l : Slc Mk => [l.v]) (fun l => l.xs.length ≤ maxLen ∧ Rd w l.a (l.xs.flatMap Mk.cs) ∧ ∀ m ∈ l.xs, m.n.size ≤ maxLen ∧ m.s.xs.length ≤ maxLen ∧ Rd w m.s.a (ic m.s.xs)) :=
  Dec.slice 2 Tryd.underlying22 (by kernel_rfl) (fun _ => rfl) (by omega)
    ((Dec.struct (tot := 2) (fl := [(9, 0, 1), (23, 1, 1)]) Tryd.underlying41 (by kernel_rfl) (by kernel_rfl) (DecS.cons (Dec.string Tryd.underlying9) (DecS.cons (tot := 0) decInts DecS.nil))).map
      (fun p => (⟨p.1, p.2.1⟩ : Mk)) (fun _ => rfl) (fun p h => by
        obtain ⟨h1, ⟨h2, h3, _⟩, _⟩ := h
        rw [ic_flat] at h3
        exact ⟨h1, h2, h3⟩))
theorem sto_of {w : World} {l : Slc Mk} (h : l.xs.length ≤ maxLen ∧ Rd w l.a (l.xs.flatMap Mk.cs) ∧ ∀ m ∈ l.xs, m.n.size ≤ maxLen ∧ m.s.xs.length ≤ maxLen ∧ Rd w m.s.a (ic m.s.xs)) : Sto w l :=
  ⟨by simpa [maxLen] using h.1, h.2.1, fun m hm => ⟨by simpa [maxLen] using (h.2.2 m hm).1, by simpa [maxLen] using (h.2.2 m hm).2.1, (h.2.2 m hm).2.2⟩⟩
end Go.Proofs.YtgjmjdpddionmaaDoor
