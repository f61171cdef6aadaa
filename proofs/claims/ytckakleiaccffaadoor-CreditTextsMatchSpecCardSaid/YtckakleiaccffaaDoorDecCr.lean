/- How credits that came in read. -/
import Derived.Test.YtckakleiaccffaaDoorCrP
namespace Go.Proofs.YtckakleiaccffaaDoor
open Go.RowKit Go.Dw

theorem sb_flat (l : List ByteArray) : l.flatMap (fun s => [Value.string s]) = sb l := by
  induction l with
  | nil => rfl
  | cons x t ih => rw [List.flatMap_cons, ih]; rfl
theorem decStrs {H : Type} {enc : TypeId × Value → H} {w : World} :
    Dec enc Tryd.prog w 36 (fun l : Slc ByteArray => [l.v]) (fun l => l.xs.length ≤ maxLen ∧ Rd w l.a (l.xs.flatMap fun s => [Value.string s]) ∧ ∀ s ∈ l.xs, s.size ≤ maxLen) :=
  Dec.slice 1 Tryd.underlying36 (by kernel_rfl) (fun _ => rfl) (by omega) (Dec.string Tryd.underlying9)
theorem decCredits {H : Type} {enc : TypeId × Value → H} {w : World} :
    Dec enc Tryd.prog w 22 (fun l : Slc Crd => [l.v]) (fun l => l.xs.length ≤ maxLen ∧ Rd w l.a (l.xs.flatMap Crd.cs) ∧ ∀ c ∈ l.xs, CrOk w c) :=
  Dec.slice 5 Tryd.underlying22 (by kernel_rfl) (fun _ => rfl) (by omega)
    ((Dec.struct (tot := 5) (fl := [(9, 0, 1), (9, 1, 1), (9, 2, 1), (36, 3, 1), (3, 4, 1)]) Tryd.underlying38 (by kernel_rfl) (by kernel_rfl)
      (DecS.cons (Dec.string Tryd.underlying9) (DecS.cons (Dec.string Tryd.underlying9) (DecS.cons (Dec.string Tryd.underlying9) (DecS.cons decStrs (DecS.cons (tot := 0) (Dec.int Tryd.underlying3) DecS.nil)))))).map
      (fun p => (⟨p.1, p.2.1, p.2.2.1, p.2.2.2.1, p.2.2.2.2.1⟩ : Crd)) (fun _ => rfl) (fun p h => by
        obtain ⟨h1, h2, h3, ⟨h4, h5, h6⟩, h7, _⟩ := h
        rw [sb_flat] at h5
        exact ⟨by simpa [maxLen] using h1, by simpa [maxLen] using h2, by simpa [maxLen] using h3, by simpa [maxLen] using h4, h5, fun s hs => by simpa [maxLen] using h6 s hs, h7⟩))
theorem crs_of {w : World} {l : Slc Crd} (h : l.xs.length ≤ maxLen ∧ Rd w l.a (l.xs.flatMap Crd.cs) ∧ ∀ c ∈ l.xs, CrOk w c) : Crs w l := ⟨by simpa [maxLen] using h.1, h.2.1, h.2.2⟩
end Go.Proofs.YtckakleiaccffaaDoor
