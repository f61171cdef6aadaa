/- Plain: each clip of a right edit is right. -/
import Derived.Test.YtmppccnioiodgaaGreatDoorPlnA
namespace Go.Dw
open Go.RowKit

theorem ediF_cli {nm : ByteArray → Bool} {mx : Int} {e : Edt} (h : ediF nm mx e = 0) : ∀ c ∈ e.cs, cliF nm e.tracks c = 0 := by
  unfold ediF at h
  split at h
  · omega
  · split at h
    · omega
    · intro c hc
      obtain ⟨k, hk, rfl⟩ := List.mem_iff_getElem.1 hc
      have h2 := firstNZ_zer h k hk
      unfold ediK at h2
      rw [List.getD_eq_getElem?_getD, List.getElem?_eq_getElem hk, Option.getD_some] at h2
      split at h2
      · rename_i h3; exact absurd h2 h3
      · rename_i h3; simpa using h3
theorem cliF_env {nm : ByteArray → Bool} {tk : Int} {c : Cli} (h : cliF nm tk c = 0) : envF c.ln c.e = 0 := by
  unfold cliF at h
  split at h
  · omega
  · split at h
    · omega
    · exact h
end Go.Dw
