/- The contract of match.Text, whole. -/
import Derived.Test.YtlmgdofhmgpljaaDoorMatchC
namespace Go.Proofs.YtlmgdofhmgpljaaDoor
open Go.RowKit Go.Dw

/-- Text: the bytes and the fault -/
def txr (xs : List Int) : List UInt8 × Int := if chk xs = 0 then (txt xs, 0) else ([], chk xs)
theorem chk_zero {xs : List Int} (h : chk xs = 0) : ¬ 500 < xs.length ∧ xs.all okM = true := by
  unfold chk at h
  split at h
  · simp at h
  · rename_i h1
    split at h
    · rename_i h2; exact ⟨h1, h2⟩
    · simp at h
theorem chk_vals (xs : List Int) : chk xs = 0 ∨ chk xs = 1 ∨ chk xs = 2 := by
  unfold chk; split
  · simp
  · split <;> simp
theorem chks_one (s : Sl) : chks [s] = chk s.xs := by
  unfold chks; split
  · rename_i h; rw [h]; rfl
  · rfl

set_option maxHeartbeats 400000 in
theorem text_bad (A : Option Addr) (c : Nat) (xs : List Int) (w : World) (h : Rd w A (ic xs)) (hn : xs.length ≤ 9223372036854775807) (hb : chk xs ≠ 0) :
    Calls Tryd.prog 11 #[.slice A xs.length c] w fun e w' => e = .returned (.tuple #[.string ⟨#[]⟩, .int .i64 (chk xs)]) ∧ Below w.heap.size w w' := by
  have hb0 : Below w.heap.size w (w.alloc (.cells #[.slice A xs.length c] 25)) := (Below.refl _ _).alloc (Nat.le_refl _) _
  go_enter Tryd.func11, Tryd.ntmps11
  go_wp2_with fail
  refine (checkMarks_any (some ⟨w.heap.size, 0, none⟩) 1 [⟨A, c, xs⟩] _ ?_ (by simp) ?_).mono ?_
  · refine .inr ⟨_, _, rfl, by simp, ?_⟩
    intro j u hu
    cases j with
    | zero => simp at hu; subst hu; simp [Sl.v]
    | succ j => simp at hu
  · intro s hs
    simp at hs
    subst hs
    exact ⟨h.below hb0, hn⟩
  rintro e w' ⟨rfl, rfl⟩
  rw [chks_one]
  have Hb0 := Lib.hid hb0
  have hne : (chk xs != 0) = true := by simpa using hb
  clear hb0 hb
  go_wp2_with fail
  go_ret2
  exact ⟨rfl, Hb0.out⟩
theorem text_any (A : Option Addr) (c : Nat) (xs : List Int) (w : World) (h : Rd w A (ic xs)) (hn : xs.length ≤ 9223372036854775807) :
    Calls Tryd.prog 11 #[.slice A xs.length c] w fun e w' => e = .returned (.tuple #[.string ⟨(txr xs).1.toArray⟩, .int .i64 (txr xs).2]) ∧ Below w.heap.size w w' := by
  by_cases h0 : chk xs = 0
  · have h1 := chk_zero h0
    have : txr xs = (txt xs, 0) := by simp [txr, h0]
    rw [this]
    exact text_ok A c xs w h hn h1.1 h1.2
  · have : txr xs = ([], chk xs) := by simp [txr, h0]
    rw [this]
    exact text_bad A c xs w h hn h0
end Go.Proofs.YtlmgdofhmgpljaaDoor
