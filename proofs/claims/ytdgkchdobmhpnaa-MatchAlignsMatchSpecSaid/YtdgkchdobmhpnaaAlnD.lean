/- The contracts of checkAlign and of (*aligner).next. -/
import Derived.Test.YtdgkchdobmhpnaaAlnC
import Derived.Test.YtdgkchdobmhpnaaMatchB
namespace Go.Proofs.Ytdgkchdobmhpnaa
open Go.RowKit Go.Dw
attribute [local go_sem ↓] Go.wp_at_zero Go.wp_at_succ

/-- the fault of two lists that are aligned, and of a gap -/
def chA (a b : List Int) (g : Int) : Int :=
  if chk a ≠ 0 then chk a else if chk b ≠ 0 then chk b else if 300 < a.length ∨ 300 < b.length then 2 else if g < 0 ∨ 100 < g then 1 else 0
section
variable {a b : List Int} {g : Int}
theorem chkA_zero (h : chk a = 0) : a.length ≤ 500 ∧ ∀ i, ∃ n : Nat, a.getD i 0 = (n : Int) ∧ n < 256 := by
  unfold chk at h
  split at h
  · omega
  · split at h
    · rename_i h1 h2
      refine ⟨by omega, fun i => ?_⟩
      by_cases hi : i < a.length
      · have := okM_t (List.all_eq_true.1 h2 _ (List.getElem_mem hi))
        refine ⟨a[i].toNat, ?_, by omega⟩
        rw [List.getD_eq_getElem?_getD, List.getElem?_eq_getElem hi]
        show a[i] = _
        omega
      · exact ⟨0, by rw [List.getD_eq_getElem?_getD, List.getElem?_eq_none (by omega)]; rfl, by omega⟩
    · omega
theorem chA_zero (h : chA a b g = 0) : chk a = 0 ∧ chk b = 0 ∧ a.length ≤ 300 ∧ b.length ≤ 300 ∧ 0 ≤ g ∧ g ≤ 100 := by
  unfold chA at h
  split at h
  · rename_i h1; exact absurd h h1
  · rename_i h1
    split at h
    · rename_i h2; exact absurd h h2
    · rename_i h2
      split at h
      · omega
      · split at h
        · omega
        · exact ⟨Decidable.not_not.1 h1, Decidable.not_not.1 h2, by omega, by omega, by omega, by omega⟩
end
set_option maxHeartbeats 1000000 in
theorem checkAlign_any (Aa Ab : Option Addr) (ca cb : Nat) (a b : List Int) (g : Int) (w : World) (ha : Rd w Aa (ic a)) (hb : Rd w Ab (ic b)) (hna : a.length ≤ 9223372036854775807) (hnb : b.length ≤ 9223372036854775807) :
    Calls Try.prog 38 #[.slice Aa a.length ca, .slice Ab b.length cb, .int .i64 g] w fun e w' => e = .returned (.int .i64 (chA a b g)) ∧ Below w.heap.size w w' := by
  have hbel : Below w.heap.size w (w.alloc (.cells #[.slice Aa a.length ca, .slice Ab b.length cb] 22)) := (Below.refl _ _).alloc (Nat.le_refl _) _
  have hcm := checkMarks_any (some ⟨w.heap.size, 0, none⟩) 2 [⟨Aa, ca, a⟩, ⟨Ab, cb, b⟩] (w.alloc (.cells #[.slice Aa a.length ca, .slice Ab b.length cb] 22))
    ((Blk.new w 22 [.slice Aa a.length ca, .slice Ab b.length cb]).rds (S := fun _ => True) trivial).rd (by simp) (by
      intro s hs
      simp at hs
      rcases hs with rfl | rfl
      · exact ⟨ha.below hbel, hna⟩
      · exact ⟨hb.below hbel, hnb⟩)
  have hch : chks [⟨Aa, ca, a⟩, ⟨Ab, cb, b⟩] = if chk a ≠ 0 then chk a else chk b := by
    unfold chks chks chks
    by_cases h1 : chk a = 0
    · by_cases h2 : chk b = 0
      · simp [h1, h2]
      · simp [h1]; intro h; exact absurd h h2
    · simp [h1]
  have HB := Lib.hid hbel
  have HCM := Lib.hid hcm
  have HCH := Lib.hid hch
  clear hbel hcm hch ha hb
  by_cases hz : chks [⟨Aa, ca, a⟩, ⟨Ab, cb, b⟩] = 0
  case neg =>
    have HR : Hid (chA a b g = chks [⟨Aa, ca, a⟩, ⟨Ab, cb, b⟩]) := by
      show _ = _
      rw [HCH.out] at hz ⊢
      unfold chA
      by_cases h1 : chk a = 0
      · rw [if_neg (fun h => h h1)] at hz ⊢
        rw [if_pos hz, if_neg (fun h => h h1)]
      · rw [if_pos h1, if_pos h1]
    have hzb : (chks [⟨Aa, ca, a⟩, ⟨Ab, cb, b⟩] != 0) = true := by simpa using hz
    clear hz
    go_enter Try.func38, Try.ntmps38
    go_wp2_with fail
    refine HCM.out.mono ?_
    rintro e w' ⟨rfl, rfl⟩
    go_wp2_with fail
    go_ret
    exact ⟨ret_int HR.out.symm, HB.out⟩
  have hz1 : chk a = 0 ∧ chk b = 0 := by
    rw [HCH.out] at hz
    by_cases h1 : chk a = 0
    · rw [if_neg (fun h => h h1)] at hz; exact ⟨h1, hz⟩
    · rw [if_pos h1] at hz; exact absurd hz h1
  have HR : Hid (chA a b g = if 300 < a.length ∨ 300 < b.length then 2 else if g < 0 ∨ 100 < g then 1 else 0) := by
    show _ = _
    unfold chA
    rw [if_neg (fun h => h hz1.1), if_neg (fun h => h hz1.2)]
  rw [hz] at HCM
  clear hz1 hz HCH
  go_enter Try.func38, Try.ntmps38
  go_wp2_with fail
  refine HCM.out.mono ?_
  rintro e w' ⟨rfl, rfl⟩
  by_cases h1 : 300 < a.length
  · go_wp2_with fail
    go_ret
    exact ⟨ret_int (by rw [HR.out, if_pos (.inl h1)]), HB.out⟩
  by_cases h2 : 300 < b.length
  · go_wp2_with fail
    go_ret
    exact ⟨ret_int (by rw [HR.out, if_pos (.inr h2)]), HB.out⟩
  by_cases h3 : g < 0
  · go_wp2_with fail
    go_ret
    exact ⟨ret_int (by rw [HR.out, if_neg (by omega), if_pos (.inl h3)]), HB.out⟩
  by_cases h4 : 100 < g
  · go_wp2_with fail
    go_ret
    exact ⟨ret_int (by rw [HR.out, if_neg (by omega), if_pos (.inr h4)]), HB.out⟩
  · go_wp2_with fail
    go_ret
    exact ⟨ret_int (by rw [HR.out, if_neg (by omega), if_neg (by omega)]), HB.out⟩
end Go.Proofs.Ytdgkchdobmhpnaa
