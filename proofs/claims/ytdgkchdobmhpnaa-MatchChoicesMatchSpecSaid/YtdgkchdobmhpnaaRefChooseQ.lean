/- Plain: how the reference's Choose goes on from take to take. -/
import Derived.Test.YtdgkchdobmhpnaaRefChooseP
namespace Go.Proofs.Ytdgkchdobmhpnaa
open Go.RowKit Go.Dw

theorem fb_none {rows : List (List Int)} {M : Nat} (hb : ∀ u, NONE ≤ en rows u M) : ∀ T, NONE ≤ (fb rows M T).2
  | 0 => Int.le_refl _
  | t + 1 => by
    unfold fb
    split
    · exact hb t
    · exact fb_none hb t
def rbB (rows : List (List Int)) (M t : Nat) : Int := if (fb rows M t).2 = NONE then -1 else ((fb rows M t).1 : Int)
def rbN (rows : List (List Int)) (M t : Nat) : Int := if (fb rows M t).2 = NONE then 0 else (fb rows M t).2
theorem fb_ge_none (rows : List (List Int)) (M T : Nat) (h : ∀ u, u < T → NONE ≤ en rows u M) : NONE ≤ (fb rows M T).2 := by
  rcases fb_some rows M T with h1 | ⟨h1, h2⟩
  · rw [h1]; exact Int.le_refl _
  · rw [← h2]; exact h _ h1
/-- nothing there: nothing turns -/
theorem rb_skip {rows : List (List Int)} {M t : Nat} (hg : NONE ≤ (fb rows M t).2) (he : en rows t M = NONE) : fb rows M (t + 1) = fb rows M t := by
  rw [fb, he, if_neg (by omega)]
theorem rb_first {rows : List (List Int)} {M t : Nat} (he : NONE < en rows t M) (hf : (fb rows M t).2 = NONE) : fb rows M (t + 1) = (t, en rows t M) := by
  rw [fb, if_pos (by omega)]
theorem rb_more {rows : List (List Int)} {M t : Nat} (h : (fb rows M t).2 < en rows t M) : fb rows M (t + 1) = (t, en rows t M) := by
  rw [fb, if_pos h]
theorem rb_less {rows : List (List Int)} {M t : Nat} (h : ¬ (fb rows M t).2 < en rows t M) : fb rows M (t + 1) = fb rows M t := by
  rw [fb, if_neg h]
theorem rbB_n {rows : List (List Int)} {M t : Nat} (h : (fb rows M t).2 = NONE) : rbB rows M t = -1 := by unfold rbB; rw [if_pos h]
theorem rbN_n {rows : List (List Int)} {M t : Nat} (h : (fb rows M t).2 = NONE) : rbN rows M t = 0 := by unfold rbN; rw [if_pos h]
theorem rbB_s {rows : List (List Int)} {M t : Nat} (h : (fb rows M t).2 ≠ NONE) : rbB rows M t = (fb rows M t).1 := by unfold rbB; rw [if_neg h]
theorem rbN_s {rows : List (List Int)} {M t : Nat} (h : (fb rows M t).2 ≠ NONE) : rbN rows M t = (fb rows M t).2 := by unfold rbN; rw [if_neg h]

/-- the cuts left and what is still to be had, ahead of section j -/
def cutJ (T M : Nat) (cost : Int) (pts : List (List Int)) : Nat → Nat
  | 0 => M
  | j + 1 => (stp T M cost pts j).2
def needJ (T M : Nat) (cost : Int) (pts : List (List Int)) : Nat → Int
  | 0 => 0
  | j + 1 => en (tb T M cost pts j) (stp T M cost pts j).1 (stp T M cost pts j).2 - (pts.getD j []).getD (stp T M cost pts j).1 0
/-- the best of those below t: none, or the least -/
def Fnd (rows : List (List Int)) (cost : Int) (tp c : Nat) (need : Int) (t : Nat) (b : Int) : Prop :=
  (b = -1 ∧ ∀ v, v < t → thn rows cost tp c v ≠ need) ∨ ∃ u : Nat, b = (u : Int) ∧ u < t ∧ thn rows cost tp c u = need ∧ ∀ v, v < u → thn rows cost tp c v ≠ need
theorem Fnd.start (rows : List (List Int)) (cost : Int) (tp c : Nat) (need : Int) : Fnd rows cost tp c need 0 (-1) := .inl ⟨rfl, fun v hv => absurd hv (Nat.not_lt_zero _)⟩
theorem Fnd.skip {rows : List (List Int)} {cost : Int} {tp c : Nat} {need : Int} {t : Nat} {b : Int} (h : Fnd rows cost tp c need t b) (hn : thn rows cost tp c t ≠ need) : Fnd rows cost tp c need (t + 1) b := by
  rcases h with ⟨h1, h2⟩ | ⟨u, h1, h2, h3⟩
  · refine .inl ⟨h1, fun v hv => ?_⟩
    by_cases he : v = t
    · rw [he]; exact hn
    · exact h2 v (by omega)
  · exact .inr ⟨u, h1, by omega, h3⟩
theorem Fnd.had {rows : List (List Int)} {cost : Int} {tp c : Nat} {need : Int} {t : Nat} {b : Int} (h : Fnd rows cost tp c need t b) (hn : 0 ≤ b) : Fnd rows cost tp c need (t + 1) b := by
  rcases h with ⟨h1, h2⟩ | ⟨u, h1, h2, h3⟩
  · omega
  · exact .inr ⟨u, h1, by omega, h3⟩
theorem Fnd.hit {rows : List (List Int)} {cost : Int} {tp c : Nat} {need : Int} {t : Nat} {b : Int} (h : Fnd rows cost tp c need t b) (hb : b < 0) (hn : thn rows cost tp c t = need) : Fnd rows cost tp c need (t + 1) (t : Int) := by
  rcases h with ⟨h1, h2⟩ | ⟨u, h1, h2, h3⟩
  · exact .inr ⟨t, rfl, by omega, hn, h2⟩
  · omega
theorem Fnd.fin {rows : List (List Int)} {cost : Int} {tp c : Nat} {need : Int} {T : Nat} {b : Int} (h : Fnd rows cost tp c need T b) (hx : ∃ u, u < T ∧ thn rows cost tp c u = need) : ∃ u : Nat, b = (u : Int) ∧ u < T ∧ nu rows cost tp c T need = u := by
  rcases h with ⟨h1, h2⟩ | ⟨u, h1, h2, h3, h4⟩
  · obtain ⟨u, hu, he⟩ := hx
    exact absurd he (h2 u hu)
  · exact ⟨u, h1, h2, nu_eq h2 h3 h4⟩
theorem thn_same {rows : List (List Int)} {cost : Int} {t c : Nat} : thn rows cost t c t = en rows t c := by unfold thn; rw [if_pos rfl]
theorem thn_zero {rows : List (List Int)} {cost : Int} {t u : Nat} (h : u ≠ t) : thn rows cost t 0 u = NONE := by unfold thn; rw [if_neg h, if_pos rfl]
theorem thn_none {rows : List (List Int)} {cost : Int} {t c u : Nat} (h : u ≠ t) (hc : 0 < c) (he : en rows u (c - 1) = NONE) : thn rows cost t c u = NONE := by unfold thn; rw [if_neg h, if_neg (by omega), if_pos he]
theorem thn_some {rows : List (List Int)} {cost : Int} {t c u : Nat} (h : u ≠ t) (hc : 0 < c) (he : en rows u (c - 1) ≠ NONE) : thn rows cost t c u = en rows u (c - 1) - cost := by unfold thn; rw [if_neg h, if_neg (by omega), if_neg he]
theorem vl_nil {t : Int} {rows : List (List Int)} {cost most : Int} (hz : csc t rows cost most = 0) (hn : rows.length = 0) : vl t rows cost most [] = (0, 0) := by
  obtain ⟨_, _, _, hco1, hco2, hmo1, hmo2⟩ := csc_zero hz
  rw [vl_end hz (by simp [hn]) (fun j hj => absurd hj (Nat.not_lt_zero _))]
  rw [if_neg (by simp [cutsTo]; omega)]
  simp [sumTo, cutsTo]
end Go.Proofs.Ytdgkchdobmhpnaa
