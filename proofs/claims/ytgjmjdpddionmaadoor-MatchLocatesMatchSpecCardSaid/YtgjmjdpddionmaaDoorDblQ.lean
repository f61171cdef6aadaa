/- Plain: marks that are found in others are found the other way round. -/
import Derived.Test.YtgjmjdpddionmaaDoorHitP
import Derived.Test.YtgjmjdpddionmaaDoorLocP
namespace Go.Proofs.YtgjmjdpddionmaaDoor
open Go.RowKit Go.Dw

theorem bd_comm (x y : Int) : bd x y = bd y x := by unfold bd; rw [Nat.xor_comm]
theorem apN_flip (la lb : Nat) (d : Int) : apN lb la (-d) = apN la lb d := by unfold apN; omega
theorem apB_flip (a b : List Int) (d : Int) : ∀ n, apB b a (-d) n = apB a b d n
  | 0 => rfl
  | n + 1 => by
    rw [apB, apB, apB_flip a b d n, bd_comm]
    have h : ((apS (-d) + n : Nat) + -d).toNat = apS d + n ∧ ((apS d + n : Nat) + d).toNat = apS (-d) + n := by unfold apS; omega
    rw [h.1, h.2]
section
variable {nm : ByteArray} {xs ys : List Int} {least : Int}
theorem htD_pos (h1 : 1 ≤ least) {d : Int} (h : least ≤ (apN xs.length ys.length d : Int)) : 0 < (htD nm xs ys d).c := by
  show 0 < 8 * ((apN xs.length ys.length d : Nat) : Int)
  omega
/-- the best is one of those compared, and none is before it -/
theorem hGo_min (h1 : 1 ≤ least) : ∀ j, ((hGo nm xs ys least j).1 = true → ∃ i, i < j ∧ least ≤ (apN xs.length ys.length (1 - (ys.length : Int) + i) : Int) ∧ (hGo nm xs ys least j).2 = htD nm xs ys (1 - (ys.length : Int) + i)) ∧
    ∀ i, i < j → least ≤ (apN xs.length ys.length (1 - (ys.length : Int) + i) : Int) → (hGo nm xs ys least j).1 = true ∧ ¬ betP (htD nm xs ys (1 - (ys.length : Int) + i)) (hGo nm xs ys least j).2
  | 0 => ⟨fun h => by simp [hGo] at h, fun i hi => by omega⟩
  | j + 1 => by
    obtain ⟨ih1, ih2⟩ := hGo_min h1 j
    by_cases hv : (apN xs.length ys.length (1 - (ys.length : Int) + j) : Int) < least
    · rw [hGo_skip hv]
      refine ⟨fun h => ?_, fun i hi hl => ?_⟩
      · obtain ⟨i, a, b, c⟩ := ih1 h; exact ⟨i, by omega, b, c⟩
      · by_cases he : i = j
        · subst he; omega
        · exact ih2 i (by omega) hl
    · have hvl : least ≤ (apN xs.length ys.length (1 - (ys.length : Int) + j) : Int) := by omega
      have hp := htD_pos (nm := nm) h1 hvl
      cases hf : (hGo nm xs ys least j).1 with
      | false =>
        rw [hGo_new hv hf]
        refine ⟨fun _ => ⟨j, by omega, hvl, rfl⟩, fun i hi hl => ⟨rfl, ?_⟩⟩
        by_cases he : i = j
        · subst he; simp only [betP]; omega
        · have := (ih2 i (by omega) hl).1
          rw [hf] at this; cases this
      | true =>
        obtain ⟨i0, a0, b0, c0⟩ := ih1 hf
        have hp0 : 0 < (hGo nm xs ys least j).2.c := by rw [c0]; exact htD_pos h1 b0
        by_cases hb : bet (htD nm xs ys (1 - (ys.length : Int) + j)) (hGo nm xs ys least j).2 < 0
        · rw [hGo_bet hv hb]
          refine ⟨fun _ => ⟨j, by omega, hvl, rfl⟩, fun i hi hl => ⟨rfl, ?_⟩⟩
          by_cases he : i = j
          · subst he; simp only [betP]; omega
          · intro hh
            exact (ih2 i (by omega) hl).2 (betP_trans (htD_pos h1 hl) hp hp0 hh (betP_L.1 ((bet_neg _ _).1 hb)).1)
        · rw [hGo_old hv hf hb]
          refine ⟨fun _ => ⟨i0, by omega, b0, c0⟩, fun i hi hl => ?_⟩
          by_cases he : i = j
          · subst he; exact ⟨hf, fun hh => hb ((bet_neg _ _).2 hh)⟩
          · exact ih2 i (by omega) hl
end
theorem same_bc {x y : Ht} (hx : 0 < x.c) (h1 : ¬ betP x y) (h2 : ¬ betP y x) : x.b = y.b ∧ x.c = y.c := by
  unfold betP at h1 h2
  have hc : x.c = y.c := by omega
  have hb : x.b * y.c = y.b * x.c := by omega
  rw [hc] at hb hx
  exact ⟨Int.eq_of_mul_eq_mul_right (by omega) hb, hc⟩
theorem hOk_flip (n1 n2 : ByteArray) (xs ys : List Int) {least : Int} (percent : Int) (h1 : 1 ≤ least) : hOk n1 xs ys least percent = hOk n2 ys xs least percent := by
  obtain ⟨p1, p2⟩ := hGo_min (nm := n1) (xs := xs) (ys := ys) h1 (xs.length + ys.length - 1)
  obtain ⟨q1, q2⟩ := hGo_min (nm := n2) (xs := ys) (ys := xs) h1 (ys.length + xs.length - 1)
  have hfl : ∀ (i : Nat), i < xs.length + ys.length - 1 → 1 - (xs.length : Int) + ((xs.length + ys.length - 2 - i : Nat) : Int) = -(1 - (ys.length : Int) + (i : Int)) := fun i hi => by omega
  have hfl2 : ∀ (i : Nat), i < ys.length + xs.length - 1 → 1 - (ys.length : Int) + ((xs.length + ys.length - 2 - i : Nat) : Int) = -(1 - (xs.length : Int) + (i : Int)) := fun i hi => by omega
  have hbc : ∀ d : Int, (htD n2 ys xs (-d)).b = (htD n1 xs ys d).b ∧ (htD n2 ys xs (-d)).c = (htD n1 xs ys d).c := fun d => by
    unfold htD
    simp only
    rw [apN_flip, apB_flip]
    exact ⟨rfl, rfl⟩
  have hbc2 : ∀ d : Int, (htD n1 xs ys (-d)).b = (htD n2 ys xs d).b ∧ (htD n1 xs ys (-d)).c = (htD n2 ys xs d).c := fun d => by
    unfold htD
    simp only
    rw [apN_flip, apB_flip]
    exact ⟨rfl, rfl⟩
  unfold hOk hEnd
  cases hf : (hGo n1 xs ys least (xs.length + ys.length - 1)).1 with
  | false =>
    cases hg : (hGo n2 ys xs least (ys.length + xs.length - 1)).1 with
    | false => rfl
    | true =>
      obtain ⟨i, a, b, _⟩ := q1 hg
      have := (p2 (xs.length + ys.length - 2 - i) (by omega) (by rw [hfl2 i a, apN_flip]; exact b)).1
      rw [hf] at this; cases this
  | true =>
    obtain ⟨i, a, b, c⟩ := p1 hf
    have hq := q2 (xs.length + ys.length - 2 - i) (by omega) (by rw [hfl i a, apN_flip]; exact b)
    rw [hq.1]
    obtain ⟨k, ka, kb, kc⟩ := q1 hq.1
    have hp := p2 (xs.length + ys.length - 2 - k) (by omega) (by rw [hfl2 k ka, apN_flip]; exact kb)
    have e1 := hbc (1 - (ys.length : Int) + i)
    have e2 := hbc2 (1 - (xs.length : Int) + k)
    rw [← hfl i a] at e1
    rw [← hfl2 k ka] at e2
    have hs := same_bc (x := (hGo n1 xs ys least (xs.length + ys.length - 1)).2) (y := (hGo n2 ys xs least (ys.length + xs.length - 1)).2) (by rw [c]; exact htD_pos h1 b)
      (fun hh => hq.2 (by unfold betP at hh ⊢; rw [e1.1, e1.2, ← c]; exact hh)) (fun hh => hp.2 (by unfold betP at hh ⊢; rw [e2.1, e2.2, ← kc]; exact hh))
    rw [hs.1, hs.2]
end Go.Proofs.YtgjmjdpddionmaaDoor
