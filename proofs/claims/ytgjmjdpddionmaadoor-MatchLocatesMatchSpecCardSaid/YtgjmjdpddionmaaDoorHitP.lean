/- Plain: the best place of marks within others. -/
import Derived.Test.YtgjmjdpddionmaaDoorApart
import Derived.Test.YtgjmjdpddionmaaDoorLocA
namespace Go.Proofs.YtgjmjdpddionmaaDoor
open Go.RowKit Go.Dw

def htD (nm : ByteArray) (xs ys : List Int) (d : Int) : Ht := ⟨nm, d, apB xs ys d (apN xs.length ys.length d), 8 * (apN xs.length ys.length d : Nat)⟩
def ht0 : Ht := ⟨⟨#[]⟩, 0, 0, 0⟩
/-- the best of the first j offsets -/
def hGo (nm : ByteArray) (xs ys : List Int) (least : Int) : Nat → Bool × Ht
  | 0 => (false, ht0)
  | j + 1 =>
    let st := hGo nm xs ys least j
    let d := 1 - (ys.length : Int) + j
    if (apN xs.length ys.length d : Int) < least then st else if !st.1 || decide (bet (htD nm xs ys d) st.2 < 0) then (true, htD nm xs ys d) else st
def hEnd (nm : ByteArray) (xs ys : List Int) (least : Int) : Bool × Ht := hGo nm xs ys least (xs.length + ys.length - 1)
def hOk (nm : ByteArray) (xs ys : List Int) (least percent : Int) : Bool :=
  (hEnd nm xs ys least).1 && decide (percent * (hEnd nm xs ys least).2.c ≤ 100 * ((hEnd nm xs ys least).2.c - (hEnd nm xs ys least).2.b))
theorem apN_le (la lb : Nat) (d : Int) : apN la lb d ≤ lb := by unfold apN; omega
theorem htD_small (nm : ByteArray) (xs ys : List Int) (d : Int) (h : ys.length ≤ 500) : (htD nm xs ys d).small ∧ (htD nm xs ys d).b ≤ 4000 ∧ (htD nm xs ys d).c ≤ 4000 := by
  have h1 := apB_le xs ys d (apN xs.length ys.length d)
  have h2 := apN_le xs.length ys.length d
  unfold Ht.small htD
  simp only
  omega
theorem hGo_small (nm : ByteArray) (xs ys : List Int) (least : Int) (h : ys.length ≤ 500) : ∀ j, (hGo nm xs ys least j).2.small ∧ (hGo nm xs ys least j).2.b ≤ 4000 ∧ (hGo nm xs ys least j).2.c ≤ 4000
  | 0 => by simp [hGo, ht0, Ht.small]
  | j + 1 => by
    have h1 := hGo_small nm xs ys least h j
    have h2 := htD_small nm xs ys (1 - (ys.length : Int) + j) h
    unfold hGo
    simp only
    split
    · exact h1
    · split
      · exact h2
      · exact h1
theorem hGo_skip {nm : ByteArray} {xs ys : List Int} {least : Int} {j : Nat} (h : (apN xs.length ys.length (1 - (ys.length : Int) + j) : Int) < least) : hGo nm xs ys least (j + 1) = hGo nm xs ys least j := by
  rw [hGo]; rw [if_pos h]
theorem hGo_new {nm : ByteArray} {xs ys : List Int} {least : Int} {j : Nat} (h : ¬ (apN xs.length ys.length (1 - (ys.length : Int) + j) : Int) < least) (h2 : (hGo nm xs ys least j).1 = false) : hGo nm xs ys least (j + 1) = (true, htD nm xs ys (1 - (ys.length : Int) + j)) := by
  rw [hGo]; rw [if_neg h, h2]; rfl
theorem hGo_bet {nm : ByteArray} {xs ys : List Int} {least : Int} {j : Nat} (h : ¬ (apN xs.length ys.length (1 - (ys.length : Int) + j) : Int) < least) (h2 : bet (htD nm xs ys (1 - (ys.length : Int) + j)) (hGo nm xs ys least j).2 < 0) : hGo nm xs ys least (j + 1) = (true, htD nm xs ys (1 - (ys.length : Int) + j)) := by
  rw [hGo]; rw [if_neg h, if_pos (by simp [h2])]
theorem hGo_old {nm : ByteArray} {xs ys : List Int} {least : Int} {j : Nat} (h : ¬ (apN xs.length ys.length (1 - (ys.length : Int) + j) : Int) < least) (h3 : (hGo nm xs ys least j).1 = true) (h2 : ¬ bet (htD nm xs ys (1 - (ys.length : Int) + j)) (hGo nm xs ys least j).2 < 0) : hGo nm xs ys least (j + 1) = hGo nm xs ys least j := by
  rw [hGo]; rw [if_neg h, if_neg (by simp [h3]; omega)]
end Go.Proofs.YtgjmjdpddionmaaDoor
