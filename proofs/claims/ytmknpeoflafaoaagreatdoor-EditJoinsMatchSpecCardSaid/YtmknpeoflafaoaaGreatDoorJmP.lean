/- Plain: Join and Mix: what they give; an edit, or its fault. -/
import Derived.Test.YtmknpeoflafaoaaGreatDoorSrtP
import Derived.Test.YtmknpeoflafaoaaGreatDoorPlnA
namespace Go.Dw
open Go.RowKit

def e0 : Edt := ⟨0, 0, []⟩
/-- the fault of two edits; rates alone: the numbers of tracks may differ -/
def twoF (nm : ByteArray → Bool) (mx : Int) (al : Bool) (a b : Edt) : Int :=
  if ediF nm mx a ≠ 0 then ediF nm mx a else if ediF nm mx b ≠ 0 then ediF nm mx b else if a.rate ≠ b.rate ∨ (al = false ∧ a.tracks ≠ b.tracks) then 6 else 0
/-- an edit, or its fault -/
def mkE (nm : ByteArray → Bool) (mx : Int) (e : Edt) : Edt × Int := if ediF nm mx e ≠ 0 then (e0, ediF nm mx e) else (e, 0)
def movC (k : Int) (c : Cli) : Cli := ⟨c.m, c.ch, c.fr, c.tr, c.at_ + k, c.ln, c.e⟩
/-- those from a position on are moved -/
def shfC (at_ by_ : Int) (c : Cli) : Cli := if at_ ≤ c.at_ then movC by_ c else c
def joinE (nm : ByteArray → Bool) (mx : Int) (a b : Edt) (n : Int) : Edt × Int :=
  if twoF nm mx false a b ≠ 0 then (e0, twoF nm mx false a b) else if n < 0 ∨ endF a.cs < n then (e0, 1) else mkE nm mx ⟨a.rate, a.tracks, srtC (a.cs ++ b.cs.map (movC (endF a.cs - n)))⟩
def mixE (nm : ByteArray → Bool) (mx : Int) (a b : Edt) : Edt × Int :=
  if twoF nm mx false a b ≠ 0 then (e0, twoF nm mx false a b) else mkE nm mx ⟨a.rate, a.tracks, srtC (a.cs ++ b.cs)⟩
theorem twoF_1 {nm : ByteArray → Bool} {mx : Int} {al : Bool} {a b : Edt} (h : ediF nm mx a ≠ 0) : twoF nm mx al a b = ediF nm mx a := by unfold twoF; rw [if_pos h]
theorem twoF_2 {nm : ByteArray → Bool} {mx : Int} {al : Bool} {a b : Edt} (h : ediF nm mx a = 0) (h2 : ediF nm mx b ≠ 0) : twoF nm mx al a b = ediF nm mx b := by unfold twoF; rw [if_neg (fun k => k h), if_pos h2]
theorem twoF_3 {nm : ByteArray → Bool} {mx : Int} {al : Bool} {a b : Edt} (h : ediF nm mx a = 0) (h2 : ediF nm mx b = 0) : twoF nm mx al a b = if a.rate ≠ b.rate ∨ (al = false ∧ a.tracks ≠ b.tracks) then 6 else 0 := by
  unfold twoF; rw [if_neg (fun k => k h), if_neg (fun k => k h2)]
theorem twoF_ok {nm : ByteArray → Bool} {mx : Int} {al : Bool} {a b : Edt} (h : twoF nm mx al a b = 0) : ediF nm mx a = 0 ∧ ediF nm mx b = 0 ∧ a.rate = b.rate ∧ (al = false → a.tracks = b.tracks) := by
  unfold twoF at h
  split at h
  · rename_i h1; exact absurd h h1
  · rename_i h1
    split at h
    · rename_i h2; exact absurd h h2
    · rename_i h2
      split at h
      · omega
      · rename_i h3
        refine ⟨by simpa using h1, by simpa using h2, ?_, fun ha => ?_⟩
        · exact Decidable.byContradiction fun k => h3 (.inl k)
        · exact Decidable.byContradiction fun k => h3 (.inr ⟨ha, k⟩)
theorem mkE_ok {nm : ByteArray → Bool} {mx : Int} {e : Edt} (h : ediF nm mx e = 0) : mkE nm mx e = (e, 0) := by unfold mkE; rw [if_neg (fun k => k h)]
theorem mkE_bad {nm : ByteArray → Bool} {mx : Int} {e : Edt} (h : ediF nm mx e ≠ 0) : mkE nm mx e = (e0, ediF nm mx e) := by unfold mkE; rw [if_pos h]
theorem srt_e0 : Srt e0.cs := fun i h0 hi => by simp [e0] at hi
theorem mkE_srt {nm : ByteArray → Bool} {mx : Int} {r t : Int} {l : List Cli} : Srt (mkE nm mx ⟨r, t, srtC l⟩).1.cs := by
  unfold mkE
  split
  · exact srt_e0
  · exact srtC_srt l
theorem joinE_srt {nm : ByteArray → Bool} {mx n : Int} {a b : Edt} : Srt (joinE nm mx a b n).1.cs := by
  unfold joinE
  split
  · exact srt_e0
  · split
    · exact srt_e0
    · exact mkE_srt
theorem mixE_srt {nm : ByteArray → Bool} {mx : Int} {a b : Edt} : Srt (mixE nm mx a b).1.cs := by
  unfold mixE
  split
  · exact srt_e0
  · exact mkE_srt
end Go.Dw
