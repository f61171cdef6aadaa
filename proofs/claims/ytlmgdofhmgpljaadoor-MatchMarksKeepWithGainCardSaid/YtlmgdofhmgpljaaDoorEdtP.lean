/- Plain: edits; their faults. -/
import Derived.Test.YtlmgdofhmgpljaaDoorRtoP
import Derived.Test.YtlmgdofhmgpljaaDoorStP
namespace Go.Dw
open Go.RowKit

structure Pnt where
  at_ : Int
  n : ByteArray
  d : ByteArray
structure Cli where
  m : ByteArray
  ch : Int
  fr : Int
  tr : Int
  at_ : Int
  ln : Int
  e : List Pnt
structure Edt where
  rate : Int
  tracks : Int
  cs : List Cli
def dPnt : Pnt := ⟨0, ⟨#[]⟩, ⟨#[]⟩⟩
def dCli : Cli := ⟨⟨#[]⟩, 0, 0, 0, 0, 0, []⟩
/-- the fault of a point, the one before it at prv -/
def pntF (ln : Int) (e : List Pnt) (i : Nat) : Int :=
  if (e.getD i dPnt).at_ < 0 ∨ ln ≤ (e.getD i dPnt).at_ then 1 else if 0 < i ∧ (e.getD i dPnt).at_ ≤ (e.getD (i - 1) dPnt).at_ then 8
  else if ratF (e.getD i dPnt).n (e.getD i dPnt).d ≠ 0 then ratF (e.getD i dPnt).n (e.getD i dPnt).d
  else if 40 < (boT (e.getD i dPnt).n).length ∨ 40 < (e.getD i dPnt).d.data.toList.length then 2 else 0
def envF (ln : Int) (e : List Pnt) : Int := if e.length = 0 then 9 else if 50 < e.length then 2 else firstNZ (pntF ln e) e.length
/-- whether the numbers of a clip are in range -/
def cliR (tracks : Int) (c : Cli) : Bool := decide ((0 ≤ c.ch ∧ c.ch < 16) ∧ (0 ≤ c.fr ∧ c.fr ≤ 10000000000000) ∧ (0 ≤ c.tr ∧ c.tr < tracks) ∧ (0 ≤ c.at_ ∧ c.at_ < 100000) ∧ (1 ≤ c.ln ∧ c.ln ≤ 100000 - c.at_) ∧ c.fr + c.ln ≤ 10000000000000)
/-- the fault of a clip: nm says what names are right -/
def cliF (nm : ByteArray → Bool) (tracks : Int) (c : Cli) : Int := if nm c.m = false then 5 else if cliR tracks c = false then 1 else envF c.ln c.e
def cmpZ (x y : Int) : Int := if x < y then -1 else if y < x then 1 else 0
def orZ : List Int → Int
  | [] => 0
  | x :: l => if x = 0 then orZ l else x
/-- the order of clips -/
def cmpK (a b : Cli) : Int := orZ [cmpZ a.tr b.tr, cmpZ a.at_ b.at_, cmpS a.m b.m, cmpZ a.ch b.ch, cmpZ a.fr b.fr, cmpZ a.ln b.ln]
theorem cmpS_val (a b : ByteArray) : cmpS a b = if sLt a b then -1 else if a = b then 0 else 1 := by
  by_cases h1 : sLt a b
  · rw [if_pos h1]
    have h2 : bL a.data.toList b.data.toList = true := h1
    unfold cmpS
    rw [cmpB_eq, if_pos h2]
  · rw [if_neg h1]
    have h2 : ¬ bL a.data.toList b.data.toList = true := h1
    unfold cmpS
    rw [cmpB_eq, if_neg h2]
    by_cases h3 : a.data.toList = b.data.toList
    · rw [if_pos h3, if_pos (ba_ext h3)]
    · rw [if_neg h3, if_neg (fun e => h3 (by rw [e]))]
theorem cmpZ_neg (x y : Int) : cmpZ y x = -cmpZ x y := by
  unfold cmpZ
  split
  · split
    · omega
    · rfl
  · split <;> rfl
theorem cmpS_neg (a b : ByteArray) : cmpS b a = -cmpS a b := by
  rw [cmpS_val, cmpS_val]
  rcases sLt_tri a b with h | h | h
  · rw [if_pos h, if_neg (sLt_asymm h), if_neg (fun e => by rw [e] at h; exact sLt_irr a h)]; rfl
  · subst h
    rw [if_neg (sLt_irr a), if_pos rfl]; rfl
  · rw [if_pos h, if_neg (sLt_asymm h), if_neg (fun e => by rw [e] at h; exact sLt_irr b h)]
theorem orZ_neg : ∀ l : List Int, orZ (l.map fun x => -x) = -orZ l
  | [] => rfl
  | x :: l => by
    rw [List.map_cons, orZ, orZ, orZ_neg l]
    by_cases h : x = 0
    · rw [if_pos h, if_pos (by omega)]
    · rw [if_neg h, if_neg (by omega)]
theorem cmpK_neg (a b : Cli) : cmpK b a = -cmpK a b := by
  unfold cmpK
  rw [cmpZ_neg a.tr b.tr, cmpZ_neg a.at_ b.at_, cmpS_neg a.m b.m, cmpZ_neg a.ch b.ch, cmpZ_neg a.fr b.fr, cmpZ_neg a.ln b.ln, ← orZ_neg]
  rfl
/-- as the reference's Order has it: the first key that differs -/
theorem orZ_step {α : Type} (lt : α → α → Prop) [DecidableRel lt] [DecidableEq α] (x y : α) (c : Int) (hc : c = if lt x y then -1 else if x = y then 0 else 1) (irr : ¬ lt x x) (l : List Int) :
    orZ (c :: l) = if x = y then orZ l else if lt x y then -1 else 1 := by
  rw [orZ, hc]
  by_cases h : x = y
  · subst h
    rw [if_neg irr, if_pos rfl, if_pos rfl, if_pos rfl]
  · rw [if_neg h, if_neg h]
    by_cases h2 : lt x y
    · rw [if_pos h2, if_neg (by decide)]
    · rw [if_neg h2, if_neg (by decide)]
theorem cmpZ_val (x y : Int) : cmpZ x y = if x < y then -1 else if x = y then 0 else 1 := by
  unfold cmpZ
  split
  · rfl
  · split
    · rw [if_neg (by omega)]
    · rw [if_pos (by omega)]
def ediK (nm : ByteArray → Bool) (e : Edt) (i : Nat) : Int :=
  if cliF nm e.tracks (e.cs.getD i dCli) ≠ 0 then cliF nm e.tracks (e.cs.getD i dCli) else if 0 < i ∧ 0 < cmpK (e.cs.getD (i - 1) dCli) (e.cs.getD i dCli) then 8 else 0
/-- the fault of an edit -/
def ediF (nm : ByteArray → Bool) (mx : Int) (e : Edt) : Int :=
  if ¬ (1 ≤ e.rate ∧ e.rate ≤ mx) ∨ e.tracks < 1 ∨ 16 < e.tracks then 1 else if 300 < e.cs.length then 2 else firstNZ (ediK nm e) e.cs.length
/-- where the last clip ends -/
def endF (cs : List Cli) : Int := cs.foldl (fun n c => max n (c.at_ + c.ln)) 0
/-- the text of an edit -/
def pntT (p : Pnt) : List UInt8 := [32] ++ Lib.itoa p.at_ ++ [58] ++ p.n.data.toList ++ [47] ++ p.d.data.toList
def cliT (c : Cli) : List UInt8 := [99, 108, 105, 112, 32] ++ c.m.data.toList ++ [32] ++ Lib.itoa c.ch ++ [32] ++ Lib.itoa c.fr ++ [32] ++ Lib.itoa c.tr ++ [32] ++ Lib.itoa c.at_ ++ [32] ++ Lib.itoa c.ln ++ c.e.flatMap pntT ++ [10]
def ediT (e : Edt) : List UInt8 := [101, 100, 105, 116, 32] ++ Lib.itoa e.rate ++ [32] ++ Lib.itoa e.tracks ++ [10] ++ e.cs.flatMap cliT
/-- what Text says -/
def txtF (nm : ByteArray → Bool) (mx : Int) (e : Edt) : List UInt8 × Int := if ediF nm mx e ≠ 0 then ([], ediF nm mx e) else if 500000 < (ediT e).length then ([], 2) else (ediT e, 0)
def endR (nm : ByteArray → Bool) (mx : Int) (e : Edt) : Int × Int := if ediF nm mx e ≠ 0 then (0, ediF nm mx e) else (endF e.cs, 0)
end Go.Dw
