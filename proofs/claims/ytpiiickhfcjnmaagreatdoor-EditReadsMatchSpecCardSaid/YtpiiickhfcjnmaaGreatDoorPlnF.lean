/- Several texts laid into one: Plain: the words of a name; whether names agree; Plain: where a text is cut; The contract of sound.IsName; Plain: names; Plain: how a text of an edit reads; the text comes back; Plain: what is written is read, and what is read is written so; Plain: a name is at most 40 bytes long; -/
import Derived.Test.YtpiiickhfcjnmaaGreatDoorBase
import Derived.Lib.Bytealg
import Derived.Lib.Join
import Derived.Test.YtpiiickhfcjnmaaGreatDoorShelf
import Derived.Test.YtpiiickhfcjnmaaGreatDoorPlnA
/- Plain: the words of a name; whether names agree. -/
namespace Go.Dw
/-- a letter in small -/
def lowB (c : UInt8) : UInt8 := if 65 ≤ c ∧ c ≤ 90 then c + 32 else c
/-- the pieces between the bytes z -/
def splitB (z : UInt8) : List UInt8 → List (List UInt8)
  | [] => [[]]
  | c :: r => if c = z then [] :: splitB z r else match splitB z r with
    | [] => [[c]]
    | p :: q => (c :: p) :: q
theorem splitB_ne (z : UInt8) : ∀ l, splitB z l ≠ []
  | [] => by simp [splitB]
  | c :: r => by
    unfold splitB
    split
    · simp
    · split <;> simp
/-- without a point at the end -/
def trimDot (l : List UInt8) : List UInt8 := if l.getLast? = some 46 then l.dropLast else l
def wordsP (l : List UInt8) : List (List UInt8) := ((splitB 32 (l.map lowB)).map trimDot).filter (fun w => !w.isEmpty)
def wordsR (l : List UInt8) : List (List UInt8) := ((splitB 32 l).map (fun w => (trimDot w).map lowB)).filter (fun w => !w.isEmpty)
theorem low_blank (c : UInt8) : lowB c = 32 ↔ c = 32 := by
  have : ∀ n : Fin 256, lowB (UInt8.ofNat n.val) = 32 ↔ UInt8.ofNat n.val = 32 := by decide +kernel
  have h := this ⟨c.toNat, c.toNat_lt⟩
  simpa using h
theorem low_dot (c : UInt8) : lowB c = 46 ↔ c = 46 := by
  have : ∀ n : Fin 256, lowB (UInt8.ofNat n.val) = 46 ↔ UInt8.ofNat n.val = 46 := by decide +kernel
  have h := this ⟨c.toNat, c.toNat_lt⟩
  simpa using h
theorem split_low : ∀ l, splitB 32 (l.map lowB) = (splitB 32 l).map (List.map lowB)
  | [] => by simp [splitB]
  | c :: r => by
    simp only [List.map_cons, splitB]
    by_cases h : c = 32
    · rw [if_pos ((low_blank c).2 h), if_pos h, split_low r]; simp
    · rw [if_neg (fun hh => h ((low_blank c).1 hh)), if_neg h, split_low r]
      have := splitB_ne 32 r
      cases hs : splitB 32 r with
      | nil => exact absurd hs this
      | cons p q => simp
theorem trim_low (l : List UInt8) : trimDot (l.map lowB) = (trimDot l).map lowB := by
  unfold trimDot
  rw [List.getLast?_map]
  by_cases h : l.getLast? = some 46
  · rw [if_pos h, h, if_pos (by rfl), List.map_dropLast]
  · rw [if_neg h, if_neg]
    intro hh
    cases hl : l.getLast? with
    | none => rw [hl] at hh; cases hh
    | some c =>
      rw [hl] at hh h
      simp only [Option.map_some, Option.some.injEq] at hh
      exact h (by rw [(low_dot c).1 hh])
theorem words_eq (l : List UInt8) : wordsP l = wordsR l := by
  unfold wordsP wordsR
  rw [split_low, List.map_map]
  congr 2
  funext w
  exact trim_low w
/-- one word may stand for another one -/
def wordOk (x y : List UInt8) : Bool := decide (x = y) || (decide (x.length = 1) && x.isPrefixOf y) || (decide (y.length = 1) && y.isPrefixOf x)
theorem wordOk_comm (x y : List UInt8) : wordOk x y = wordOk y x := by
  unfold wordOk
  rw [show decide (x = y) = decide (y = x) from by simp [eq_comm]]
  cases decide (y = x) <;> cases (decide (x.length = 1) && x.isPrefixOf y) <;> cases (decide (y.length = 1) && y.isPrefixOf x) <;> rfl
def allOk : List (List UInt8) → List (List UInt8) → Bool
  | x :: a, y :: b => wordOk x y && allOk a b
  | _, _ => true
theorem allOk_comm : ∀ a b, allOk a b = allOk b a
  | [], [] => rfl
  | [], _ :: _ => rfl
  | _ :: _, [] => rfl
  | x :: a, y :: b => by unfold allOk; rw [wordOk_comm, allOk_comm a b]
def agreeW (a b : List (List UInt8)) : Bool := !a.isEmpty && decide (a.length = b.length) && allOk a b
theorem agreeW_comm (a b : List (List UInt8)) : agreeW a b = agreeW b a := by
  unfold agreeW
  rw [allOk_comm]
  by_cases h : a.length = b.length
  · have : a.isEmpty = b.isEmpty := by cases a <;> cases b <;> simp_all
    rw [this, h]
  · have h' : ¬ b.length = a.length := fun hh => h hh.symm
    simp [h, h']
def agr (a b : List UInt8) : Bool := agreeW (wordsP a) (wordsP b)
theorem agr_comm (a b : List UInt8) : agr a b = agr b a := agreeW_comm _ _
theorem allOk_at : ∀ {a b : List (List UInt8)} (k : Nat), a.length = b.length → (∀ j, j < k → wordOk (a.getD j []) (b.getD j []) = true) → allOk a b = allOk (a.drop k) (b.drop k)
  | [], [], k, _, _ => by simp
  | [], _ :: _, _, h, _ => by simp at h
  | _ :: _, [], _, h, _ => by simp at h
  | x :: a, y :: b, 0, _, _ => by simp
  | x :: a, y :: b, k + 1, h, hj => by
    have h0 := hj 0 (by omega)
    simp only [List.getD_cons_zero] at h0
    rw [allOk, h0, Bool.true_and, List.drop_succ_cons, List.drop_succ_cons]
    exact allOk_at k (by simpa using h) (fun j hjk => by have := hj (j + 1) (by omega); simpa using this)
theorem agree_bad {a b : List (List UInt8)} {k : Nat} (hl : a.length = b.length) (hk : k < a.length) (hj : ∀ j, j < k → wordOk (a.getD j []) (b.getD j []) = true) (hb : wordOk (a.getD k []) (b.getD k []) = false) : agreeW a b = false := by
  have hk2 : k < b.length := by omega
  unfold agreeW
  rw [allOk_at k hl hj, List.drop_eq_getElem_cons hk, List.drop_eq_getElem_cons hk2, allOk]
  rw [List.getD_eq_getElem?_getD, List.getElem?_eq_getElem hk, List.getD_eq_getElem?_getD, List.getElem?_eq_getElem hk2] at hb
  simp only [Option.getD_some] at hb
  rw [hb]; simp
theorem agree_ok {a b : List (List UInt8)} (hl : a.length = b.length) (h0 : a.length ≠ 0) (hj : ∀ j, j < a.length → wordOk (a.getD j []) (b.getD j []) = true) : agreeW a b = true := by
  unfold agreeW
  rw [allOk_at a.length hl hj]
  have : a ≠ [] := fun h => h0 (by rw [h]; rfl)
  simp [hl, this, List.drop_of_length_le, allOk]
theorem agree_len {a b : List (List UInt8)} (h : a.length = 0 ∨ a.length ≠ b.length) : agreeW a b = false := by
  unfold agreeW
  rcases h with h | h
  · have : a = [] := List.eq_nil_of_length_eq_zero h
    simp [this]
  · simp [h]
/-- the first piece, where there is a byte z -/
theorem split_at (z : UInt8) : ∀ (l : List UInt8), 0 < l.count z → ∃ m : Nat, Lib.indexByte l z = (m : Int) ∧ m < l.length ∧ splitB z l = l.take m :: splitB z (l.drop (m + 1)) ∧ l.count z = (l.drop (m + 1)).count z + 1
  | [], h => by simp at h
  | c :: r, h => by
    by_cases hc : c = z
    · subst hc
      exact ⟨0, by simp [Lib.indexByte], by simp, by simp [splitB], by simp⟩
    · have hr : 0 < r.count z := by rwa [List.count_cons_of_ne hc] at h
      obtain ⟨m, h1, h2, h3, h4⟩ := split_at z r hr
      refine ⟨m + 1, ?_, by simp; omega, ?_, ?_⟩
      · have e1 : (c == z) = false := by simpa using hc
        have e2 : ((m : Int) == -1) = false := by rw [beq_eq_false_iff_ne]; omega
        unfold Lib.indexByte
        rw [e1, h1, e2]; rfl
      · simp only [splitB, if_neg hc, h3, List.take_succ_cons, List.drop_succ_cons]
      · rw [List.count_cons_of_ne hc, h4, List.drop_succ_cons]
theorem split_none (z : UInt8) : ∀ (l : List UInt8), l.count z = 0 → splitB z l = [l]
  | [], _ => rfl
  | c :: r, h => by
    have hc : c ≠ z := by
      intro hh; subst hh; simp at h
    rw [List.count_cons_of_ne hc] at h
    simp only [splitB, if_neg hc, split_none z r h]
theorem split_len (z : UInt8) : ∀ (l : List UInt8), (splitB z l).length = l.count z + 1
  | [] => by simp [splitB]
  | c :: r => by
    by_cases hc : c = z
    · subst hc; simp [splitB, split_len c r]
    · rw [List.count_cons_of_ne hc, ← split_len z r]
      simp only [splitB, if_neg hc]
      have := splitB_ne z r
      cases hs : splitB z r with
      | nil => exact absurd hs this
      | cons p q => simp
end Go.Dw
/- Plain: where a text is cut. -/
namespace Go.Dw
open Go.RowKit

/-- where the first byte z lies -/
theorem cut_at {z : UInt8} {t : List UInt8} (h : 0 < t.count z) : ∃ m : Nat, Lib.indexByte t z = (m : Int) ∧ m < t.length := by
  obtain ⟨m, h1, h2, _, _⟩ := split_at z t h
  exact ⟨m, h1, h2⟩
theorem cut_none {z : UInt8} : ∀ {t : List UInt8}, t.count z = 0 → Lib.indexByte t z = -1
  | [], _ => rfl
  | c :: r, h => by
    have hc : c ≠ z := by
      intro hh; subst hh; simp at h
    rw [List.count_cons_of_ne hc] at h
    unfold Lib.indexByte
    rw [cut_none h]
    simp [hc]
theorem split_no {z : UInt8} {a : List UInt8} (h : z ∉ a) : splitB z a = [a] := split_none z a (List.count_eq_zero.2 h)
theorem split_cat {z : UInt8} : ∀ {a : List UInt8} (r : List UInt8), z ∉ a → splitB z (a ++ z :: r) = a :: splitB z r
  | [], r, _ => by simp [splitB]
  | c :: a, r, h => by
    have h1 : c ≠ z := fun e => h (by simp [e])
    have ih := split_cat (a := a) r (fun e => h (List.mem_cons_of_mem _ e))
    rw [List.cons_append, splitB, if_neg h1, ih]
theorem split_join {z : UInt8} : ∀ (ls : List (List UInt8)), ls ≠ [] → (∀ l ∈ ls, z ∉ l) → splitB z (Lib.join ls [z]) = ls
  | [], h, _ => absurd rfl h
  | [a], _, h => by rw [Lib.join_one]; exact split_no (h a (by simp))
  | a :: b :: r, _, h => by
    have ih := split_join (b :: r) (by simp) (fun l hl => h l (by simp at hl ⊢; exact .inr hl))
    have e : Lib.join (a :: b :: r) [z] = a ++ z :: Lib.join (b :: r) [z] := by
      rw [Lib.join_cons, Lib.join_cons]; simp [Lib.joinTail]
    rw [e, split_cat _ (h a (by simp)), ih]
theorem idx_cat {z : UInt8} : ∀ {a : List UInt8} (r : List UInt8), z ∉ a → Lib.indexByte (a ++ z :: r) z = (a.length : Int)
  | [], r, _ => by simp [Lib.indexByte]
  | c :: a, r, h => by
    have h1 : c ≠ z := fun e => h (by simp [e])
    have ih := idx_cat (a := a) r (fun e => h (List.mem_cons_of_mem _ e))
    rw [List.cons_append, Lib.indexByte, ih]
    have h2 : (c == z) = false := by simpa using h1
    have h3 : (((a.length : Nat) : Int) == -1) = false := by rw [beq_eq_false_iff_ne]; omega
    simp only [h2, h3, Bool.false_eq_true, if_false, List.length_cons]
    omega
theorem join_notin {z y : UInt8} (hy : z ≠ y) : ∀ (ls : List (List UInt8)), (∀ l ∈ ls, z ∉ l) → z ∉ Lib.join ls [y]
  | [], _ => by simp [Lib.join_nil]
  | [a], h => by rw [Lib.join_one]; exact h a (by simp)
  | a :: b :: r, h => by
    have ih := join_notin hy (b :: r) (fun l hl => h l (by simp at hl ⊢; exact .inr hl))
    have e : Lib.join (a :: b :: r) [y] = a ++ y :: Lib.join (b :: r) [y] := by
      rw [Lib.join_cons, Lib.join_cons]; simp [Lib.joinTail]
    rw [e]
    simp only [List.mem_append, List.mem_cons, not_or]
    exact ⟨h a (by simp), hy, ih⟩
end Go.Dw
/- The contract of sound.IsName. -/
namespace Go.Proofs.YtpiiickhfcjnmaaGreatDoor
open Go.RowKit Go.Dw

def nameCs : ByteArray := ⟨#[97, 98, 99, 100, 101, 102, 103, 104, 105, 106, 107, 108, 109, 110, 111, 112, 113, 114, 115, 116, 117, 118, 119, 120, 121, 122, 48, 49, 50, 51, 52, 53, 54, 55, 56, 57, 45]⟩
def nmTail (s : ByteArray) : Bool := (Lib.trimS s.data.toList nameCs.data.toList).isEmpty
def isNm (s : ByteArray) : Bool := if h : 0 < s.size then decide (s.size ≤ 40) && (decide (97 ≤ (s[0]'h).toNat) && decide ((s[0]'h).toNat ≤ 122)) && nmTail s else false
set_option maxHeartbeats 400000 in
theorem trim_any (s : ByteArray) (w : World) (hs : s.size ≤ 9223372036854775807) :
    Calls Tryz.prog 73 #[.string s, .string nameCs] w fun e w' => e = .returned (.string ⟨(Lib.trimS s.data.toList nameCs.data.toList).toArray⟩) ∧ Below w.heap.size w w' :=
  Any.strings_Trim_laid Tryz.lays160 (by kernel_rfl) s nameCs w hs (by decide) (ascii_of_all (by decide))
set_option maxHeartbeats 1000000 in
theorem isName_any (s : ByteArray) (w : World) (hs : s.size ≤ 9223372036854775807) :
    Calls Tryz.prog 81 #[.string s] w fun e w' => e = .returned (.bool (isNm s)) ∧ Below w.heap.size w w' := by
  by_cases h0 : 0 < s.size
  · by_cases h1 : 40 < s.size
    · have hf : isNm s = false := by unfold isNm; rw [dif_pos h0]; simp; intro h; omega
      rw [hf]
      go_enter Tryz.func81, Tryz.ntmps81
      go_wp2_with fail
      go_ret
      exact ⟨rfl, Below.refl _ _⟩
    · by_cases h2 : (s[0]'h0).toNat < 97
      · have hf : isNm s = false := by unfold isNm; rw [dif_pos h0]; simp; intro _ h; omega
        rw [hf]
        have h2' : ((s[0]'h0).toNat : Int) < 97 := by omega
        go_enter Tryz.func81, Tryz.ntmps81
        go_wp2_with fail
        go_ret
        exact ⟨rfl, Below.refl _ _⟩
      · by_cases h3 : 122 < (s[0]'h0).toNat
        · have hf : isNm s = false := by unfold isNm; rw [dif_pos h0]; simp; intro _ _ h; omega
          rw [hf]
          have h3' : (122 : Int) < ((s[0]'h0).toNat : Int) := by omega
          go_enter Tryz.func81, Tryz.ntmps81
          go_wp2_with fail
          go_ret
          exact ⟨rfl, Below.refl _ _⟩
        · have hf : isNm s = nmTail s := by unfold isNm; rw [dif_pos h0]; simp [show s.size ≤ 40 by omega, show 97 ≤ (s[0]'h0).toNat by omega, show (s[0]'h0).toNat ≤ 122 by omega]
          rw [hf]

          clear hf
          go_enter Tryz.func81, Tryz.ntmps81
          go_wp2_with fail
          refine (trim_any s _ hs).mono ?_
          rintro e w' ⟨rfl, hb⟩
          have HB := Lib.hid hb
          clear hb
          go_wp2_with fail
          go_ret
          exact ⟨rfl, HB.out⟩
  · have hf : isNm s = false := by unfold isNm; rw [dif_neg h0]
    rw [hf]
    go_enter Tryz.func81, Tryz.ntmps81
    go_wp2_with fail
    go_ret
    exact ⟨rfl, Below.refl _ _⟩
end Go.Proofs.YtpiiickhfcjnmaaGreatDoor
/- Plain: names. -/
namespace Go.Proofs.YtpiiickhfcjnmaaGreatDoor
open Go.RowKit Go.Dw

def okB (b : UInt8) : Bool := (decide (97 ≤ b.toNat) && decide (b.toNat ≤ 122)) || (decide (48 ≤ b.toNat) && decide (b.toNat ≤ 57)) || decide (b.toNat = 45)
theorem okB_all : ∀ i : Fin 256, nameCs.data.toList.contains (UInt8.ofNat i.val) = okB (UInt8.ofNat i.val) := by decide +kernel
theorem okB_eq (b : UInt8) : nameCs.data.toList.contains b = okB b := by
  have := okB_all ⟨b.toNat, b.toNat_lt⟩
  simpa using this
theorem dropWhile_nil {α : Type} (p : α → Bool) : ∀ l : List α, l.dropWhile p = [] ↔ l.all p = true
  | [] => by simp
  | a :: l => by
    have ih := dropWhile_nil p l
    by_cases h : p a = true
    · rw [List.dropWhile_cons_of_pos h, ih]; simp [h]
    · rw [List.dropWhile_cons_of_neg (by simpa using h)]; simp [h]
theorem nmTail_eq (s : ByteArray) : nmTail s = s.data.toList.all okB := by
  have hp : (fun b : UInt8 => nameCs.data.toList.contains b) = okB := funext okB_eq
  unfold nmTail
  rw [Bool.eq_iff_iff, List.isEmpty_iff]
  unfold Lib.trimS Lib.trimLeftS Lib.trimRightS
  rw [hp, dropWhile_nil]
  rw [List.all_reverse]
  constructor
  · intro h
    have h2 : (s.data.toList.reverse.dropWhile okB) = [] := by
      cases hd : s.data.toList.reverse.dropWhile okB with
      | nil => rfl
      | cons a t =>
        rw [hd] at h
        have := List.head_dropWhile_not okB (l := s.data.toList.reverse) (by rw [hd]; simp)
        simp [hd] at this
        simp [this] at h
    rw [dropWhile_nil, List.all_reverse] at h2
    exact h2
  · intro h
    have : s.data.toList.reverse.dropWhile okB = [] := by rw [dropWhile_nil, List.all_reverse]; exact h
    rw [this]; rfl
theorem all_succ (s : ByteArray) (k : Nat) (h : k < s.size) : (s.data.toList.take (k + 1)).all okB = ((s.data.toList.take k).all okB && okB s[k]) := by
  rw [List.take_succ_eq_append_getElem (by simpa using h), List.all_append]
  have : s.data.toList[k]'(by simpa using h) = s[k] := rfl
  rw [this]; simp
theorem all_false (s : ByteArray) (k : Nat) (h : k < s.size) (hb : okB s[k] = false) : s.data.toList.all okB = false := by
  rw [List.all_eq_false]
  exact ⟨s[k], List.getElem_mem (l := s.data.toList) (by simpa using h), by simp [hb]⟩
theorem emp_f {s : ByteArray} (h : 0 < s.size) : s.toList.isEmpty = false := by
  rw [ByteArray.toList_eq]
  cases hl : s.data.toList with
  | nil =>
    have : s.size = s.data.toList.length := by simp
    rw [hl, List.length_nil] at this; omega
  | cons a t => rfl
theorem emp_t {s : ByteArray} (h : ¬ 0 < s.size) : s.toList.isEmpty = true ∧ s.toList = [] := by
  have h0 : s.data.toList = [] := by
    apply List.eq_nil_of_length_eq_zero
    have : s.size = s.data.toList.length := by simp
    omega
  rw [ByteArray.toList_eq, h0]; exact ⟨rfl, rfl⟩
end Go.Proofs.YtpiiickhfcjnmaaGreatDoor
/- Plain: how a text of an edit reads; the text comes back. -/
namespace Go.Proofs.YtpiiickhfcjnmaaGreatDoor
open Go.RowKit Go.Dw

/-- bytes as a string -/
def mkE (l : List UInt8) : ByteArray := ⟨l.toArray⟩
theorem mkE_list (l : List UInt8) : (mkE l).data.toList = l := by simp [mkE]
theorem mkE_of (s : ByteArray) : mkE s.data.toList = s := by cases s; simp [mkE]
/-- a number of at most 14 digits -/
def numE (l : List UInt8) : Option Nat := if noZ l = true ∧ l.length ≤ 14 then some (valD l) else none
def isDg (l : List UInt8) : Bool := !l.isEmpty && l.all isD
/-- what Cut says -/
def cutE (z : UInt8) (l : List UInt8) : List UInt8 × List UInt8 × Bool := if l.count z = 0 then (l, [], false) else (l.take (Lib.indexByte l z).toNat, l.drop ((Lib.indexByte l z).toNat + 1), true)
def bareE (l : List UInt8) : List UInt8 := Lib.trimPrefix l [45]
def pntE (l : List UInt8) : Option Pnt :=
  match numE (cutE 58 l).1 with
  | none => none
  | some n => if (cutE 58 l).2.2 = true ∧ (cutE 47 (cutE 58 l).2.1).2.2 = true ∧ isDg (bareE (cutE 47 (cutE 58 l).2.1).1) = true ∧ isDg (cutE 47 (cutE 58 l).2.1).2.1 = true
      then some ⟨(n : Int), mkE (cutE 47 (cutE 58 l).2.1).1, mkE (cutE 47 (cutE 58 l).2.1).2.1⟩ else none
def numsE : List (List UInt8) → Option (List Nat)
  | [] => some []
  | x :: r => match numE x with
    | none => none
    | some n => (numsE r).map (n :: ·)
def pntsE : List (List UInt8) → Option (List Pnt)
  | [] => some []
  | x :: r => match pntE x with
    | none => none
    | some n => (pntsE r).map (n :: ·)
def rowE (l : List UInt8) : Bool := !l.isEmpty && l.all okB
def wClip : List UInt8 := [99, 108, 105, 112]
def wEdit : List UInt8 := [101, 100, 105, 116]
def cliW (w : List (List UInt8)) : Option Cli :=
  if w.length < 7 ∨ w.getD 0 [] ≠ wClip ∨ rowE (w.getD 1 []) = false then none else
    match numsE ((w.drop 2).take 5) with
    | none => none
    | some ns => (pntsE (w.drop 7)).map fun e => ⟨mkE (w.getD 1 []), (ns.getD 0 0 : Nat), (ns.getD 1 0 : Nat), (ns.getD 2 0 : Nat), (ns.getD 3 0 : Nat), (ns.getD 4 0 : Nat), e⟩
def hdW (w : List (List UInt8)) : Option (Nat × Nat) :=
  if w.length ≠ 3 ∨ w.getD 0 [] ≠ wEdit then none else (numsE (w.drop 1)).map fun ns => (ns.getD 0 0, ns.getD 1 0)
def e0 : Edt := ⟨0, 0, []⟩
def stepE (i : Nat) (l : List UInt8) (e : Edt) : Option Edt :=
  if i = 1 then (hdW (splitB 32 l)).map fun p => ⟨(p.1 : Int), (p.2 : Int), e.cs⟩ else (cliW (splitB 32 l)).map fun c => ⟨e.rate, e.tracks, e.cs ++ [c]⟩
def finE (e : Edt) : Edt × Nat × Int := if ediF isNm 1000000 e = 0 then (e, 0, 0) else (e0, 0, ediF isNm 1000000 e)
def rdG : Nat → List UInt8 → Nat → Edt → Edt × Nat × Int
  | 0, _, _, e => finE e
  | f + 1, t, i, e => if i ≠ 1 ∧ t.length = 0 then finE e else if t.count 10 = 0 then (e0, i, 10) else
      match stepE i (t.take (Lib.indexByte t 10).toNat) e with
      | none => (e0, i, 10)
      | some e' => rdG f (t.drop ((Lib.indexByte t 10).toNat + 1)) (i + 1) e'
def readE (t : List UInt8) : Edt × Nat × Int := if 500000 < t.length then (e0, 0, 2) else rdG (t.length + 1) t 1 e0
theorem rdG_end {f i : Nat} {t : List UInt8} {e : Edt} (hi : i ≠ 1) (h : t.length = 0) : rdG f t i e = finE e := by
  cases f with
  | zero => rfl
  | succ f => rw [rdG, if_pos ⟨hi, h⟩]
theorem rdG_no {f i : Nat} {t : List UInt8} {e : Edt} (hf : t.length < f) (h : i = 1 ∨ t.length ≠ 0) (hc : t.count 10 = 0) : rdG f t i e = (e0, i, 10) := by
  cases f with
  | zero => omega
  | succ f => rw [rdG, if_neg (by omega), if_pos hc]
theorem rdG_bad {f i : Nat} {t : List UInt8} {e : Edt} (hf : t.length < f) (h : i = 1 ∨ t.length ≠ 0) (hs : stepE i (t.take (Lib.indexByte t 10).toNat) e = none) : rdG f t i e = (e0, i, 10) := by
  cases f with
  | zero => omega
  | succ f =>
    rw [rdG, if_neg (by omega)]
    split
    · rfl
    · rw [hs]
theorem rdG_go {f i : Nat} {t : List UInt8} {e e' : Edt} (hf : t.length < f) (h : i = 1 ∨ t.length ≠ 0) (hc : t.count 10 ≠ 0) (hs : stepE i (t.take (Lib.indexByte t 10).toNat) e = some e') : rdG f t i e = rdG (f - 1) (t.drop ((Lib.indexByte t 10).toNat + 1)) (i + 1) e' := by
  cases f with
  | zero => omega
  | succ f => rw [rdG, if_neg (by omega), if_neg hc, hs]; rfl
end Go.Proofs.YtpiiickhfcjnmaaGreatDoor
/- Plain: what is written is read, and what is read is written so. -/
namespace Go.Proofs.YtpiiickhfcjnmaaGreatDoor
open Go.RowKit Go.Dw

def pntW (p : Pnt) : List UInt8 := Lib.itoa p.at_ ++ 58 :: (p.n.data.toList ++ 47 :: p.d.data.toList)
def wordsC (c : Cli) : List (List UInt8) := [wClip, c.m.data.toList, Lib.itoa c.ch, Lib.itoa c.fr, Lib.itoa c.tr, Lib.itoa c.at_, Lib.itoa c.ln] ++ c.e.map pntW
def lineC (c : Cli) : List UInt8 := Lib.join (wordsC c) [32]
def lineH (r t : Int) : List UInt8 := Lib.join [wEdit, Lib.itoa r, Lib.itoa t] [32]
theorem flatMap_pnt (l : List Pnt) : Lib.joinTail [32] (l.map pntW) = l.flatMap pntT := by
  induction l with
  | nil => rfl
  | cons p l ih =>
    rw [List.flatMap_cons, ← ih]
    simp [Lib.joinTail, pntW, pntT]
theorem joinTail_app (a b : List (List UInt8)) : Lib.joinTail [32] (a ++ b) = Lib.joinTail [32] a ++ Lib.joinTail [32] b := by simp [Lib.joinTail]
theorem cliT_line (c : Cli) : cliT c = lineC c ++ [10] := by
  have e : wordsC c = wClip :: ([c.m.data.toList, Lib.itoa c.ch, Lib.itoa c.fr, Lib.itoa c.tr, Lib.itoa c.at_, Lib.itoa c.ln] ++ c.e.map pntW) := rfl
  unfold lineC cliT
  rw [e, Lib.join_cons, joinTail_app, flatMap_pnt]
  simp [Lib.joinTail, wClip]
theorem ediT_line (e : Edt) : ediT e = lineH e.rate e.tracks ++ 10 :: e.cs.flatMap cliT := by
  unfold lineH ediT
  rw [Lib.join_cons]
  simp [Lib.joinTail, wEdit]
theorem join_split (z : UInt8) : ∀ l : List UInt8, Lib.join (splitB z l) [z] = l
  | [] => rfl
  | c :: r => by
    have ih := join_split z r
    by_cases h : c = z
    · subst h
      rw [splitB, if_pos rfl]
      cases hs : splitB c r with
      | nil => exact absurd hs (splitB_ne c r)
      | cons p q =>
        rw [hs, Lib.join_cons] at ih
        rw [Lib.join_cons]
        simp only [Lib.joinTail, List.map_cons, List.flatten_cons, List.nil_append, List.cons_append] at ih ⊢
        rw [ih]
    · rw [splitB, if_neg h]
      cases hs : splitB z r with
      | nil => exact absurd hs (splitB_ne z r)
      | cons p q =>
        rw [hs, Lib.join_cons] at ih
        rw [Lib.join_cons, List.cons_append, ih]
/- numbers -/
theorem itoa_dec {n : Int} (h : 0 ≤ n) : Lib.itoa n = Lib.decDigits n.toNat := by unfold Lib.itoa; rw [if_neg (by omega)]
theorem itoa_digs {n : Int} (h : 0 ≤ n) {z : UInt8} (hz : isD z = false) : z ∉ Lib.itoa n := fun hm => by
  rw [itoa_dec h] at hm
  have := List.all_eq_true.1 (dec_facts n.toNat).1 z hm
  rw [hz] at this; cases this
theorem numE_itoa {n : Int} (h : 0 ≤ n) (h2 : n < 100000000000000) : numE (Lib.itoa n) = some n.toNat := by
  rw [itoa_dec h]
  obtain ⟨a1, a2, _, _⟩ := dec_facts n.toNat
  have a5 := dec_len 14 n.toNat (by omega) (by omega)
  unfold numE
  rw [if_pos ⟨(noZ_iff _).2 ⟨a1, dec_noz _⟩, a5⟩, a2]
theorem numE_back {l : List UInt8} {n : Nat} (h : numE l = some n) : Lib.itoa (n : Int) = l ∧ n < 100000000000000 := by
  unfold numE at h
  split at h
  · rename_i hc
    injection h with h
    obtain ⟨h1, h2⟩ := (noZ_iff l).1 hc.1
    have h3 := dec_val _ l rfl h1 h2
    have h4 := valD_lt l.length l rfl h1
    have h5 : 10 ^ l.length ≤ 10 ^ 14 := Nat.pow_le_pow_right (by omega) hc.2
    subst h
    refine ⟨?_, by omega⟩
    rw [itoa_dec (by omega), Int.toNat_natCast, h3]
  · cases h
theorem nums_back : ∀ {ws : List (List UInt8)} {ns : List Nat}, numsE ws = some ns → ws = ns.map (fun n : Nat => Lib.itoa (n : Int)) ∧ ∀ n ∈ ns, n < 100000000000000
  | [], ns, h => by injection h with h; subst h; simp
  | x :: r, ns, h => by
    rw [numsE] at h
    cases hx : numE x with
    | none => rw [hx] at h; cases h
    | some n =>
      rw [hx] at h
      cases hr : numsE r with
      | none => rw [hr] at h; cases h
      | some ms =>
        rw [hr] at h
        injection h with h
        subst h
        obtain ⟨i1, i2⟩ := nums_back hr
        obtain ⟨j1, j2⟩ := numE_back hx
        refine ⟨by rw [List.map_cons, j1, ← i1], fun k hk => ?_⟩
        rcases List.mem_cons.1 hk with rfl | hk
        · exact j2
        · exact i2 k hk
/- cuts -/
theorem cut_cat {z : UInt8} {a : List UInt8} (r : List UInt8) (h : z ∉ a) : cutE z (a ++ z :: r) = (a, r, true) := by
  unfold cutE
  rw [if_neg (by rw [List.count_append]; simp), idx_cat r h]
  simp
theorem cut_back {z : UInt8} {l : List UInt8} (h : (cutE z l).2.2 = true) : l = (cutE z l).1 ++ z :: (cutE z l).2.1 := by
  unfold cutE at h ⊢
  split at h
  · cases h
  · rename_i hc
    rw [if_neg hc]
    obtain ⟨m, h1, h2, h3, _⟩ := split_at z l (by omega)
    rw [h1]
    simp only [Int.toNat_natCast]
    have h4 := join_split z l
    rw [h3, Lib.join_cons] at h4
    have h5 := join_split z (l.drop (m + 1))
    cases hs : splitB z (l.drop (m + 1)) with
    | nil => exact absurd hs (splitB_ne _ _)
    | cons p q =>
      rw [hs] at h4 h5
      rw [Lib.join_cons] at h5
      simp only [Lib.joinTail, List.map_cons, List.flatten_cons, List.nil_append, List.cons_append] at h4 h5
      rw [h5] at h4
      exact h4.symm
/- points -/
theorem pntE_back {l : List UInt8} {p : Pnt} (h : pntE l = some p) : pntW p = l ∧ (0 ≤ p.at_ ∧ p.at_ < 100000000000000) ∧ p.n.size ≤ l.length ∧ p.d.size ≤ l.length := by
  unfold pntE at h
  cases hn : numE (cutE 58 l).1 with
  | none => rw [hn] at h; cases h
  | some n =>
    rw [hn] at h
    simp only at h
    split at h
    · rename_i hc
      injection h with h
      obtain ⟨c1, c2, c3, c4⟩ := hc
      have e1 := cut_back c1
      have e2 := cut_back c2
      obtain ⟨i1, i2⟩ := numE_back hn
      subst h
      have key : pntW ⟨(n : Int), mkE (cutE 47 (cutE 58 l).2.1).1, mkE (cutE 47 (cutE 58 l).2.1).2.1⟩ = l := by
        unfold pntW
        simp only [mkE_list]
        rw [i1, ← e2, ← e1]
      have hk := congrArg List.length key
      unfold pntW at hk
      simp only [List.length_append, List.length_cons] at hk
      refine ⟨key, ⟨by simp, by simp; omega⟩, ?_, ?_⟩
      · rw [← ba_len]; simp only; omega
      · rw [← ba_len]; simp only; omega
    · cases h
theorem pnts_back : ∀ {ws : List (List UInt8)} {ps : List Pnt}, pntsE ws = some ps → ws = ps.map pntW ∧ ∀ p ∈ ps, (0 ≤ p.at_ ∧ p.at_ < 100000000000000)
  | [], ns, h => by injection h with h; subst h; simp
  | x :: r, ns, h => by
    rw [pntsE] at h
    cases hx : pntE x with
    | none => rw [hx] at h; cases h
    | some n =>
      rw [hx] at h
      cases hr : pntsE r with
      | none => rw [hr] at h; cases h
      | some ms =>
        rw [hr] at h
        injection h with h
        subst h
        obtain ⟨i1, i2⟩ := pnts_back hr
        obtain ⟨j1, j2, _⟩ := pntE_back hx
        refine ⟨by rw [List.map_cons, j1, ← i1], fun k hk => ?_⟩
        rcases List.mem_cons.1 hk with rfl | hk
        · exact j2
        · exact i2 k hk
theorem noZ_dg {l : List UInt8} (h : noZ l = true) : isDg l = true := by
  obtain ⟨h1, h2⟩ := (noZ_iff l).1 h
  unfold isDg
  rw [h1, Bool.and_true]
  have : l ≠ [] := by intro e; rw [e] at h; simp [noZ_nil] at h
  cases l with
  | nil => exact absurd rfl this
  | cons x r => rfl
theorem rat_bytes {n d : ByteArray} (h : RatR n d) {z : UInt8} (hz : isD z = false) (h45 : z ≠ 45) : z ∉ n.data.toList ∧ z ∉ d.data.toList := by
  have hall : ∀ l : List UInt8, noZ l = true → z ∉ l := fun l hl hm => by
    have := List.all_eq_true.1 ((noZ_iff l).1 hl).1 z hm
    rw [hz] at this; cases this
  refine ⟨fun hm => ?_, hall _ h.dz⟩
  have hb := hall _ h.nz
  unfold boT Lib.trimPrefix at hb
  split at hb
  · rename_i hp
    cases hl : n.data.toList with
    | nil => rw [hl] at hm; cases hm
    | cons x r =>
      rw [hl] at hm hp hb
      have hx : x = 45 := by
        simp [Lib.hasPrefix, List.isPrefixOf] at hp
        exact hp.symm
      rcases List.mem_cons.1 hm with e | e
      · exact h45 (by rw [e, hx])
      · exact hb (by simpa using e)
  · exact hb hm
theorem pntE_of {ln : Int} {p : Pnt} (h : PntR ln p) (hl : ln ≤ 100000) : pntE (pntW p) = some p := by
  have hr := ratR_of h.r
  have ha := h.a
  obtain ⟨n1, d1⟩ := rat_bytes hr (z := 47) (by decide) (by decide)
  unfold pntE pntW
  rw [cut_cat _ (itoa_digs ha.1 (by decide))]
  simp only
  rw [numE_itoa ha.1 (by omega), cut_cat _ n1]
  simp only
  rw [if_pos ⟨trivial, trivial, noZ_dg hr.nz, noZ_dg hr.dz⟩, mkE_of, mkE_of]
  have : ((p.at_.toNat : Nat) : Int) = p.at_ := by omega
  rw [this]
theorem pnts_of {ln : Int} : ∀ (l : List Pnt), (∀ p ∈ l, PntR ln p) → ln ≤ 100000 → pntsE (l.map pntW) = some l
  | [], _, _ => rfl
  | p :: l, h, hl => by rw [List.map_cons, pntsE, pntE_of (h p (by simp)) hl, pnts_of l (fun q hq => h q (by simp [hq])) hl]; rfl
theorem nm_row {s : ByteArray} (h : isNm s = true) : rowE s.data.toList = true := by
  unfold isNm at h
  split at h
  · rename_i h0
    simp only [Bool.and_eq_true, decide_eq_true_eq] at h
    rw [nmTail_eq] at h
    unfold rowE
    rw [h.2, Bool.and_true]
    have hl := ba_len s
    cases hq : s.data.toList with
    | nil => rw [hq] at hl; simp at hl; omega
    | cons x r => rfl
  · cases h
theorem cliW_of {tk : Int} {c : Cli} (h : CliRt isNm tk c) (ht : tk ≤ 16) : cliW (wordsC c) = some c := by
  obtain ⟨r1, r2, r3, r4, r5, r6⟩ := h.r
  unfold cliW
  have e1 : (wordsC c).getD 0 [] = wClip := rfl
  have e2 : (wordsC c).getD 1 [] = c.m.data.toList := rfl
  have e3 : ((wordsC c).drop 2).take 5 = [Lib.itoa c.ch, Lib.itoa c.fr, Lib.itoa c.tr, Lib.itoa c.at_, Lib.itoa c.ln] := by simp [wordsC]
  have e4 : (wordsC c).drop 7 = c.e.map pntW := by simp [wordsC]
  have e5 : 7 ≤ (wordsC c).length := by simp [wordsC]
  rw [if_neg (by rw [e1, e2, nm_row h.m]; simp; omega), e2, e3, e4, pnts_of c.e h.p (by omega)]
  simp only [numsE, numE_itoa r1.1 (by omega), numE_itoa r2.1 (by omega), numE_itoa r3.1 (by omega), numE_itoa r4.1 (by omega), numE_itoa (show (0 : Int) ≤ c.ln by omega) (by omega), Option.map_some]
  simp only [List.getD_cons_zero, List.getD_cons_succ, mkE_of]
  have k : ∀ z : Int, 0 ≤ z → ((z.toNat : Nat) : Int) = z := fun z hz => by omega
  rw [k _ r1.1, k _ r2.1, k _ r3.1, k _ r4.1, k _ (by omega)]
theorem words_no {tk : Int} {c : Cli} (h : CliRt isNm tk c) {z : UInt8} (h1 : okB z = false) (h2 : isD z = false) (h3 : z ≠ 45) (h4 : z ≠ 58) (h5 : z ≠ 47) : ∀ l ∈ wordsC c, z ∉ l := by
  obtain ⟨r1, r2, r3, r4, r5, r6⟩ := h.r
  intro l hl
  unfold wordsC at hl
  simp only [List.mem_append, List.mem_cons, List.not_mem_nil, or_false, List.mem_map] at hl
  have hrow : ∀ l : List UInt8, rowE l = true → z ∉ l := fun l hl hm => by
    unfold rowE at hl
    simp only [Bool.and_eq_true] at hl
    have := List.all_eq_true.1 hl.2 z hm
    rw [h1] at this; cases this
  rcases hl with (rfl | rfl | rfl | rfl | rfl | rfl | rfl) | ⟨p, hp, rfl⟩
  · exact hrow _ (by decide)
  · exact hrow _ (nm_row h.m)
  · exact itoa_digs r1.1 h2
  · exact itoa_digs r2.1 h2
  · exact itoa_digs r3.1 h2
  · exact itoa_digs r4.1 h2
  · exact itoa_digs (by omega) h2
  · have hp2 := h.p p hp
    obtain ⟨n1, d1⟩ := rat_bytes (ratR_of hp2.r) h2 h3
    unfold pntW
    simp only [List.mem_append, List.mem_cons, not_or]
    exact ⟨itoa_digs hp2.a.1 h2, h4, n1, h5, d1⟩
theorem line_no {tk : Int} {c : Cli} (h : CliRt isNm tk c) : (10 : UInt8) ∉ lineC c := join_notin (by decide) _ (words_no h (by decide) (by decide) (by decide) (by decide) (by decide))
theorem line_split {tk : Int} {c : Cli} (h : CliRt isNm tk c) : splitB 32 (lineC c) = wordsC c := split_join _ (by simp [wordsC]) (words_no h (by decide) (by decide) (by decide) (by decide) (by decide))
theorem read_backC {tk : Int} (ht : tk ≤ 16) : ∀ (R : List Cli) (e : Edt) (f i : Nat), 1 < i → (∀ c ∈ R, CliRt isNm tk c) → (R.flatMap cliT).length < f → rdG f (R.flatMap cliT) i e = finE ⟨e.rate, e.tracks, e.cs ++ R⟩
  | [], e, f, i, hi, _, _ => by rw [rdG_end (by omega) (by rfl), List.append_nil]
  | c :: R, e, f, i, hi, h, hf => by
    have hc := h c (by simp)
    have e1 : (c :: R).flatMap cliT = lineC c ++ 10 :: R.flatMap cliT := by rw [List.flatMap_cons, cliT_line]; simp
    rw [e1] at hf ⊢
    have hn := line_no hc
    have hx := idx_cat (R.flatMap cliT) hn
    have hs : stepE i ((lineC c ++ 10 :: R.flatMap cliT).take (Lib.indexByte (lineC c ++ 10 :: R.flatMap cliT) 10).toNat) e = some ⟨e.rate, e.tracks, e.cs ++ [c]⟩ := by
      rw [hx]
      unfold stepE
      rw [if_neg (by omega)]
      simp only [Int.toNat_natCast, List.take_left']
      rw [line_split hc, cliW_of hc ht]; rfl
    rw [rdG_go hf (.inr (by simp)) (by rw [List.count_append]; simp) hs, hx]
    have e2 : (lineC c ++ 10 :: R.flatMap cliT).drop (((lineC c).length : Int).toNat + 1) = R.flatMap cliT := by
      rw [Int.toNat_natCast, List.drop_append]; simp
    have hf2 : (R.flatMap cliT).length < f - 1 := by rw [List.length_append, List.length_cons] at hf; omega
    rw [e2, read_backC ht R ⟨e.rate, e.tracks, e.cs ++ [c]⟩ (f - 1) (i + 1) (by omega) (fun x hx => h x (by simp [hx])) hf2]
    simp
theorem text_backE {e : Edt} (h : ediF isNm 1000000 e = 0) (hl : (ediT e).length ≤ 500000) : readE (ediT e) = (e, 0, 0) := by
  have hr := ediF_ok h
  obtain ⟨⟨a1, a2⟩, ⟨b1, b2⟩, _, hc⟩ := hr
  unfold readE
  rw [if_neg (by omega)]
  have e1 := ediT_line e
  have hn : (10 : UInt8) ∉ lineH e.rate e.tracks := join_notin (by decide) _ (fun l hl => by
    simp only [List.mem_cons, List.not_mem_nil, or_false] at hl
    rcases hl with rfl | rfl | rfl
    · decide
    · exact itoa_digs (by omega) (by decide)
    · exact itoa_digs (by omega) (by decide))
  have hsp : splitB 32 (lineH e.rate e.tracks) = [wEdit, Lib.itoa e.rate, Lib.itoa e.tracks] := split_join _ (by simp) (fun l hl => by
    simp only [List.mem_cons, List.not_mem_nil, or_false] at hl
    rcases hl with rfl | rfl | rfl
    · decide
    · exact itoa_digs (by omega) (by decide)
    · exact itoa_digs (by omega) (by decide))
  have hx := idx_cat (e.cs.flatMap cliT) hn
  have hf : (ediT e).length < (ediT e).length + 1 := by omega
  rw [e1] at hf ⊢
  have hs : stepE 1 ((lineH e.rate e.tracks ++ 10 :: e.cs.flatMap cliT).take (Lib.indexByte (lineH e.rate e.tracks ++ 10 :: e.cs.flatMap cliT) 10).toNat) e0 = some ⟨e.rate, e.tracks, []⟩ := by
    rw [hx]
    unfold stepE
    rw [if_pos rfl]
    simp only [Int.toNat_natCast, List.take_left']
    rw [hsp]
    unfold hdW
    rw [if_neg (by simp)]
    simp only [List.drop_succ_cons, List.drop_zero, numsE, numE_itoa (show (0 : Int) ≤ e.rate by omega) (by omega), numE_itoa (show (0 : Int) ≤ e.tracks by omega) (by omega), Option.map_some, List.getD_cons_zero, List.getD_cons_succ]
    have k : ∀ z : Int, 0 ≤ z → ((z.toNat : Nat) : Int) = z := fun z hz => by omega
    rw [k _ (by omega), k _ (by omega)]; rfl
  rw [rdG_go hf (.inl rfl) (by rw [List.count_append]; simp) hs, hx]
  have e2 : (lineH e.rate e.tracks ++ 10 :: e.cs.flatMap cliT).drop (((lineH e.rate e.tracks).length : Int).toNat + 1) = e.cs.flatMap cliT := by
    rw [Int.toNat_natCast, List.drop_append]; simp
  rw [e2, read_backC b2 e.cs ⟨e.rate, e.tracks, []⟩ _ 2 (by omega) hc (by simp; omega)]
  unfold finE
  simp only [List.nil_append]
  rw [if_pos h]
/- the other way round -/
theorem cliW_back {w : List (List UInt8)} {c : Cli} (h : cliW w = some c) : w = wordsC c := by
  unfold cliW at h
  split at h
  · cases h
  · rename_i hc
    cases hn : numsE ((w.drop 2).take 5) with
    | none => rw [hn] at h; cases h
    | some ns =>
      rw [hn] at h
      cases hp : pntsE (w.drop 7) with
      | none => simp only [hp, Option.map_none] at h; cases h
      | some ps =>
        simp only [hp, Option.map_some] at h
        injection h with h
        subst h
        obtain ⟨i1, _⟩ := nums_back hn
        obtain ⟨j1, _⟩ := pnts_back hp
        match w, hc, i1, j1 with
        | a :: b :: n0 :: n1 :: n2 :: n3 :: n4 :: r, hc, i1, j1 =>
          simp only [List.drop_succ_cons, List.drop_zero, List.take_succ_cons, List.take_zero] at i1 j1
          have hl := congrArg List.length i1
          simp only [List.length_cons, List.length_nil, List.length_map] at hl
          match ns, i1, hl with
          | [m0, m1, m2, m3, m4], i1, _ =>
            simp only [List.map_cons, List.map_nil, List.cons.injEq, and_true] at i1
            obtain ⟨k0, k1, k2, k3, k4⟩ := i1
            have hw : a = wClip := by
              simp only [not_or] at hc
              have := hc.2.1
              simpa using this
            simp only [wordsC, List.getD_cons_zero, List.getD_cons_succ, mkE_list]
            rw [hw, k0, k1, k2, k3, k4, j1]; rfl
        | [], hc, _, _ => exact absurd (.inl (by simp)) hc
        | [_], hc, _, _ => exact absurd (.inl (by simp)) hc
        | [_, _], hc, _, _ => exact absurd (.inl (by simp)) hc
        | [_, _, _], hc, _, _ => exact absurd (.inl (by simp)) hc
        | [_, _, _, _], hc, _, _ => exact absurd (.inl (by simp)) hc
        | [_, _, _, _, _], hc, _, _ => exact absurd (.inl (by simp)) hc
        | [_, _, _, _, _, _], hc, _, _ => exact absurd (.inl (by simp)) hc
theorem hdW_back {w : List (List UInt8)} {p : Nat × Nat} (h : hdW w = some p) : w = [wEdit, Lib.itoa (p.1 : Int), Lib.itoa (p.2 : Int)] := by
  unfold hdW at h
  split at h
  · cases h
  · rename_i hc
    simp only [not_or] at hc
    obtain ⟨h3, h0⟩ := hc
    match w, h3, h0 with
    | [a, b, c], _, h0 =>
      cases hn : numsE ([a, b, c].drop 1) with
      | none => rw [hn] at h; cases h
      | some ns =>
        rw [hn] at h
        injection h with h
        obtain ⟨i1, _⟩ := nums_back hn
        simp only [List.drop_succ_cons, List.drop_zero] at i1
        have hl := congrArg List.length i1
        simp only [List.length_cons, List.length_nil, List.length_map] at hl
        match ns, i1, hl with
        | [m0, m1], i1, _ =>
          simp only [List.map_cons, List.map_nil, List.cons.injEq, and_true] at i1
          subst h
          simp only [List.getD_cons_zero, List.getD_cons_succ]
          have : a = wEdit := by simpa using h0
          rw [this, i1.1, i1.2]
    | [], h3, _ => exact absurd (by simp) h3
    | [_], h3, _ => exact absurd (by simp) h3
    | [_, _], h3, _ => exact absurd (by simp) h3
    | _ :: _ :: _ :: _ :: _, h3, _ => exact absurd (by simp) h3
/-- a text that is read is the text of what is read -/
theorem rdG_back : ∀ (f : Nat) (t : List UInt8) (i : Nat) (e x : Edt) (n : Nat), 1 < i → t.length < f → rdG f t i e = (x, n, 0) → ediT x = ediT e ++ t ∧ ediF isNm 1000000 x = 0
  | 0, _, _, _, _, _, _, hf, _ => by omega
  | f + 1, t, i, e, x, n, hi, hf, h => by
    by_cases ht : t.length = 0
    · rw [rdG_end (by omega) ht] at h
      unfold finE at h
      split at h
      · rename_i h0
        injection h with h1 h2
        subst h1
        rw [List.eq_nil_of_length_eq_zero ht, List.append_nil]
        exact ⟨rfl, h0⟩
      · rename_i h0
        simp only [Prod.mk.injEq] at h
        exact absurd h.2.2 h0
    · by_cases hc : t.count 10 = 0
      · rw [rdG_no hf (.inr ht) hc] at h
        simp only [Prod.mk.injEq] at h
        omega
      · cases hs : stepE i (t.take (Lib.indexByte t 10).toNat) e with
        | none =>
          rw [rdG_bad hf (.inr ht) hs] at h
          simp only [Prod.mk.injEq] at h
          omega
        | some e' =>
          rw [rdG_go hf (.inr ht) hc hs] at h
          have hcut : (cutE 10 t).2.2 = true := by unfold cutE; rw [if_neg hc]
          have hb := cut_back hcut
          unfold cutE at hb
          rw [if_neg hc] at hb
          simp only at hb
          have hdl : (t.drop ((Lib.indexByte t 10).toNat + 1)).length < f := by rw [List.length_drop]; omega
          obtain ⟨k1, k2⟩ := rdG_back f _ (i + 1) _ _ _ (by omega) hdl h
          refine ⟨?_, k2⟩
          rw [k1]
          unfold stepE at hs
          rw [if_neg (by omega)] at hs
          cases hw : cliW (splitB 32 (t.take (Lib.indexByte t 10).toNat)) with
          | none => rw [hw] at hs; cases hs
          | some c =>
            rw [hw] at hs
            injection hs with hs
            subst hs
            have h1 := cliW_back hw
            have h2 : lineC c = t.take (Lib.indexByte t 10).toNat := by unfold lineC; rw [← h1, join_split]
            have h3 : ediT ⟨e.rate, e.tracks, e.cs ++ [c]⟩ = ediT e ++ (lineC c ++ [10]) := by
              rw [ediT_line, ediT_line, List.flatMap_append]
              simp [cliT_line]
            rw [h3, h2]
            conv => rhs; rw [hb]
            simp
theorem read_text {t : List UInt8} {x : Edt} {n : Nat} (h : readE t = (x, n, 0)) : txtF isNm 1000000 x = (t, 0) := by
  unfold readE at h
  split at h
  · simp only [Prod.mk.injEq] at h; omega
  · rename_i hl
    have hf : t.length < t.length + 1 := by omega
    by_cases hc : t.count 10 = 0
    · rw [rdG_no hf (.inl rfl) hc] at h
      simp only [Prod.mk.injEq] at h
      omega
    · cases hs : stepE 1 (t.take (Lib.indexByte t 10).toNat) e0 with
      | none =>
        rw [rdG_bad hf (.inl rfl) hs] at h
        simp only [Prod.mk.injEq] at h
        omega
      | some e' =>
        rw [rdG_go hf (.inl rfl) hc hs] at h
        have hcut : (cutE 10 t).2.2 = true := by unfold cutE; rw [if_neg hc]
        have hb := cut_back hcut
        unfold cutE at hb
        rw [if_neg hc] at hb
        simp only at hb
        have hpos : 0 < t.length := by
          rcases Nat.eq_zero_or_pos t.length with e | e
          · rw [List.eq_nil_of_length_eq_zero e] at hc; simp at hc
          · exact e
        obtain ⟨k1, k2⟩ := rdG_back t.length _ 2 _ _ _ (by omega) (by rw [List.length_drop]; omega) h
        unfold stepE at hs
        rw [if_pos rfl] at hs
        cases hw : hdW (splitB 32 (t.take (Lib.indexByte t 10).toNat)) with
        | none => rw [hw] at hs; cases hs
        | some p =>
          rw [hw] at hs
          injection hs with hs
          subst hs
          have h1 := hdW_back hw
          have h2 : lineH (p.1 : Int) (p.2 : Int) = t.take (Lib.indexByte t 10).toNat := by unfold lineH; rw [← h1, join_split]
          have h3 : ediT x = t := by
            rw [k1, ediT_line]
            simp only [e0, List.flatMap_nil]
            rw [h2]
            conv => rhs; rw [hb]
            simp
          unfold txtF
          rw [k2, if_neg (by omega), h3, if_neg hl]
end Go.Proofs.YtpiiickhfcjnmaaGreatDoor
/- Plain: a name is at most 40 bytes long. -/
namespace Go.Proofs.YtpiiickhfcjnmaaGreatDoor
open Go.RowKit Go.Dw

theorem isNm_len (s : ByteArray) (h : isNm s = true) : s.size ≤ 40 := by
  unfold isNm at h
  split at h
  · simp only [Bool.and_eq_true, decide_eq_true_eq] at h; exact h.1.1
  · cases h
end Go.Proofs.YtpiiickhfcjnmaaGreatDoor
