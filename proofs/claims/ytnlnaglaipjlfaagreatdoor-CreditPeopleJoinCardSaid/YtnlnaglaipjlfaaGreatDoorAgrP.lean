/- Plain: the words of a name; whether names agree. -/
import Derived.Test.YtnlnaglaipjlfaaGreatDoorBase
import Derived.Lib.Bytealg
namespace Go.Dw
/-- a letter in small -/
def lowB (c : UInt8) : UInt8 := if 65 ≤ c ∧ c ≤ 90 then c + 32 else c
/-- the pieces between the bytes z -/
def splitB (z : UInt8) : List UInt8 → List (List UInt8)
  | [] => [[]]
  | c :: r => if c = z then [] :: splitB z r else match splitB z r with
    | [] => [[c]]
    | p :: q => (c :: p) :: q
theorem splitB_ne (z : UInt8) : ∀ l, splitB z l ≠ []
  | [] => by simp [splitB]
  | c :: r => by
    unfold splitB
    split
    · simp
    · split <;> simp
/-- without a point at the end -/
def trimDot (l : List UInt8) : List UInt8 := if l.getLast? = some 46 then l.dropLast else l
def wordsP (l : List UInt8) : List (List UInt8) := ((splitB 32 (l.map lowB)).map trimDot).filter (fun w => !w.isEmpty)
def wordsR (l : List UInt8) : List (List UInt8) := ((splitB 32 l).map (fun w => (trimDot w).map lowB)).filter (fun w => !w.isEmpty)
theorem low_blank (c : UInt8) : lowB c = 32 ↔ c = 32 := by
  have : ∀ n : Fin 256, lowB (UInt8.ofNat n.val) = 32 ↔ UInt8.ofNat n.val = 32 := by decide +kernel
  have h := this ⟨c.toNat, c.toNat_lt⟩
  simpa using h
theorem low_dot (c : UInt8) : lowB c = 46 ↔ c = 46 := by
  have : ∀ n : Fin 256, lowB (UInt8.ofNat n.val) = 46 ↔ UInt8.ofNat n.val = 46 := by decide +kernel
  have h := this ⟨c.toNat, c.toNat_lt⟩
  simpa using h
theorem split_low : ∀ l, splitB 32 (l.map lowB) = (splitB 32 l).map (List.map lowB)
  | [] => by simp [splitB]
  | c :: r => by
    simp only [List.map_cons, splitB]
    by_cases h : c = 32
    · rw [if_pos ((low_blank c).2 h), if_pos h, split_low r]; simp
    · rw [if_neg (fun hh => h ((low_blank c).1 hh)), if_neg h, split_low r]
      have := splitB_ne 32 r
      cases hs : splitB 32 r with
      | nil => exact absurd hs this
      | cons p q => simp
theorem trim_low (l : List UInt8) : trimDot (l.map lowB) = (trimDot l).map lowB := by
  unfold trimDot
  rw [List.getLast?_map]
  by_cases h : l.getLast? = some 46
  · rw [if_pos h, h, if_pos (by rfl), List.map_dropLast]
  · rw [if_neg h, if_neg]
    intro hh
    cases hl : l.getLast? with
    | none => rw [hl] at hh; cases hh
    | some c =>
      rw [hl] at hh h
      simp only [Option.map_some, Option.some.injEq] at hh
      exact h (by rw [(low_dot c).1 hh])
theorem words_eq (l : List UInt8) : wordsP l = wordsR l := by
  unfold wordsP wordsR
  rw [split_low, List.map_map]
  congr 2
  funext w
  exact trim_low w
/-- one word may stand for another one -/
def wordOk (x y : List UInt8) : Bool := decide (x = y) || (decide (x.length = 1) && x.isPrefixOf y) || (decide (y.length = 1) && y.isPrefixOf x)
theorem wordOk_comm (x y : List UInt8) : wordOk x y = wordOk y x := by
  unfold wordOk
  rw [show decide (x = y) = decide (y = x) from by simp [eq_comm]]
  cases decide (y = x) <;> cases (decide (x.length = 1) && x.isPrefixOf y) <;> cases (decide (y.length = 1) && y.isPrefixOf x) <;> rfl
def allOk : List (List UInt8) → List (List UInt8) → Bool
  | x :: a, y :: b => wordOk x y && allOk a b
  | _, _ => true
theorem allOk_comm : ∀ a b, allOk a b = allOk b a
  | [], [] => rfl
  | [], _ :: _ => rfl
  | _ :: _, [] => rfl
  | x :: a, y :: b => by unfold allOk; rw [wordOk_comm, allOk_comm a b]
def agreeW (a b : List (List UInt8)) : Bool := !a.isEmpty && decide (a.length = b.length) && allOk a b
theorem agreeW_comm (a b : List (List UInt8)) : agreeW a b = agreeW b a := by
  unfold agreeW
  rw [allOk_comm]
  by_cases h : a.length = b.length
  · have : a.isEmpty = b.isEmpty := by cases a <;> cases b <;> simp_all
    rw [this, h]
  · have h' : ¬ b.length = a.length := fun hh => h hh.symm
    simp [h, h']
def agr (a b : List UInt8) : Bool := agreeW (wordsP a) (wordsP b)
theorem agr_comm (a b : List UInt8) : agr a b = agr b a := agreeW_comm _ _
theorem allOk_at : ∀ {a b : List (List UInt8)} (k : Nat), a.length = b.length → (∀ j, j < k → wordOk (a.getD j []) (b.getD j []) = true) → allOk a b = allOk (a.drop k) (b.drop k)
  | [], [], k, _, _ => by simp
  | [], _ :: _, _, h, _ => by simp at h
  | _ :: _, [], _, h, _ => by simp at h
  | x :: a, y :: b, 0, _, _ => by simp
  | x :: a, y :: b, k + 1, h, hj => by
    have h0 := hj 0 (by omega)
    simp only [List.getD_cons_zero] at h0
    rw [allOk, h0, Bool.true_and, List.drop_succ_cons, List.drop_succ_cons]
    exact allOk_at k (by simpa using h) (fun j hjk => by have := hj (j + 1) (by omega); simpa using this)
theorem agree_bad {a b : List (List UInt8)} {k : Nat} (hl : a.length = b.length) (hk : k < a.length) (hj : ∀ j, j < k → wordOk (a.getD j []) (b.getD j []) = true) (hb : wordOk (a.getD k []) (b.getD k []) = false) : agreeW a b = false := by
  have hk2 : k < b.length := by omega
  unfold agreeW
  rw [allOk_at k hl hj, List.drop_eq_getElem_cons hk, List.drop_eq_getElem_cons hk2, allOk]
  rw [List.getD_eq_getElem?_getD, List.getElem?_eq_getElem hk, List.getD_eq_getElem?_getD, List.getElem?_eq_getElem hk2] at hb
  simp only [Option.getD_some] at hb
  rw [hb]; simp
theorem agree_ok {a b : List (List UInt8)} (hl : a.length = b.length) (h0 : a.length ≠ 0) (hj : ∀ j, j < a.length → wordOk (a.getD j []) (b.getD j []) = true) : agreeW a b = true := by
  unfold agreeW
  rw [allOk_at a.length hl hj]
  have : a ≠ [] := fun h => h0 (by rw [h]; rfl)
  simp [hl, this, List.drop_of_length_le, allOk]
theorem agree_len {a b : List (List UInt8)} (h : a.length = 0 ∨ a.length ≠ b.length) : agreeW a b = false := by
  unfold agreeW
  rcases h with h | h
  · have : a = [] := List.eq_nil_of_length_eq_zero h
    simp [this]
  · simp [h]
/-- the first piece, where there is a byte z -/
theorem split_at (z : UInt8) : ∀ (l : List UInt8), 0 < l.count z → ∃ m : Nat, Lib.indexByte l z = (m : Int) ∧ m < l.length ∧ splitB z l = l.take m :: splitB z (l.drop (m + 1)) ∧ l.count z = (l.drop (m + 1)).count z + 1
  | [], h => by simp at h
  | c :: r, h => by
    by_cases hc : c = z
    · subst hc
      exact ⟨0, by simp [Lib.indexByte], by simp, by simp [splitB], by simp⟩
    · have hr : 0 < r.count z := by rwa [List.count_cons_of_ne hc] at h
      obtain ⟨m, h1, h2, h3, h4⟩ := split_at z r hr
      refine ⟨m + 1, ?_, by simp; omega, ?_, ?_⟩
      · have e1 : (c == z) = false := by simpa using hc
        have e2 : ((m : Int) == -1) = false := by rw [beq_eq_false_iff_ne]; omega
        unfold Lib.indexByte
        rw [e1, h1, e2]; rfl
      · simp only [splitB, if_neg hc, h3, List.take_succ_cons, List.drop_succ_cons]
      · rw [List.count_cons_of_ne hc, h4, List.drop_succ_cons]
theorem split_none (z : UInt8) : ∀ (l : List UInt8), l.count z = 0 → splitB z l = [l]
  | [], _ => rfl
  | c :: r, h => by
    have hc : c ≠ z := by
      intro hh; subst hh; simp at h
    rw [List.count_cons_of_ne hc] at h
    simp only [splitB, if_neg hc, split_none z r h]
theorem split_len (z : UInt8) : ∀ (l : List UInt8), (splitB z l).length = l.count z + 1
  | [] => by simp [splitB]
  | c :: r => by
    by_cases hc : c = z
    · subst hc; simp [splitB, split_len c r]
    · rw [List.count_cons_of_ne hc, ← split_len z r]
      simp only [splitB, if_neg hc]
      have := splitB_ne z r
      cases hs : splitB z r with
      | nil => exact absurd hs this
      | cons p q => simp
end Go.Dw
