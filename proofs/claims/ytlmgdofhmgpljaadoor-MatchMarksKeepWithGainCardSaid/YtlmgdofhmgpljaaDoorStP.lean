/- Plain: the order of strings. -/
import Derived.Test.YtlmgdofhmgpljaaDoorBase
import Derived.Lib.Bytealg
namespace Go.Dw

abbrev bL := Op.bytesLess
theorem bL_irr : ∀ x : List UInt8, bL x x = false
  | [] => rfl
  | a :: x => by
    show (decide (a < a) || (a == a && bL x x)) = false
    rw [bL_irr x]; simp
theorem bL_trans : ∀ {x y z : List UInt8}, bL x y = true → bL y z = true → bL x z = true
  | _, [], _, h, _ => by simp [bL, Op.bytesLess] at h
  | _, _ :: _, [], _, h => by simp [bL, Op.bytesLess] at h
  | [], _ :: _, _ :: _, _, _ => rfl
  | a :: x, b :: y, c :: z, h1, h2 => by
    simp only [bL, Op.bytesLess, Bool.or_eq_true, Bool.and_eq_true, decide_eq_true_eq, beq_iff_eq] at h1 h2 ⊢
    rcases h1 with h1 | ⟨rfl, h1⟩
    · rcases h2 with h2 | ⟨rfl, h2⟩
      · exact .inl (UInt8.lt_trans h1 h2)
      · exact .inl h1
    · rcases h2 with h2 | ⟨rfl, h2⟩
      · exact .inl h2
      · exact .inr ⟨rfl, bL_trans (x := x) (y := y) (z := z) h1 h2⟩
theorem bL_tri : ∀ (x y : List UInt8), bL x y = true ∨ x = y ∨ bL y x = true
  | [], [] => .inr (.inl rfl)
  | [], _ :: _ => .inl rfl
  | _ :: _, [] => .inr (.inr rfl)
  | a :: x, b :: y => by
    simp only [bL, Op.bytesLess, Bool.or_eq_true, Bool.and_eq_true, decide_eq_true_eq, beq_iff_eq, List.cons.injEq]
    by_cases h1 : a < b
    · exact .inl (.inl h1)
    · by_cases h2 : b < a
      · exact .inr (.inr (.inl h2))
      · have e : a = b := by
          rw [UInt8.lt_iff_toNat_lt] at h1 h2
          exact UInt8.toNat.inj (by omega)
        subst e
        rcases bL_tri x y with h | h | h
        · exact .inl (.inr ⟨rfl, h⟩)
        · exact .inr (.inl ⟨rfl, h⟩)
        · exact .inr (.inr (.inr ⟨rfl, h⟩))
theorem cmpB_eq : ∀ (x y : List UInt8), Lib.compareBytes x y = if bL x y = true then -1 else if x = y then 0 else 1
  | [], [] => rfl
  | [], _ :: _ => rfl
  | _ :: _, [] => rfl
  | a :: x, b :: y => by
    have ih := cmpB_eq x y
    rw [Lib.compareBytes]
    simp only [bL, Op.bytesLess, Bool.or_eq_true, Bool.and_eq_true, decide_eq_true_eq, beq_iff_eq, List.cons.injEq]
    by_cases h1 : a < b
    · simp [h1]
    · by_cases h2 : b < a
      · have h3 : ¬ a = b := fun e => by subst e; exact h1 h2
        simp [h1, h2, h3]
      · have e : a = b := by
          rw [UInt8.lt_iff_toNat_lt] at h1 h2
          exact UInt8.toNat.inj (by omega)
        subst e
        simp only [h1, if_false, ih, false_or, true_and]
/-- a string lies before another one -/
def sLt (a b : ByteArray) : Prop := bL a.data.toList b.data.toList = true
instance (a b : ByteArray) : Decidable (sLt a b) := inferInstanceAs (Decidable (_ = true))
theorem sLt_irr (a : ByteArray) : ¬ sLt a a := by unfold sLt; rw [bL_irr]; simp
theorem sLt_trans {a b c : ByteArray} (h : sLt a b) (k : sLt b c) : sLt a c := bL_trans h k
theorem ba_ext {a b : ByteArray} (h : a.data.toList = b.data.toList) : a = b := by
  cases a; cases b; simp at h; congr 1
theorem sLt_tri (a b : ByteArray) : sLt a b ∨ a = b ∨ sLt b a := by
  rcases bL_tri a.data.toList b.data.toList with h | h | h
  · exact .inl h
  · exact .inr (.inl (ba_ext h))
  · exact .inr (.inr h)
theorem sLt_asymm {a b : ByteArray} (h : sLt a b) : ¬ sLt b a := fun k => sLt_irr a (sLt_trans h k)
/-- as Go's '<=' answers -/
theorem leS_eq (a b : ByteArray) : (Op.bytesLess a.toList b.toList || a.toList == b.toList) = decide (¬ sLt b a) := by
  rw [ByteArray.toList_eq, ByteArray.toList_eq]
  rcases sLt_tri a b with h | rfl | h
  · have h2 := sLt_asymm h
    unfold sLt at h
    simp only [bL] at h
    rw [h]; simp [h2]
  · have := sLt_irr a
    simp [this]
  · have h2 := sLt_asymm h
    have h3 : ¬ a.data.toList = b.data.toList := fun e => by
      have := ba_ext e
      subst this
      exact sLt_irr a h
    unfold sLt at h2
    simp only [bL] at h2
    have h4 : Op.bytesLess a.data.toList b.data.toList = false := by simpa using h2
    have h5 : ¬ a.data = b.data := fun e => h3 (by rw [e])
    rw [h4]; simp [h, h5]
/-- as strings.Compare answers -/
def cmpS (a b : ByteArray) : Int := Lib.compareBytes a.data.toList b.data.toList
theorem cmpS_lt {a b : ByteArray} : cmpS a b < 0 ↔ sLt a b := by
  unfold cmpS sLt; rw [cmpB_eq]
  by_cases h : bL a.data.toList b.data.toList = true
  · simp [h]
  · simp [h]; split <;> omega
theorem cmpS_eq {a b : ByteArray} : cmpS a b = 0 ↔ a = b := by
  unfold cmpS; rw [cmpB_eq]
  constructor
  · intro h
    by_cases h1 : bL a.data.toList b.data.toList = true
    · simp [h1] at h
    · by_cases h2 : a.data.toList = b.data.toList
      · exact ba_ext h2
      · simp [h1, h2] at h
  · rintro rfl
    simp [bL_irr]
end Go.Dw
