/- Plain: what is cut out of marks is found in them, without a bit that differs. -/
import Derived.Test.YtdfoehifklngoaaDoorHitP
namespace Go.Proofs.YtdfoehifklngoaaDoor
open Go.RowKit Go.Dw

theorem popN_zero : ∀ k : Fin 256, popN 8 k.val = 0 → k.val = 0 := by decide +kernel
theorem bd_self (x : Int) : bd x x = 0 := by unfold bd; rw [Nat.xor_self]; rfl
theorem bd_zero {x y : Int} (hx : okM x = true) (hy : okM y = true) (h : bd x y = 0) : x = y := by
  have hx := okM_t hx
  have hy := okM_t hy
  unfold bd at h
  have h1 : x.toNat < 256 := by omega
  have h2 : y.toNat < 256 := by omega
  have h3 := popN_zero ⟨x.toNat ^^^ y.toNat, xor_lt _ _ h1 h2⟩ (by simp only; omega)
  simp only at h3
  have h4 : x.toNat = y.toNat := by
    have : x.toNat ^^^ (x.toNat ^^^ y.toNat) = x.toNat ^^^ 0 := by rw [h3]
    rw [← Nat.xor_assoc, Nat.xor_self, Nat.zero_xor, Nat.xor_zero] at this
    exact this.symm
  omega
theorem apS_nn {d : Int} (h : 0 ≤ d) : apS d = 0 := by unfold apS; omega
/-- no bit differs just if the places agree -/
theorem apB_zero {xs ys : List Int} {d : Int} (hd : 0 ≤ d) : ∀ n : Nat, (apB xs ys d n = 0 ↔ ∀ i, i < n → bd (xs.getD (d.toNat + i) 0) (ys.getD i 0) = 0)
  | 0 => by simp [apB]
  | n + 1 => by
    have ih := apB_zero (xs := xs) (ys := ys) hd n
    have h1 := apB_le xs ys d n
    rw [apB, apS_nn hd, show ((0 + n : Nat) + d).toNat = d.toNat + n by omega, Nat.zero_add]
    have h2 := bd_rng (xs.getD (d.toNat + n) 0) (ys.getD n 0)
    constructor
    · intro h i hi
      rcases Nat.lt_or_ge i n with h3 | h3
      · exact ih.1 (by omega) i h3
      · have : i = n := by omega
        subst this; omega
    · intro h
      have h3 := ih.2 (fun i hi => h i (by omega))
      have h4 := h n (by omega)
      omega
section
variable {nm : ByteArray} {xs : List Int} {f n : Nat}
def cut (xs : List Int) (f n : Nat) : List Int := (xs.drop f).take n
theorem cut_len (h : f + n ≤ xs.length) : (cut xs f n).length = n := by simp [cut]; omega
theorem cut_at (_h : f + n ≤ xs.length) {i : Nat} (hi : i < n) : (cut xs f n).getD i 0 = xs.getD (f + i) 0 := by
  simp [cut, List.getD_eq_getElem?_getD, List.getElem?_drop, hi]
theorem apN_full (la n : Nat) (d : Int) (h1 : 0 ≤ d) (h2 : d + n ≤ la) : apN la n d = n := by unfold apN; omega
theorem apN_less (la n : Nat) (d : Int) (h : ¬ (0 ≤ d ∧ d + n ≤ la)) (hn : 1 ≤ n) : (apN la n d : Int) < n := by unfold apN; omega
theorem bet_same {nm nm2 : ByteArray} {o o2 b b2 c : Int} (hc : 0 < c) : bet ⟨nm, o, b, c⟩ ⟨nm2, o2, b2, c⟩ < 0 ↔ b < b2 := by
  have h1 : b * c < b2 * c ↔ b < b2 := ⟨fun h => by
    rcases (by omega : b < b2 ∨ b2 ≤ b) with h2 | h2
    · exact h2
    · have := Int.mul_le_mul_of_nonneg_right h2 (Int.le_of_lt hc); omega, fun h => Int.mul_lt_mul_of_pos_right h hc⟩
  have h2 : b2 * c < b * c ↔ b2 < b := ⟨fun h => by
    rcases (by omega : b2 < b ∨ b ≤ b2) with h2 | h2
    · exact h2
    · have := Int.mul_le_mul_of_nonneg_right h2 (Int.le_of_lt hc); omega, fun h => Int.mul_lt_mul_of_pos_right h hc⟩
  unfold bet cmpI orI
  simp only [h1, h2, Int.lt_irrefl, if_false]
  by_cases h3 : b < b2
  · simp [h3]
  · by_cases h4 : b2 < b
    · simp [h3, h4]
    · simp [h3, h4]
def Found (nm : ByteArray) (xs : List Int) (f n : Nat) (D : Int) (st : Bool × Ht) : Prop :=
  (D ≤ 0 ∧ st = (false, ht0)) ∨ ∃ at_ : Int, 0 ≤ at_ ∧ at_ < D ∧ at_ + n ≤ xs.length ∧ st = (true, htD nm xs (cut xs f n) at_) ∧ ((f : Int) < D → apB xs (cut xs f n) at_ n = 0 ∧ at_ ≤ f)
theorem apB_from (h : f + n ≤ xs.length) : apB xs (cut xs f n) (f : Int) n = 0 :=
  (apB_zero (by omega) n).2 fun i hi => by rw [cut_at h hi, Int.toNat_natCast]; exact bd_self _
theorem htD_cut (h : f + n ≤ xs.length) {d : Int} (h1 : 0 ≤ d) (h2 : d + n ≤ xs.length) : htD nm xs (cut xs f n) d = ⟨nm, d, apB xs (cut xs f n) d n, 8 * (n : Int)⟩ := by
  unfold htD; rw [cut_len h, apN_full _ _ _ h1 h2]
theorem found (h : f + n ≤ xs.length) (hn : 1 ≤ n) : ∀ j : Nat, j ≤ xs.length + n - 1 → Found nm xs f n (1 - (n : Int) + j) (hGo nm xs (cut xs f n) n j)
  | 0, _ => .inl ⟨by omega, rfl⟩
  | j + 1, hj => by
    have ih := found h hn j (by omega)
    have hl := cut_len h
    obtain ⟨D, hD⟩ : ∃ D : Int, 1 - (n : Int) + j = D := ⟨_, rfl⟩
    rw [hD] at ih
    have hD2 : 1 - (n : Int) + (j + 1 : Nat) = D + 1 := by omega
    rw [hD2]
    have hD3 : 1 - ((cut xs f n).length : Int) + j = D := by rw [hl]; exact hD
    by_cases hv : 0 ≤ D ∧ D + n ≤ xs.length
    · have hN : apN xs.length (cut xs f n).length D = n := by rw [hl]; exact apN_full _ _ _ hv.1 hv.2
      have hnl : ¬ (apN xs.length (cut xs f n).length (1 - ((cut xs f n).length : Int) + j) : Int) < n := by rw [hD3, hN]; omega
      rcases ih with ⟨h1, h2⟩ | ⟨a, h1, h2, h3, h4, h5⟩
      · have h0 : D = 0 := by omega
        rw [hGo_new hnl (by rw [h2]), hD3]
        refine .inr ⟨D, hv.1, by omega, hv.2, rfl, fun hf => ?_⟩
        have : D = (f : Int) := by omega
        rw [this]
        exact ⟨apB_from h, by omega⟩
      · have hb1 := htD_cut (nm := nm) h hv.1 hv.2
        have hb2 := htD_cut (nm := nm) h h1 h3
        have hb := bet_same (nm := nm) (nm2 := nm) (o := D) (o2 := a) (b := apB xs (cut xs f n) D n) (b2 := apB xs (cut xs f n) a n) (c := 8 * (n : Int)) (by omega)
        rw [← hb1, ← hb2] at hb
        have hnn := apB_le xs (cut xs f n) D n
        have hna := apB_le xs (cut xs f n) a n
        by_cases hlt : apB xs (cut xs f n) D n < apB xs (cut xs f n) a n
        · rw [hGo_bet hnl (by rw [hD3, h4]; exact hb.2 hlt), hD3]
          refine .inr ⟨D, hv.1, by omega, hv.2, rfl, fun hf => ?_⟩
          by_cases he : (f : Int) = D
          · rw [← he]; exact ⟨apB_from h, by omega⟩
          · have := (h5 (by omega)).1; omega
        · rw [hGo_old hnl (by rw [h4]) (by rw [hD3, h4]; exact fun hh => hlt (hb.1 hh))]
          refine .inr ⟨a, h1, by omega, h3, h4, fun hf => ?_⟩
          by_cases he : (f : Int) = D
          · have := apB_from h; rw [he] at this; exact ⟨by omega, by omega⟩
          · exact h5 (by omega)
    · have hsk : (apN xs.length (cut xs f n).length (1 - ((cut xs f n).length : Int) + j) : Int) < n := by rw [hD3, hl]; exact apN_less _ _ _ hv hn
      rw [hGo_skip hsk]
      rcases ih with ⟨h1, h2⟩ | ⟨a, h1, h2, h3, h4, h5⟩
      · refine .inl ⟨?_, h2⟩
        have : (n : Int) ≤ xs.length := by omega
        by_cases h0 : D = 0
        · exact absurd ⟨by omega, by omega⟩ hv
        · omega
      · exact .inr ⟨a, h1, by omega, h3, h4, fun hf => h5 (by omega)⟩
/-- the end of it -/
theorem found_end (h : f + n ≤ xs.length) (hn : 1 ≤ n) (hxs : xs.all okM = true) : ∃ a : Nat, a ≤ f ∧ a + n ≤ xs.length ∧ hEnd nm xs (cut xs f n) n = (true, ⟨nm, a, 0, 8 * (n : Int)⟩) ∧ hOk nm xs (cut xs f n) n 100 = true ∧ cut xs a n = cut xs f n := by
  have hl := cut_len h
  have hf := found (nm := nm) h hn (xs.length + n - 1) (Nat.le_refl _)
  have he : hEnd nm xs (cut xs f n) n = hGo nm xs (cut xs f n) n (xs.length + n - 1) := by unfold hEnd; rw [hl]
  rcases hf with ⟨h1, _⟩ | ⟨a, h1, h2, h3, h4, h5⟩
  · omega
  · obtain ⟨h6, h7⟩ := h5 (by omega)
    obtain ⟨k, rfl⟩ := Int.eq_ofNat_of_zero_le h1
    have hE : hEnd nm xs (cut xs f n) n = (true, ⟨nm, k, 0, 8 * (n : Int)⟩) := by rw [he, h4, htD_cut h h1 h3, h6]
    refine ⟨k, by omega, by omega, hE, ?_, ?_⟩
    · unfold hOk; rw [hE]; simp
    · have hk : k + n ≤ xs.length := by omega
      apply List.ext_getElem
      · rw [cut_len hk, hl]
      · intro i hi1 hi2
        have hi : i < n := by rw [cut_len hk] at hi1; exact hi1
        have hz := (apB_zero (xs := xs) (ys := cut xs f n) h1 n).1 h6 i hi
        rw [cut_at h hi, Int.toNat_natCast] at hz
        have q1 : xs.getD (k + i) 0 = xs[k + i]'(by omega) := by rw [List.getD_eq_getElem?_getD, List.getElem?_eq_getElem (by omega), Option.getD_some]
        have q2 : xs.getD (f + i) 0 = xs[f + i]'(by omega) := by rw [List.getD_eq_getElem?_getD, List.getElem?_eq_getElem (by omega), Option.getD_some]
        rw [q1, q2] at hz
        have := bd_zero (List.all_eq_true.1 hxs _ (List.getElem_mem _)) (List.all_eq_true.1 hxs _ (List.getElem_mem _)) hz
        simp [cut, this]
end
end Go.Proofs.YtdfoehifklngoaaDoor
