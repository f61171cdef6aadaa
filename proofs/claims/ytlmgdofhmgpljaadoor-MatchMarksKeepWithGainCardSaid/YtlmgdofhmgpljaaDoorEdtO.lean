/- Plain: what right edits are, and how long their text is. -/
import Derived.Test.YtlmgdofhmgpljaaDoorEdtP
import Derived.Lib.ItoaLen
namespace Go.Dw
open Go.RowKit

theorem firstNZ_zer {f : Nat → Int} : ∀ {n : Nat}, firstNZ f n = 0 → ∀ j, j < n → f j = 0 := fun {n} h => by
  refine Classical.byContradiction fun hc => ?_
  have hex : ∃ k, k < n ∧ f k ≠ 0 := by
    refine Classical.byContradiction fun hn => hc fun j hj => ?_
    refine Classical.byContradiction fun h0 => hn ⟨j, hj, h0⟩
  obtain ⟨k, hk, h0⟩ := hex
  have key : ∀ m, m ≤ n → (∀ j, j < m → f j = 0) := by
    intro m
    induction m with
    | zero => intro _ j hj; omega
    | succ m ih =>
      intro hm j hj
      rcases Nat.lt_or_ge j m with h1 | h1
      · exact ih (by omega) j h1
      · have e : j = m := by omega
        subst e
        refine Classical.byContradiction fun h2 => ?_
        have := firstNZ_bad (ih (by omega)) h2 (show j < n by omega)
        rw [h] at this
        exact h2 this.symm
  exact h0 (key n (Nat.le_refl _) k hk)
structure PntR (ln : Int) (p : Pnt) : Prop where
  a : 0 ≤ p.at_ ∧ p.at_ < ln
  r : ratF p.n p.d = 0
  n : (boT p.n).length ≤ 40
  d : p.d.data.toList.length ≤ 40
structure CliRt (nm : ByteArray → Bool) (tk : Int) (c : Cli) : Prop where
  m : nm c.m = true
  r : (0 ≤ c.ch ∧ c.ch < 16) ∧ (0 ≤ c.fr ∧ c.fr ≤ 10000000000000) ∧ (0 ≤ c.tr ∧ c.tr < tk) ∧ (0 ≤ c.at_ ∧ c.at_ < 100000) ∧ (1 ≤ c.ln ∧ c.ln ≤ 100000 - c.at_) ∧ c.fr + c.ln ≤ 10000000000000
  e0 : 0 < c.e.length
  e1 : c.e.length ≤ 50
  p : ∀ p ∈ c.e, PntR c.ln p
structure EdiRt (nm : ByteArray → Bool) (mx : Int) (e : Edt) : Prop where
  r : 1 ≤ e.rate ∧ e.rate ≤ mx
  t : 1 ≤ e.tracks ∧ e.tracks ≤ 16
  l : e.cs.length ≤ 300
  c : ∀ c ∈ e.cs, CliRt nm e.tracks c
theorem pntF_ok {ln : Int} {e : List Pnt} {i : Nat} (h : pntF ln e i = 0) : PntR ln (e.getD i dPnt) := by
  unfold pntF at h
  split at h
  · omega
  · rename_i h1
    split at h
    · omega
    · split at h
      · rename_i h3; exact absurd h h3
      · rename_i h3
        split at h
        · omega
        · rename_i h4
          exact ⟨by omega, by omega, by omega, by omega⟩
theorem envF_ok {ln : Int} {e : List Pnt} (h : envF ln e = 0) : 0 < e.length ∧ e.length ≤ 50 ∧ ∀ p ∈ e, PntR ln p := by
  unfold envF at h
  split at h
  · omega
  · split at h
    · omega
    · refine ⟨by omega, by omega, fun p hp => ?_⟩
      obtain ⟨k, hk, rfl⟩ := List.mem_iff_getElem.1 hp
      have := pntF_ok (firstNZ_zer h k hk)
      rw [List.getD_eq_getElem?_getD, List.getElem?_eq_getElem hk] at this
      exact this
theorem cliF_ok {nm : ByteArray → Bool} {tk : Int} {c : Cli} (h : cliF nm tk c = 0) : CliRt nm tk c := by
  unfold cliF at h
  split at h
  · omega
  · rename_i h1
    split at h
    · omega
    · rename_i h2
      obtain ⟨a, b, d⟩ := envF_ok h
      have h3 : cliR tk c = true := by simpa using h2
      unfold cliR at h3
      exact ⟨by simpa using h1, of_decide_eq_true h3, a, b, d⟩
theorem ediF_ok {nm : ByteArray → Bool} {mx : Int} {e : Edt} (h : ediF nm mx e = 0) : EdiRt nm mx e := by
  unfold ediF at h
  split at h
  · omega
  · split at h
    · omega
    · refine ⟨by omega, by omega, by omega, fun c hc => ?_⟩
      obtain ⟨k, hk, rfl⟩ := List.mem_iff_getElem.1 hc
      have h2 := firstNZ_zer h k hk
      unfold ediK at h2
      rw [List.getD_eq_getElem?_getD, List.getElem?_eq_getElem hk, Option.getD_some] at h2
      split at h2
      · rename_i h3; exact absurd h2 h3
      · rename_i h3
        exact cliF_ok (by simpa using h3)
theorem boT_ge (s : ByteArray) : s.size ≤ (boT s).length + 1 := by
  unfold boT Lib.trimPrefix
  have hl : s.data.toList.length = s.size := by rw [Array.length_toList]; rfl
  split
  · rw [List.length_drop, hl]; simp; omega
  · rw [hl]; omega
theorem itoa_le (n : Int) (h : -9223372036854775808 ≤ n ∧ n ≤ 9223372036854775807) : (Lib.itoa n).length ≤ 21 := Lib.itoa_length_le n h.1 h.2
theorem ba_len (s : ByteArray) : s.data.toList.length = s.size := by rw [Array.length_toList]; rfl
theorem pntT_len {ln : Int} {p : Pnt} (h : PntR ln p) (hl : ln ≤ 100000) : (pntT p).length ≤ 110 := by
  unfold pntT
  have h1 := itoa_le p.at_ (by have := h.a; omega)
  have h2 := boT_ge p.n
  have h3 := h.n
  have h4 := h.d
  have h5 := ba_len p.n
  simp only [List.length_append, List.length_cons, List.length_nil]
  omega
theorem flat_le {α : Type} (f : α → List UInt8) (n : Nat) : ∀ (l : List α), (∀ x ∈ l, (f x).length ≤ n) → (l.flatMap f).length ≤ l.length * n
  | [], _ => by simp
  | x :: l, h => by
    rw [List.flatMap_cons, List.length_append, List.length_cons, Nat.succ_mul]
    have := flat_le f n l (fun y hy => h y (by simp [hy]))
    have := h x (by simp)
    omega
theorem cliT_len {nm : ByteArray → Bool} {tk : Int} {c : Cli} (hn : ∀ s, nm s = true → s.size ≤ 40) (h : CliRt nm tk c) (ht : tk ≤ 16) : (cliT c).length ≤ 6000 := by
  unfold cliT
  obtain ⟨r1, r2, r3, r4, r5, r6⟩ := h.r
  have h0 := hn _ h.m
  have h1 := itoa_le c.ch (by omega)
  have h2 := itoa_le c.fr (by omega)
  have h3 := itoa_le c.tr (by omega)
  have h4 := itoa_le c.at_ (by omega)
  have h5 := itoa_le c.ln (by omega)
  have h6 := flat_le pntT 110 c.e (fun p hp => pntT_len (h.p p hp) (by omega))
  have h7 := ba_len c.m
  have h8 := h.e1
  have h9 : c.e.length * 110 ≤ 50 * 110 := Nat.mul_le_mul_right _ h8
  simp only [List.length_append, List.length_cons, List.length_nil]
  omega
theorem take_flat_le {α : Type} (f : α → List UInt8) (n : Nat) (l : List α) (k : Nat) (h : ∀ x ∈ l, (f x).length ≤ n) : ((l.take k).flatMap f).length ≤ l.length * n := by
  have h1 := flat_le f n (l.take k) (fun x hx => h x (List.mem_of_mem_take hx))
  have h2 : (l.take k).length * n ≤ l.length * n := Nat.mul_le_mul_right _ (by rw [List.length_take]; omega)
  omega
end Go.Dw
