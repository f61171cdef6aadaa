/- Plain: the takes that Choose finds, and what they are worth. -/
import Derived.Test.YtdgkchdobmhpnaaChooseQ
namespace Go.Proofs.Ytdgkchdobmhpnaa
open Go.RowKit Go.Dw

/-- the first best take of a table: after t takes -/
def fb (rows : List (List Int)) (M : Nat) : Nat → Nat × Int
  | 0 => (0, NONE)
  | t + 1 => if (fb rows M t).2 < en rows t M then (t, en rows t M) else fb rows M t
theorem fb_some (rows : List (List Int)) (M : Nat) : ∀ T, (fb rows M T).2 = NONE ∨ ((fb rows M T).1 < T ∧ en rows (fb rows M T).1 M = (fb rows M T).2)
  | 0 => .inl rfl
  | t + 1 => by
    unfold fb
    split
    · exact .inr ⟨by simp, rfl⟩
    · rcases fb_some rows M t with h | h
      · exact .inl h
      · exact .inr ⟨by omega, h.2⟩
theorem fb_ge (rows : List (List Int)) (M : Nat) : ∀ T u, u < T → en rows u M ≤ (fb rows M T).2
  | t + 1, u, h => by
    unfold fb
    by_cases he : u = t
    · subst he; split <;> (try simp only) <;> omega
    · have := fb_ge rows M t u (by omega)
      split <;> (try simp only) <;> omega
theorem fb_lt (rows : List (List Int)) (M : Nat) : ∀ T, 0 < T → (fb rows M T).1 < T
  | t + 1, _ => by
    unfold fb
    split
    · simp
    · cases t with
      | zero => simp [fb]
      | succ t => have := fb_lt rows M (t + 1) (by omega); omega
/-- the least take that leads on -/
def nu (rows : List (List Int)) (cost : Int) (t c T : Nat) (want : Int) : Nat := ((List.range T).find? fun u => thn rows cost t c u == want).getD 0
theorem nu_eq {rows : List (List Int)} {cost : Int} {t c T u : Nat} {want : Int} (hu : u < T) (he : thn rows cost t c u = want) (hn : ∀ v, v < u → thn rows cost t c v ≠ want) : nu rows cost t c T want = u := by
  unfold nu
  have : (List.range T).find? (fun u => thn rows cost t c u == want) = some u := by
    rw [List.find?_range_eq_some]
    exact ⟨by simp [he], by simpa using hu, fun j hj => by simp [hn j hj]⟩
  rw [this]; rfl
/-- the take and the cuts that are left, section by section -/
def stp (T M : Nat) (cost : Int) (pts : List (List Int)) : Nat → Nat × Nat
  | 0 => ((fb (tb T M cost pts 0) M T).1, M)
  | j + 1 =>
    let t := (stp T M cost pts j).1
    let c := (stp T M cost pts j).2
    let u := nu (tb T M cost pts (j + 1)) cost t c T (en (tb T M cost pts j) t c - (pts.getD j []).getD t 0)
    (u, if u = t then c else c - 1)
def outT (T M : Nat) (cost : Int) (pts : List (List Int)) (k : Nat) : List Int := (List.range k).map fun j => ((stp T M cost pts j).1 : Int)
theorem outT_succ (T M : Nat) (cost : Int) (pts : List (List Int)) (k : Nat) : outT T M cost pts (k + 1) = outT T M cost pts k ++ [((stp T M cost pts k).1 : Int)] := by
  simp [outT, List.range_succ]
theorem outT_len (T M : Nat) (cost : Int) (pts : List (List Int)) (k : Nat) : (outT T M cost pts k).length = k := by simp [outT]
theorem outT_at (T M : Nat) (cost : Int) (pts : List (List Int)) (k j : Nat) (h : j < k) : (outT T M cost pts k).getD j 0 = ((stp T M cost pts j).1 : Int) := by
  rw [List.getD_eq_getElem?_getD, outT, List.getElem?_map, List.getElem?_range h]; rfl

/-- what holds of the state at section j -/
def StOk (T M : Nat) (cost : Int) (pts : List (List Int)) (val : Int) (n j : Nat) : Prop :=
  (stp T M cost pts j).1 < T ∧ (stp T M cost pts j).2 ≤ M ∧ en (tb T M cost pts j) (stp T M cost pts j).1 (stp T M cost pts j).2 ≠ NONE ∧
  0 ≤ (pts.getD j []).getD (stp T M cost pts j).1 0 ∧
  sumTo pts (outT T M cost pts n) j + en (tb T M cost pts j) (stp T M cost pts j).1 (stp T M cost pts j).2 - cost * ((M : Int) - ((stp T M cost pts j).2 : Int)) = val ∧
  cutsTo (outT T M cost pts n) (j + 1) = (M : Int) - ((stp T M cost pts j).2 : Int)
theorem en_pos {T M : Nat} {cost : Int} {pts : List (List Int)} {s t c : Nat} (hs : s < pts.length) (ht : t < T) (hc : c ≤ M) (h : en (tb T M cost pts s) t c ≠ NONE) :
    0 ≤ (pts.getD s []).getD t 0 ∧ (s + 1 = pts.length → en (tb T M cost pts s) t c = (pts.getD s []).getD t 0) ∧
    (s + 1 < pts.length → vmaxT (tb T M cost pts (s + 1)) cost t c T ≠ NONE ∧ en (tb T M cost pts s) t c = vmaxT (tb T M cost pts (s + 1)) cost t c T + (pts.getD s []).getD t 0) := by
  rw [en_tb hs ht hc] at h ⊢
  unfold cellV at h ⊢
  by_cases hb : (pts.getD s []).getD t 0 < 0 ∨ (if (decide (s + 1 = pts.length)) = true then 0 else vmaxT (tb T M cost pts (s + 1)) cost t c T) = NONE
  · rw [if_pos hb] at h; exact absurd rfl h
  · rw [if_neg hb] at h ⊢
    simp only [not_or] at hb
    refine ⟨by omega, fun he => ?_, fun he => ?_⟩
    · rw [if_pos (by simpa using he)]; omega
    · have e : (decide (s + 1 = pts.length)) = false := by simp; omega
      rw [e] at hb ⊢
      simp only [Bool.false_eq_true, if_false] at hb ⊢
      exact ⟨hb.2, trivial⟩
theorem st_step {T M : Nat} {cost : Int} {pts : List (List Int)} {val : Int} {j : Nat} (hj : j + 1 < pts.length) (h : StOk T M cost pts val pts.length j) :
    StOk T M cost pts val pts.length (j + 1) ∧ (∃ u, u < T ∧ thn (tb T M cost pts (j + 1)) cost (stp T M cost pts j).1 (stp T M cost pts j).2 u = en (tb T M cost pts j) (stp T M cost pts j).1 (stp T M cost pts j).2 - (pts.getD j []).getD (stp T M cost pts j).1 0) := by
  obtain ⟨h1, h2, h3, h4, h5, h6⟩ := h
  obtain ⟨q1, _, q2⟩ := en_pos (by omega) h1 h2 h3
  obtain ⟨q3, q4⟩ := q2 hj
  obtain ⟨u0, hu0, he0⟩ := vmaxT_some q3
  have hw : thn (tb T M cost pts (j + 1)) cost (stp T M cost pts j).1 (stp T M cost pts j).2 u0 = en (tb T M cost pts j) (stp T M cost pts j).1 (stp T M cost pts j).2 - (pts.getD j []).getD (stp T M cost pts j).1 0 := by omega
  refine ⟨?_, u0, hu0, hw⟩
  have hst : stp T M cost pts (j + 1) = (nu (tb T M cost pts (j + 1)) cost (stp T M cost pts j).1 (stp T M cost pts j).2 T (en (tb T M cost pts j) (stp T M cost pts j).1 (stp T M cost pts j).2 - (pts.getD j []).getD (stp T M cost pts j).1 0),
      if nu (tb T M cost pts (j + 1)) cost (stp T M cost pts j).1 (stp T M cost pts j).2 T (en (tb T M cost pts j) (stp T M cost pts j).1 (stp T M cost pts j).2 - (pts.getD j []).getD (stp T M cost pts j).1 0) = (stp T M cost pts j).1 then (stp T M cost pts j).2 else (stp T M cost pts j).2 - 1) := rfl
  have ho1 := outT_at T M cost pts pts.length j (by omega)
  have ho2 := outT_at T M cost pts pts.length (j + 1) hj
  obtain ⟨u, hu, he, hne⟩ : ∃ u, u < T ∧ thn (tb T M cost pts (j + 1)) cost (stp T M cost pts j).1 (stp T M cost pts j).2 u = en (tb T M cost pts j) (stp T M cost pts j).1 (stp T M cost pts j).2 - (pts.getD j []).getD (stp T M cost pts j).1 0 ∧ nu (tb T M cost pts (j + 1)) cost (stp T M cost pts j).1 (stp T M cost pts j).2 T (en (tb T M cost pts j) (stp T M cost pts j).1 (stp T M cost pts j).2 - (pts.getD j []).getD (stp T M cost pts j).1 0) = u := by
    have hex : ∃ v, thn (tb T M cost pts (j + 1)) cost (stp T M cost pts j).1 (stp T M cost pts j).2 v = en (tb T M cost pts j) (stp T M cost pts j).1 (stp T M cost pts j).2 - (pts.getD j []).getD (stp T M cost pts j).1 0 := ⟨u0, hw⟩
    have : ∀ m, (∃ v, v ≤ m ∧ v < T ∧ thn (tb T M cost pts (j + 1)) cost (stp T M cost pts j).1 (stp T M cost pts j).2 v = en (tb T M cost pts j) (stp T M cost pts j).1 (stp T M cost pts j).2 - (pts.getD j []).getD (stp T M cost pts j).1 0) →
        ∃ v, v < T ∧ thn (tb T M cost pts (j + 1)) cost (stp T M cost pts j).1 (stp T M cost pts j).2 v = en (tb T M cost pts j) (stp T M cost pts j).1 (stp T M cost pts j).2 - (pts.getD j []).getD (stp T M cost pts j).1 0 ∧ ∀ x, x < v → thn (tb T M cost pts (j + 1)) cost (stp T M cost pts j).1 (stp T M cost pts j).2 x ≠ en (tb T M cost pts j) (stp T M cost pts j).1 (stp T M cost pts j).2 - (pts.getD j []).getD (stp T M cost pts j).1 0 := by
      intro m
      induction m with
      | zero =>
        rintro ⟨v, hv, hvT, hvv⟩
        exact ⟨v, hvT, hvv, fun x hx => by omega⟩
      | succ m ih =>
        rintro ⟨v, hv, hvT, hvv⟩
        by_cases hh : ∃ x, x ≤ m ∧ x < T ∧ thn (tb T M cost pts (j + 1)) cost (stp T M cost pts j).1 (stp T M cost pts j).2 x = en (tb T M cost pts j) (stp T M cost pts j).1 (stp T M cost pts j).2 - (pts.getD j []).getD (stp T M cost pts j).1 0
        · exact ih hh
        · exact ⟨v, hvT, hvv, fun x hx hxe => hh ⟨x, by omega, by omega, hxe⟩⟩
    obtain ⟨v, hvT, hvv, hmin⟩ := this u0 ⟨u0, Nat.le_refl _, hu0, hw⟩
    exact ⟨v, hvT, hvv, nu_eq hvT hvv hmin⟩
  rw [hne] at hst
  have hs1 : (stp T M cost pts (j + 1)).1 = u := by rw [hst]
  have hs2 : (stp T M cost pts (j + 1)).2 = if u = (stp T M cost pts j).1 then (stp T M cost pts j).2 else (stp T M cost pts j).2 - 1 := by rw [hst]
  have hsum : sumTo pts (outT T M cost pts pts.length) (j + 1) = sumTo pts (outT T M cost pts pts.length) j + (pts.getD j []).getD (stp T M cost pts j).1 0 := by
    rw [sumTo, ho1]; simp [pt]
  have hcut : cutsTo (outT T M cost pts pts.length) (j + 1 + 1) = cutsTo (outT T M cost pts pts.length) (j + 1) + (if u = (stp T M cost pts j).1 then 0 else 1) := by
    rw [cutsTo, ho2, Nat.add_sub_cancel, ho1, hs1]
    by_cases hut : u = (stp T M cost pts j).1
    · rw [if_pos hut, if_neg (by simp [hut])]
    · rw [if_neg hut, if_pos ⟨by omega, by omega⟩]
  unfold StOk
  rw [hs1, hs2, hsum, hcut, h6]
  generalize (stp T M cost pts j).1 = t at *
  generalize (stp T M cost pts j).2 = c at *
  unfold thn at he
  by_cases hut : u = t
  · rw [if_pos hut] at he
    simp only [if_pos hut]
    have hnn : en (tb T M cost pts (j + 1)) u c ≠ NONE := by rw [he, q4]; rw [Int.add_sub_cancel]; exact q3
    refine ⟨hu, h2, hnn, (en_pos hj hu h2 hnn).1, ?_, by omega⟩
    omega
  · rw [if_neg hut] at he
    simp only [if_neg hut]
    have hwn : en (tb T M cost pts j) t c - (pts.getD j []).getD t 0 ≠ NONE := by rw [q4, Int.add_sub_cancel]; exact q3
    by_cases hc0 : c = 0
    · rw [if_pos hc0] at he; exact absurd he.symm hwn
    · rw [if_neg hc0] at he
      by_cases hN : en (tb T M cost pts (j + 1)) u (c - 1) = NONE
      · rw [if_pos hN] at he; exact absurd he.symm hwn
      · rw [if_neg hN] at he
        refine ⟨hu, by omega, hN, (en_pos hj hu (by omega) hN).1, ?_, by omega⟩
        have e1 : ((c - 1 : Nat) : Int) = (c : Int) - 1 := by omega
        rw [e1, show (M : Int) - ((c : Int) - 1) = ((M : Int) - (c : Int)) + 1 by omega, Int.mul_add, Int.mul_one]
        omega
theorem st_all {T M : Nat} {cost : Int} {pts : List (List Int)} {val : Int} (h0 : StOk T M cost pts val pts.length 0) : ∀ j, j < pts.length → StOk T M cost pts val pts.length j
  | 0, _ => h0
  | j + 1, h => (st_step h (st_all h0 j (by omega))).1
theorem st_zero {T M : Nat} {cost : Int} {pts : List (List Int)} (hn : 0 < pts.length) (hv : (fb (tb T M cost pts 0) M T).2 ≠ NONE) : StOk T M cost pts (fb (tb T M cost pts 0) M T).2 pts.length 0 := by
  rcases fb_some (tb T M cost pts 0) M T with h | ⟨h1, h2⟩
  · exact absurd h hv
  · have hne : en (tb T M cost pts 0) (fb (tb T M cost pts 0) M T).1 M ≠ NONE := by rw [h2]; exact hv
    refine ⟨h1, Nat.le_refl _, hne, (en_pos hn h1 (Nat.le_refl _) hne).1, ?_, ?_⟩
    · show sumTo pts _ 0 + en (tb T M cost pts 0) (fb (tb T M cost pts 0) M T).1 M - cost * ((M : Int) - (M : Int)) = _
      rw [h2, Int.sub_self, Int.mul_zero]
      show 0 + _ - 0 = _
      omega
    · show cutsTo _ 1 = (M : Int) - (M : Int)
      rw [Int.sub_self]
      simp [cutsTo]
/-- the chosen takes are worth what is told -/
theorem out_val {t : Int} {rows : List (List Int)} {cost most : Int} (hz : csc t rows cost most = 0) (hn : 0 < rows.length) (hv : (fb (tb t.toNat most.toNat cost rows 0) most.toNat t.toNat).2 ≠ NONE) :
    vl t rows cost most (outT t.toNat most.toNat cost rows rows.length) = ((fb (tb t.toNat most.toNat cost rows 0) most.toNat t.toNat).2, 0) := by
  obtain ⟨⟨ht1, ht2⟩, hl60, hrowF, hco1, hco2, hmo1, hmo2⟩ := csc_zero hz
  have hall := st_all (st_zero hn hv)
  have hlen := outT_len t.toNat most.toNat cost rows rows.length
  have hval : ∀ j, j < (outT t.toNat most.toNat cost rows rows.length).length → valF t rows (outT t.toNat most.toNat cost rows rows.length) j = 0 := by
    intro j hj
    rw [hlen] at hj
    obtain ⟨h1, h2, h3, h4, _⟩ := hall j hj
    refine valF_0 (outT_at _ _ _ _ _ _ hj) ⟨by omega, by omega⟩ ?_
    unfold pt
    simp only [Int.toNat_natCast]
    omega
  rw [vl_end hz hlen hval, hlen]
  obtain ⟨h1, h2, h3, h4, h5, h6⟩ := hall (rows.length - 1) (by omega)
  rw [show rows.length - 1 + 1 = rows.length by omega] at h6
  have hl1 := (en_pos (by omega) h1 h2 h3).2.1 (by omega)
  have hs : sumTo rows (outT t.toNat most.toNat cost rows rows.length) rows.length = sumTo rows (outT t.toNat most.toNat cost rows rows.length) (rows.length - 1) + (rows.getD (rows.length - 1) []).getD (stp t.toNat most.toNat cost rows (rows.length - 1)).1 0 := by
    obtain ⟨m, hm⟩ : ∃ m, rows.length = m + 1 := ⟨rows.length - 1, by omega⟩
    have ho := outT_at t.toNat most.toNat cost rows rows.length (rows.length - 1) (by omega)
    rw [hm, Nat.add_sub_cancel] at ho ⊢
    rw [sumTo, ho]; simp [pt]
  rw [if_neg (by rw [h6]; omega), hs, h6, Int.mul_comm]
  rw [hl1] at h5
  have hM : (most.toNat : Int) = most := by omega
  rw [hM] at h5 ⊢
  congr 1
/-- Choose: the takes, what they are worth, the fault -/
def chR (t : Int) (rows : List (List Int)) (cost most : Int) : List Int × Int × Int :=
  if csc t rows cost most ≠ 0 then ([], 0, csc t rows cost most) else if rows.length = 0 then ([], 0, 0) else
  if (fb (tb t.toNat most.toNat cost rows 0) most.toNat t.toNat).2 = NONE then ([], 0, 9) else (outT t.toNat most.toNat cost rows rows.length, (fb (tb t.toNat most.toNat cost rows 0) most.toNat t.toNat).2, 0)
end Go.Proofs.Ytdgkchdobmhpnaa
