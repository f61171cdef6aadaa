/- Plain: what the tables of the chooser mean: the best takes. -/
import Derived.Test.YtdgkchdobmhpnaaChooseP
import Derived.Test.YtdgkchdobmhpnaaValueB
namespace Go.Proofs.Ytdgkchdobmhpnaa
open Go.RowKit Go.Dw

theorem en_tb {T M : Nat} {cost : Int} {pts : List (List Int)} {s t c : Nat} (hs : s < pts.length) (ht : t < T) (hc : c ≤ M) :
    en (tb T M cost pts s) t c = cellV (decide (s + 1 = pts.length)) (tb T M cost pts (s + 1)) cost T ((pts.getD s []).getD t 0) t c := by
  rw [tb_eq T M cost pts s hs]
  unfold en
  have hu' : t < (tabV (decide (s + 1 = pts.length)) (tb T M cost pts (s + 1)) cost T M (pts.getD s [])).length := by rw [tabV_length]; exact ht
  rw [getRow hu', tabV_at, rowV_getD _ _ _ _ _ _ _ _ hc]
theorem vmaxT_ge {rows : List (List Int)} {cost : Int} {t c : Nat} : ∀ {T u : Nat}, u < T → thn rows cost t c u ≤ vmaxT rows cost t c T
  | T + 1, u, h => by
    unfold vmaxT
    by_cases he : u = T
    · subst he; omega
    · have := vmaxT_ge (T := T) (u := u) (rows := rows) (cost := cost) (t := t) (c := c) (by omega); omega
theorem vmaxT_some {rows : List (List Int)} {cost : Int} {t c : Nat} : ∀ {T : Nat}, vmaxT rows cost t c T ≠ NONE → ∃ u, u < T ∧ thn rows cost t c u = vmaxT rows cost t c T
  | 0, h => absurd rfl h
  | T + 1, h => by
    unfold vmaxT at h ⊢
    by_cases he : vmaxT rows cost t c T < thn rows cost t c T
    · exact ⟨T, by omega, by omega⟩
    · have h1 : max (vmaxT rows cost t c T) (thn rows cost t c T) = vmaxT rows cost t c T := by omega
      rw [h1] at h ⊢
      obtain ⟨u, hu, e⟩ := vmaxT_some h
      exact ⟨u, by omega, e⟩

/-- what a row of takes is worth in its last k sections of n, and its cuts there -/
def sufV (pts : List (List Int)) (cost : Int) (ts : List Nat) (n : Nat) : Nat → Int × Nat
  | 0 => (0, 0)
  | k + 1 =>
    if k = 0 then ((pts.getD (n - 1) []).getD (ts.getD (n - 1) 0) 0, 0)
    else if ts.getD (n - k) 0 = ts.getD (n - (k + 1)) 0 then ((pts.getD (n - (k + 1)) []).getD (ts.getD (n - (k + 1)) 0) 0 + (sufV pts cost ts n k).1, (sufV pts cost ts n k).2)
    else ((pts.getD (n - (k + 1)) []).getD (ts.getD (n - (k + 1)) 0) 0 + (sufV pts cost ts n k).1 - cost, (sufV pts cost ts n k).2 + 1)
theorem opt_suf {T M : Nat} {cost : Int} {pts : List (List Int)} (hc0 : 0 ≤ cost) (hc1 : cost ≤ 1000000) (hl : pts.length ≤ 60) {ts : List Nat}
    (hts : ∀ s, s < pts.length → ts.getD s 0 < T) (hp : ∀ s, s < pts.length → 0 ≤ (pts.getD s []).getD (ts.getD s 0) 0) :
    ∀ k c, k + 1 ≤ pts.length → c ≤ M → (sufV pts cost ts pts.length (k + 1)).2 ≤ c →
      -(1000000 * (k : Int)) ≤ (sufV pts cost ts pts.length (k + 1)).1 ∧ en (tb T M cost pts (pts.length - (k + 1))) (ts.getD (pts.length - (k + 1)) 0) c ≠ NONE ∧ (sufV pts cost ts pts.length (k + 1)).1 ≤ en (tb T M cost pts (pts.length - (k + 1))) (ts.getD (pts.length - (k + 1)) 0) c := by
  intro k
  induction k with
  | zero =>
    intro c hk hc _
    have h1 := hp (pts.length - 1) (by omega)
    have h2 := hts (pts.length - 1) (by omega)
    rw [en_tb (by omega) h2 hc]
    have e1 : (decide (pts.length - (0 + 1) + 1 = pts.length)) = true := by simp; omega
    unfold cellV sufV
    simp only [e1, if_true, Nat.zero_add] at *
    generalize (pts.getD (pts.length - 1) []).getD (ts.getD (pts.length - 1) 0) 0 = p at *
    rw [if_neg (by simp only [NONE]; omega)]
    simp only [NONE]; omega
  | succ k ih =>
    intro c hk hc hcut
    have h1 := hp (pts.length - (k + 1 + 1)) (by omega)
    have h2 := hts (pts.length - (k + 1 + 1)) (by omega)
    have h3 := hts (pts.length - (k + 1)) (by omega)
    rw [en_tb (by omega) h2 hc]
    have e1 : (decide (pts.length - (k + 1 + 1) + 1 = pts.length)) = false := by simp; omega
    have e2 : pts.length - (k + 1 + 1) + 1 = pts.length - (k + 1) := by omega
    have key : ∀ x : Int, -(1000000 * ((k + 1 : Nat) : Int)) ≤ x → (∃ u, u < T ∧ thn (tb T M cost pts (pts.length - (k + 1))) cost (ts.getD (pts.length - (k + 1 + 1)) 0) c u ≥ x) →
        cellV (decide (pts.length - (k + 1 + 1) + 1 = pts.length)) (tb T M cost pts (pts.length - (k + 1 + 1) + 1)) cost T ((pts.getD (pts.length - (k + 1 + 1)) []).getD (ts.getD (pts.length - (k + 1 + 1)) 0) 0) (ts.getD (pts.length - (k + 1 + 1)) 0) c ≠ NONE ∧
        (pts.getD (pts.length - (k + 1 + 1)) []).getD (ts.getD (pts.length - (k + 1 + 1)) 0) 0 + x ≤ cellV (decide (pts.length - (k + 1 + 1) + 1 = pts.length)) (tb T M cost pts (pts.length - (k + 1 + 1) + 1)) cost T ((pts.getD (pts.length - (k + 1 + 1)) []).getD (ts.getD (pts.length - (k + 1 + 1)) 0) 0) (ts.getD (pts.length - (k + 1 + 1)) 0) c := by
      intro x hx ⟨u, hu, hth⟩
      rw [e1, e2]
      have hv := vmaxT_ge (rows := tb T M cost pts (pts.length - (k + 1))) (cost := cost) (t := ts.getD (pts.length - (k + 1 + 1)) 0) (c := c) hu
      unfold cellV
      simp only [Bool.false_eq_true, if_false]
      generalize vmaxT (tb T M cost pts (pts.length - (k + 1))) cost (ts.getD (pts.length - (k + 1 + 1)) 0) c T = vm at *
      generalize thn (tb T M cost pts (pts.length - (k + 1))) cost (ts.getD (pts.length - (k + 1 + 1)) 0) c u = th at *
      generalize (pts.getD (pts.length - (k + 1 + 1)) []).getD (ts.getD (pts.length - (k + 1 + 1)) 0) 0 = p at *
      have hvb : -1000000000 ≤ vm := by omega
      rw [if_neg (by simp only [NONE]; omega)]
      simp only [NONE]; omega
    rw [sufV, if_neg (by omega)] at hcut ⊢
    by_cases he : ts.getD (pts.length - (k + 1)) 0 = ts.getD (pts.length - (k + 1 + 1)) 0
    · rw [if_pos he] at hcut ⊢
      simp only at hcut ⊢
      obtain ⟨i1, i2, i3⟩ := ih c (by omega) hc hcut
      refine ⟨by omega, ?_⟩
      refine key _ (by omega) ⟨ts.getD (pts.length - (k + 1)) 0, h3, ?_⟩
      unfold thn; rw [if_pos he]; exact i3
    · rw [if_neg he] at hcut ⊢
      simp only at hcut ⊢
      obtain ⟨i1, i2, i3⟩ := ih (c - 1) (by omega) (by omega) (by omega)
      refine ⟨by omega, ?_⟩
      have := key ((sufV pts cost ts pts.length (k + 1)).1 - cost) (by omega) ⟨ts.getD (pts.length - (k + 1)) 0, h3, by
        unfold thn; rw [if_neg he, if_neg (by omega), if_neg i2]; omega⟩
      exact ⟨this.1, by omega⟩
theorem getD_map_nat (takes : List Int) (s : Nat) (h : s < takes.length) : (takes.map Int.toNat).getD s 0 = (takes.getD s 0).toNat := by
  rw [List.getD_eq_getElem?_getD, List.getD_eq_getElem?_getD, List.getElem?_map]
  simp [h]
/-- the last k sections, out of the sums of the first ones -/
theorem suf_pre {rows : List (List Int)} {takes : List Int} {cost : Int} (hlen : takes.length = rows.length) (hpos : ∀ s, s < takes.length → 0 ≤ takes.getD s 0) :
    ∀ k, k + 1 ≤ rows.length → (sufV rows cost (takes.map Int.toNat) rows.length (k + 1)).1 = sumTo rows takes rows.length - sumTo rows takes (rows.length - (k + 1)) - cost * (cutsTo takes rows.length - cutsTo takes (rows.length - k)) ∧
      ((sufV rows cost (takes.map Int.toNat) rows.length (k + 1)).2 : Int) = cutsTo takes rows.length - cutsTo takes (rows.length - k) := by
  intro k
  induction k with
  | zero =>
    intro hk
    have e1 : sumTo rows takes rows.length = sumTo rows takes (rows.length - (0 + 1)) + pt rows (rows.length - 1) (takes.getD (rows.length - 1) 0) := by
      obtain ⟨m, hm⟩ : ∃ m, rows.length = m + 1 := ⟨rows.length - 1, by omega⟩
      rw [hm, Nat.add_sub_cancel, sumTo]
    unfold sufV
    rw [if_pos rfl, e1, getD_map_nat takes _ (by omega), Nat.sub_zero]
    refine ⟨?_, by simp⟩
    simp only [pt]
    rw [Int.sub_self, Int.mul_zero]
    omega
  | succ k ih =>
    intro hk
    obtain ⟨h1, h2⟩ := ih (by omega)
    have e1 : sumTo rows takes (rows.length - (k + 1)) = sumTo rows takes (rows.length - (k + 1 + 1)) + pt rows (rows.length - (k + 1 + 1)) (takes.getD (rows.length - (k + 1 + 1)) 0) := by
      obtain ⟨m, hm⟩ : ∃ m, rows.length - (k + 1) = m + 1 := ⟨rows.length - (k + 1) - 1, by omega⟩
      rw [show rows.length - (k + 1 + 1) = m by omega, hm, sumTo]
    have e2 : cutsTo takes (rows.length - k) = cutsTo takes (rows.length - (k + 1)) + (if 0 < rows.length - (k + 1) ∧ takes.getD (rows.length - (k + 1)) 0 ≠ takes.getD (rows.length - (k + 1) - 1) 0 then 1 else 0) := by
      obtain ⟨m, hm⟩ : ∃ m, rows.length - k = m + 1 := ⟨rows.length - k - 1, by omega⟩
      rw [hm, show rows.length - (k + 1) = m by omega, cutsTo]
    have p1 := hpos (rows.length - (k + 1)) (by omega)
    have p2 := hpos (rows.length - (k + 1 + 1)) (by omega)
    have e3 : rows.length - (k + 1) - 1 = rows.length - (k + 1 + 1) := by omega
    have hpt : (rows.getD (rows.length - (k + 1 + 1)) []).getD ((takes.map Int.toNat).getD (rows.length - (k + 1 + 1)) 0) 0 = pt rows (rows.length - (k + 1 + 1)) (takes.getD (rows.length - (k + 1 + 1)) 0) := by
      rw [getD_map_nat takes _ (by omega)]; rfl
    rw [sufV, if_neg (by omega), hpt, getD_map_nat takes _ (by omega), getD_map_nat takes _ (by omega)]
    rw [e3] at e2
    generalize (sufV rows cost (takes.map Int.toNat) rows.length (k + 1)) = r at *
    generalize pt rows (rows.length - (k + 1 + 1)) (takes.getD (rows.length - (k + 1 + 1)) 0) = pp at *
    by_cases he : takes.getD (rows.length - (k + 1)) 0 = takes.getD (rows.length - (k + 1 + 1)) 0
    · rw [if_pos (by rw [he])]
      rw [if_neg (fun hh => hh.2 he)] at e2
      simp only
      rw [show cutsTo takes (rows.length - (k + 1)) = cutsTo takes (rows.length - k) by omega]
      exact ⟨by omega, h2⟩
    · rw [if_neg (by omega)]
      rw [if_pos ⟨by omega, he⟩] at e2
      simp only
      rw [show cutsTo takes (rows.length - (k + 1)) = cutsTo takes (rows.length - k) - 1 by omega]
      refine ⟨?_, by push_cast; omega⟩
      rw [show cutsTo takes rows.length - (cutsTo takes (rows.length - k) - 1) = (cutsTo takes rows.length - cutsTo takes (rows.length - k)) + 1 by omega, Int.mul_add, Int.mul_one]
      omega
/-- no takes are worth more than the table says -/
theorem opt_all {t : Int} {rows : List (List Int)} {cost most : Int} {takes : List Int} {m : Int} (hv : vl t rows cost most takes = (m, 0)) (h0 : 0 < rows.length) :
    ∃ u : Nat, u < t.toNat ∧ en (tb t.toNat most.toNat cost rows 0) u most.toNat ≠ NONE ∧ m ≤ en (tb t.toNat most.toNat cost rows 0) u most.toNat := by
  by_cases hz : csc t rows cost most = 0
  case neg => rw [vl_csc hz] at hv; injection hv with _ h2; exact absurd h2 hz
  obtain ⟨⟨ht1, ht2⟩, hl60, hrowF, hco1, hco2, hmo1, hmo2⟩ := csc_zero hz
  by_cases hlen : takes.length = rows.length
  case neg => rw [vl_len hz hlen] at hv; simp at hv
  have hall : ∀ j, j < takes.length → valF t rows takes j = 0 := by
    intro j
    induction j using Nat.strongRecOn with
    | _ j ih =>
      intro hj
      by_cases hb : valF t rows takes j = 0
      · exact hb
      · rw [vl_bad hz hlen hj (fun i hi => ih i hi (by omega)) hb] at hv
        exact absurd (congrArg Prod.snd hv) hb
  rw [vl_end hz hlen hall] at hv
  have hcm : ¬ most < cutsTo takes takes.length := by
    intro hh; rw [if_pos hh] at hv; simp at hv
  rw [if_neg hcm] at hv
  injection hv with hm _
  have hr : ∀ s, s < takes.length → (0 ≤ takes.getD s 0 ∧ takes.getD s 0 < t) ∧ 0 ≤ pt rows s (takes.getD s 0) := by
    intro s hs
    have := hall s hs
    unfold valF at this
    split at this
    · rename_i h1
      split at this
      · simp at this
      · exact ⟨h1, by omega⟩
    · simp at this
  have hs := suf_pre (cost := cost) hlen (fun s hs => (hr s hs).1.1) (rows.length - 1) (by omega)
  have c1 : cutsTo takes 1 = 0 := by simp [cutsTo]
  rw [show rows.length - 1 + 1 = rows.length by omega, Nat.sub_self, show rows.length - (rows.length - 1) = 1 by omega, c1] at hs
  have ho := opt_suf (T := t.toNat) (M := most.toNat) hco1 hco2 hl60 (ts := takes.map Int.toNat) (fun s hs => by rw [getD_map_nat takes s (by omega)]; have := (hr s (by omega)).1; omega)
    (fun s hs => by rw [getD_map_nat takes s (by omega)]; exact (hr s (by omega)).2) (rows.length - 1) most.toNat (by omega) (Nat.le_refl _) (by
      rw [show rows.length - 1 + 1 = rows.length by omega]
      rw [hlen] at hcm
      omega)
  rw [show rows.length - 1 + 1 = rows.length by omega, Nat.sub_self] at ho
  refine ⟨(takes.map Int.toNat).getD 0 0, by rw [getD_map_nat takes 0 (by omega)]; have := (hr 0 (by omega)).1; omega, ho.2.1, ?_⟩
  have h3 := ho.2.2
  rw [hs.1] at h3
  have h4 : sumTo rows takes 0 = 0 := rfl
  rw [h4, Int.sub_zero, Int.sub_zero, Int.mul_comm] at h3
  rw [hlen] at hm
  omega
end Go.Proofs.Ytdgkchdobmhpnaa
