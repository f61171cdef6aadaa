/- Plain: the text of credits, and that it is read as them. -/
import Derived.Test.YtckakleiaccffaaDoorRdW
import Derived.Lib.Join
import Derived.Lib.ItoaNum
import Derived.Lib.ItoaLen
namespace Go.Proofs.YtckakleiaccffaaDoor
open Go.RowKit Go.Dw

def bl (s : ByteArray) : List UInt8 := s.data.toList
theorem mkB_bl (s : ByteArray) : mkB (bl s) = s := by cases s; simp [mkB, bl]
theorem bl_len (s : ByteArray) : (bl s).length = s.size := size_list s
def partsT (c : Crp) : List (List UInt8) := [bl c.r, bl c.n, bl c.p, Lib.join (c.l.map bl) [44], Lib.itoa c.m]
def bodyT (c : Crp) : List UInt8 := Lib.join (partsT c) [124]
def lineT (c : Crp) : List UInt8 := bodyT c ++ [10]
def textT (L : List Crp) : List UInt8 := L.flatMap lineT
def textF (L : List Crp) : List UInt8 × Int := if crsF L ≠ 0 then ([], crsF L) else (textT L, 0)
theorem textT_snoc (L : List Crp) (c : Crp) : textT (L ++ [c]) = textT L ++ lineT c := by simp [textT]

theorem split_no {z : UInt8} {a : List UInt8} (h : z ∉ a) : splitB z a = [a] := split_none z a (List.count_eq_zero.2 h)
theorem split_cat {z : UInt8} : ∀ {a : List UInt8} (r : List UInt8), z ∉ a → splitB z (a ++ z :: r) = a :: splitB z r
  | [], r, _ => by simp [splitB]
  | c :: a, r, h => by
    have h1 : c ≠ z := fun e => h (by simp [e])
    have ih := split_cat (a := a) r (fun e => h (List.mem_cons_of_mem _ e))
    rw [List.cons_append, splitB, if_neg h1, ih]
theorem split_join {z : UInt8} : ∀ (ls : List (List UInt8)), ls ≠ [] → (∀ l ∈ ls, z ∉ l) → splitB z (Lib.join ls [z]) = ls
  | [], h, _ => absurd rfl h
  | [a], _, h => by rw [Lib.join_one]; exact split_no (h a (by simp))
  | a :: b :: r, _, h => by
    have ih := split_join (b :: r) (by simp) (fun l hl => h l (by simp at hl ⊢; exact .inr hl))
    have e : Lib.join (a :: b :: r) [z] = a ++ z :: Lib.join (b :: r) [z] := by
      rw [Lib.join_cons, Lib.join_cons]; simp [Lib.joinTail]
    rw [e, split_cat _ (h a (by simp)), ih]
theorem join_notin {z y : UInt8} (hy : z ≠ y) : ∀ (ls : List (List UInt8)), (∀ l ∈ ls, z ∉ l) → z ∉ Lib.join ls [y]
  | [], _ => by simp [Lib.join_nil]
  | [a], h => by rw [Lib.join_one]; exact h a (by simp)
  | a :: b :: r, h => by
    have ih := join_notin hy (b :: r) (fun l hl => h l (by simp at hl ⊢; exact .inr hl))
    have e : Lib.join (a :: b :: r) [y] = a ++ y :: Lib.join (b :: r) [y] := by
      rw [Lib.join_cons, Lib.join_cons]; simp [Lib.joinTail]
    rw [e]
    simp only [List.mem_append, List.mem_cons, not_or]
    exact ⟨h a (by simp), hy, ih⟩
theorem join_len (y : UInt8) (m : Nat) : ∀ (ls : List (List UInt8)), (∀ l ∈ ls, l.length ≤ m) → (Lib.join ls [y]).length ≤ ls.length * (m + 1)
  | [], _ => by simp [Lib.join_nil]
  | [a], h => by rw [Lib.join_one]; have := h a (by simp); simp; omega
  | a :: b :: r, h => by
    have ih := join_len y m (b :: r) (fun l hl => h l (by simp at hl ⊢; exact .inr hl))
    have e : Lib.join (a :: b :: r) [y] = a ++ y :: Lib.join (b :: r) [y] := by
      rw [Lib.join_cons, Lib.join_cons]; simp [Lib.joinTail]
    have h1 := h a (by simp)
    rw [e, List.length_append, List.length_cons, List.length_cons, Nat.succ_mul]
    omega
theorem join_ne {y : UInt8} {ls : List (List UInt8)} {a : List UInt8} (h : ls.head? = some a) (ha : a ≠ []) : Lib.join ls [y] ≠ [] := by
  cases ls with
  | nil => cases h
  | cons b r =>
    injection h with h; subst h
    rw [Lib.join_cons]
    intro e
    have := congrArg List.length e
    simp at this
    exact ha (List.eq_nil_of_length_eq_zero (by simp [this.1]))
/- digits -/
theorem u8_dig {k : Nat} (h : k < 10) : (UInt8.ofNat (48 + k)).toNat = 48 + k := by
  rw [UInt8.toNat_ofNat']; omega
theorem dec_facts : ∀ (u : Nat), (Lib.decDigits u).all isD = true ∧ valD (Lib.decDigits u) = u ∧ (Lib.decDigits u).length ≠ 0 ∧ ((Lib.decDigits u).head? = some 48 → u = 0) := by
  intro u
  induction u using Nat.strongRecOn with
  | _ u ih =>
    rw [Lib.decDigits]
    split
    · rename_i h
      have h1 := u8_dig h
      generalize UInt8.ofNat (48 + u) = b at *
      refine ⟨by simp [isD, h1]; omega, by simp [valD, h1], by simp, ?_⟩
      intro h2
      injection h2 with h2
      subst h2
      have h4 : (48 : UInt8).toNat = 48 := rfl
      omega
    · rename_i h
      obtain ⟨a1, a2, a3, a4⟩ := ih (u / 10) (by omega)
      have h1 : (UInt8.ofNat (48 + u % 10)).toNat = 48 + u % 10 := u8_dig (by omega)
      generalize UInt8.ofNat (48 + u % 10) = b at *
      refine ⟨?_, ?_, by simp, ?_⟩
      · rw [List.all_append, a1]; simp [isD, h1]; omega
      · rw [valD_snoc, a2, h1]; omega
      · intro h2
        have h3 : (Lib.decDigits (u / 10)).head? = some 48 := by
          cases hd : Lib.decDigits (u / 10) with
          | nil => rw [hd] at a3; simp at a3
          | cons x r => rw [hd] at h2; simpa using h2
        have := a4 h3
        omega
theorem dec_len : ∀ (k u : Nat), 1 ≤ k → u < 10 ^ k → (Lib.decDigits u).length ≤ k
  | 0, _, h, _ => by omega
  | 1, u, _, h => by rw [Lib.decDigits, dif_pos (by omega)]; simp
  | k + 2, u, _, h => by
    rw [Lib.decDigits]
    split
    · simp
    · rw [List.length_append]
      have h1 : u / 10 < 10 ^ (k + 1) := by rw [Nat.div_lt_iff_lt_mul (by omega)]; rw [Nat.pow_succ] at h; exact h
      have := dec_len (k + 1) (u / 10) (by omega) h1
      simp; omega
theorem itoa_num {m : Int} (h1 : 1 ≤ m) (h2 : m ≤ 100000) : numF (Lib.itoa m) = some m.toNat ∧ (∀ b ∈ Lib.itoa m, isD b = true) ∧ (Lib.itoa m).length ≤ 6 := by
  have e : Lib.itoa m = Lib.decDigits m.toNat := by unfold Lib.itoa; rw [if_neg (by omega)]
  rw [e]
  obtain ⟨a1, a2, a3, a4⟩ := dec_facts m.toNat
  have a5 := dec_len 6 m.toNat (by omega) (by omega)
  refine ⟨?_, by simpa using a1, a5⟩
  unfold numF
  rw [if_neg, a2]
  rintro (h | h | h | h)
  · exact a3 h
  · omega
  · have := a4 h.2; omega
  · rw [a1] at h; cases h
/- bytes of right credits -/
theorem isD_ne {b z : UInt8} (h : isD b = true) (hz : isD z = false) : z ≠ b := fun e => by subst e; rw [h] at hz; cases hz
theorem ln_bytes {s : ByteArray} (h : isLn s = true) : s.data.toList.all okC = true ∧ s.size ≤ 60 := by
  unfold isLn at h
  split at h
  · simp only [Bool.and_eq_true, decide_eq_true_eq] at h
    exact ⟨h.2, h.1.1.1.1⟩
  · cases h
theorem ln_notin {s : ByteArray} (h : isLn s = true) {z : UInt8} (hz : okC z = false) : z ∉ bl s := fun hm => by
  have := List.all_eq_true.1 (ln_bytes h).1 z hm
  rw [hz] at this; cases this
theorem nm_bytes {s : ByteArray} (h : isNm s = true) : s.data.toList.all okB = true ∧ s.size ≤ 40 ∧ 0 < s.size := by
  unfold isNm at h
  split at h
  · rename_i h0
    simp only [Bool.and_eq_true, decide_eq_true_eq] at h
    rw [nmTail_eq] at h
    exact ⟨h.2, h.1.1, h0⟩
  · cases h
theorem nm_notin {s : ByteArray} (h : isNm s = true) {z : UInt8} (hz : okB z = false) : z ∉ bl s := fun hm => by
  have := List.all_eq_true.1 (nm_bytes h).1 z hm
  rw [hz] at this; cases this
theorem firstNZ_all {f : Nat → Int} : ∀ {n : Nat}, firstNZ f n = 0 → ∀ j, j < n → f j = 0
  | 0, _, j, hj => by omega
  | n + 1, h, j, hj => by
    rw [firstNZ] at h
    by_cases h0 : firstNZ f n = 0
    · rw [if_pos h0] at h
      by_cases e : j = n
      · subst e; exact h
      · exact firstNZ_all h0 j (by omega)
    · rw [if_neg h0] at h; exact absurd h h0
theorem ins_all {l : List ByteArray} (h : insF l = 0) : l.length ≠ 0 ∧ l.length ≤ 20 ∧ ∀ x ∈ l, isNm x = true := by
  unfold insF at h
  split at h
  · omega
  · rename_i h0
    split at h
    · omega
    · rename_i h1
      refine ⟨h0, by omega, fun x hx => ?_⟩
      obtain ⟨i, hi, rfl⟩ := List.getElem_of_mem hx
      have := firstNZ_all h i hi
      unfold inF at this
      rw [getD_at _ _ i hi] at this
      cases hb : isNm l[i] with
      | true => rfl
      | false => rw [hb] at this; simp at this
structure CrRight (c : Crp) : Prop where
  r : isLn c.r = true
  n : isLn c.n = true
  p : isNm c.p = true
  l0 : c.l.length ≠ 0
  l1 : c.l.length ≤ 20
  l : ∀ x ∈ c.l, isNm x = true
  m1 : 1 ≤ c.m
  m2 : c.m ≤ 100000
theorem crd_right {c : Crp} (h : crdF c = 0) : CrRight c := by
  unfold crdF at h
  split at h
  · omega
  · rename_i h1
    split at h
    · omega
    · rename_i h2
      split at h
      · omega
      · rename_i h3
        split at h
        · rename_i h4
          have h3' : insF c.l = 0 := by simpa using h3
          obtain ⟨a, b, d⟩ := ins_all h3'
          refine ⟨?_, ?_, by simpa using h2, a, b, d, h4.1, h4.2⟩
          · cases hb : isLn c.r with
            | true => rfl
            | false => exact absurd (.inl hb) h1
          · cases hb : isLn c.n with
            | true => rfl
            | false => exact absurd (.inr hb) h1
        · omega
theorem crs_right {L : List Crp} (h : crsF L = 0) : L.length ≤ 1000 ∧ ∀ c ∈ L, CrRight c := by
  unfold crsF at h
  split at h
  · omega
  · rename_i h1
    refine ⟨by omega, fun c hc => ?_⟩
    obtain ⟨i, hi, rfl⟩ := List.getElem_of_mem hc
    have h2 := firstNZ_all h i hi
    rw [getD_at _ _ i hi] at h2
    exact crd_right h2
theorem ins_len {c : Crp} (h : CrRight c) : (Lib.join (c.l.map bl) [44]).length ≤ 820 := by
  have h1 := join_len 44 40 (c.l.map bl) (fun l hl => by
    obtain ⟨x, hx, rfl⟩ := List.mem_map.1 hl
    rw [bl_len]; exact (nm_bytes (h.l x hx)).2.1)
  rw [List.length_map] at h1
  have := h.l1
  omega
theorem ins_notin {c : Crp} (h : CrRight c) {z : UInt8} (hz : okB z = false) (h44 : z ≠ 44) : z ∉ Lib.join (c.l.map bl) [44] :=
  join_notin h44 _ (fun l hl => by
    obtain ⟨x, hx, rfl⟩ := List.mem_map.1 hl
    exact nm_notin (h.l x hx) hz)
theorem parts_notin {c : Crp} (h : CrRight c) {z : UInt8} (h1 : okC z = false) (h2 : okB z = false) (h3 : isD z = false) (h44 : z ≠ 44) : ∀ l ∈ partsT c, z ∉ l := by
  intro l hl
  unfold partsT at hl
  simp only [List.mem_cons, List.not_mem_nil, or_false] at hl
  rcases hl with rfl | rfl | rfl | rfl | rfl
  · exact ln_notin h.r h1
  · exact ln_notin h.n h1
  · exact nm_notin h.p h2
  · exact ins_notin h h2 h44
  · intro hm
    have := (itoa_num h.m1 h.m2).2.1 z hm
    rw [h3] at this; cases this
theorem body_len {c : Crp} (h : CrRight c) : (bodyT c).length ≤ 4105 := by
  have h1 := join_len 124 820 (partsT c) (fun l hl => by
    unfold partsT at hl
    simp only [List.mem_cons, List.not_mem_nil, or_false] at hl
    have g1 := (ln_bytes h.r).2
    have g2 := (ln_bytes h.n).2
    have g3 := (nm_bytes h.p).2.1
    have g4 := ins_len h
    have g5 := (itoa_num h.m1 h.m2).2.2
    rcases hl with rfl | rfl | rfl | rfl | rfl
    · rw [bl_len]; omega
    · rw [bl_len]; omega
    · rw [bl_len]; omega
    · exact g4
    · omega)
  unfold bodyT
  have e : (partsT c).length = 5 := rfl
  rw [e] at h1
  omega
theorem ins_back {c : Crp} (h : CrRight c) : insL (Lib.join (c.l.map bl) [44]) = c.l := by
  have hne : c.l ≠ [] := fun e => h.l0 (by rw [e]; rfl)
  have hj : Lib.join (c.l.map bl) [44] ≠ [] := by
    cases hl : c.l with
    | nil => exact absurd hl hne
    | cons a r =>
      refine join_ne (a := bl a) rfl ?_
      have := (nm_bytes (h.l a (by rw [hl]; simp))).2.2
      intro e
      have h9 := congrArg List.length e
      rw [bl_len, List.length_nil] at h9; omega
  unfold insL
  rw [if_neg hj, split_join _ (by simpa using hne) (fun l hl => by
    obtain ⟨x, hx, rfl⟩ := List.mem_map.1 hl
    exact nm_notin (h.l x hx) (by decide)), List.map_map]
  have : (mkB ∘ bl) = id := funext fun s => mkB_bl s
  rw [this, List.map_id]
theorem line_back {c : Crp} (h : CrRight c) : lineF (bodyT c) = some c := by
  unfold lineF bodyT
  rw [split_join (partsT c) (by simp [partsT]) (parts_notin h (by decide) (by decide) (by decide) (by decide))]
  have e : (partsT c).length = 5 := rfl
  rw [if_neg (by omega)]
  have e4 : (partsT c).getD 4 [] = Lib.itoa c.m := rfl
  have e0 : (partsT c).getD 0 [] = bl c.r := rfl
  have e1 : (partsT c).getD 1 [] = bl c.n := rfl
  have e2 : (partsT c).getD 2 [] = bl c.p := rfl
  have e3 : (partsT c).getD 3 [] = Lib.join (c.l.map bl) [44] := rfl
  rw [e0, e1, e2, e3, e4, (itoa_num h.m1 h.m2).1, ins_back h, mkB_bl, mkB_bl, mkB_bl]
  have h1 := h.m1
  have e5 : ((c.m.toNat : Nat) : Int) = c.m := by omega
  simp [e5]
theorem idx_cat {z : UInt8} : ∀ {a : List UInt8} (r : List UInt8), z ∉ a → Lib.indexByte (a ++ z :: r) z = (a.length : Int)
  | [], r, _ => by simp [Lib.indexByte]
  | c :: a, r, h => by
    have h1 : c ≠ z := fun e => h (by simp [e])
    have ih := idx_cat (a := a) r (fun e => h (List.mem_cons_of_mem _ e))
    rw [List.cons_append, Lib.indexByte, ih]
    have h2 : (c == z) = false := by simpa using h1
    have h3 : (((a.length : Nat) : Int) == -1) = false := by rw [beq_eq_false_iff_ne]; omega
    simp only [h2, h3, Bool.false_eq_true, if_false, List.length_cons]
    omega
theorem read_back : ∀ (R D : List Crp) (f i : Nat), (∀ c ∈ R, CrRight c) → (textT R).length ≤ f → readG f (textT R) i D = finR (D ++ R)
  | [], D, f, i, _, _ => by rw [readG_end (by rfl), List.append_nil]
  | c :: R, D, f, i, h, hf => by
    have hc := h c (by simp)
    have e : textT (c :: R) = bodyT c ++ 10 :: textT R := by simp [textT, lineT]
    have hn : (10 : UInt8) ∉ bodyT c := join_notin (by decide) _ (parts_notin hc (by decide) (by decide) (by decide) (by decide))
    rw [e] at hf ⊢
    have hcut : cutN (bodyT c ++ 10 :: textT R) = (bodyT c).length := by unfold cutN; rw [idx_cat _ hn]; rfl
    rw [readG_go (c := c) (by simp) hf (by rw [List.count_append]; simp) (by rw [hcut]; simp [line_back hc]), hcut]
    have e2 : (bodyT c ++ 10 :: textT R).drop ((bodyT c).length + 1) = textT R := by
      rw [List.drop_append]; simp
    rw [e2, read_back R (D ++ [c]) (f - 1) (i + 1) (fun x hx => h x (by simp [hx])) (by rw [List.length_append, List.length_cons] at hf; omega)]
    simp
theorem text_back {L : List Crp} (h : crsF L = 0) (hl : (textT L).length ≤ 300000) : readF (textT L) = (L, 0, 0) := by
  unfold readF
  rw [if_neg (by omega), read_back L [] _ 1 (crs_right h).2 (Nat.le_refl _), List.nil_append]
  unfold finR
  rw [if_pos h]
theorem text_len : ∀ (L : List Crp), (∀ c ∈ L, CrRight c) → (textT L).length ≤ L.length * 4106
  | [], _ => by simp [textT]
  | c :: R, h => by
    have h1 := text_len R (fun x hx => h x (by simp [hx]))
    have h2 := body_len (h c (by simp))
    have e : textT (c :: R) = bodyT c ++ 10 :: textT R := by simp [textT, lineT]
    rw [e, List.length_append, List.length_cons, List.length_cons, Nat.succ_mul]
    omega
end Go.Proofs.YtckakleiaccffaaDoor
