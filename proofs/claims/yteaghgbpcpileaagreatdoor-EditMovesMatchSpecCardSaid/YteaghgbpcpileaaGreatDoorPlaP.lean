/- Plans: some clips become others, then those from a position on are moved; plain Lean. -/
import Derived.Test.YteaghgbpcpileaaGreatDoorStpZ
namespace Go.Dw

structure Pla where
  kept : List Cli
  gone : List Cli
  made : List Cli
def plaS (p : Pla) (c : Cli) (d : Option (List Cli)) : Pla := match d with
  | none => ⟨p.kept ++ [c], p.gone, p.made⟩
  | some l => ⟨p.kept, p.gone ++ [c], p.made ++ l⟩
/-- the plan: d says of each clip and its place what becomes of it (none: it stays) -/
def plaL (d : Nat → Cli → Option (List Cli)) : List Cli → Nat → Pla → Pla
  | [], _, p => p
  | c :: cs, i, p => plaL d cs (i + 1) (plaS p c (d i c))
def plaF (d : Nat → Cli → Option (List Cli)) (cs : List Cli) : Pla := plaL d cs 0 ⟨[], [], []⟩
theorem plaL_snoc (d : Nat → Cli → Option (List Cli)) : ∀ (cs : List Cli) (c : Cli) (i : Nat) (p : Pla), plaL d (cs ++ [c]) i p = plaS (plaL d cs i p) c (d (i + cs.length) c)
  | [], _, _, _ => rfl
  | x :: cs, c, i, p => by
    rw [List.cons_append, plaL, plaL, plaL_snoc d cs c (i + 1) _, List.length_cons]
    congr 2
    omega
theorem plaF_next (d : Nat → Cli → Option (List Cli)) (cs : List Cli) (k : Nat) (h : k < cs.length) : plaF d (cs.take (k + 1)) = plaS (plaF d (cs.take k)) cs[k] (d k cs[k]) := by
  rw [List.take_succ_eq_append_getElem h]
  unfold plaF
  rw [plaL_snoc, List.length_take, Nat.zero_add, Nat.min_eq_left (by omega)]
/-- what each clip becomes, in their order -/
def outL (d : Nat → Cli → Option (List Cli)) : List Cli → Nat → List Cli
  | [], _ => []
  | c :: cs, i => (d i c).getD [c] ++ outL d cs (i + 1)
theorem plaL_perm (d : Nat → Cli → Option (List Cli)) : ∀ (cs : List Cli) (i : Nat) (p : Pla), ((plaL d cs i p).kept ++ (plaL d cs i p).gone).Perm ((p.kept ++ p.gone) ++ cs) ∧ ((plaL d cs i p).kept ++ (plaL d cs i p).made).Perm ((p.kept ++ p.made) ++ outL d cs i)
  | [], _, p => by simp [plaL, outL]
  | c :: cs, i, p => by
    obtain ⟨h1, h2⟩ := plaL_perm d cs (i + 1) (plaS p c (d i c))
    rw [plaL, outL]
    refine ⟨h1.trans ?_, h2.trans ?_⟩
    · have : ((plaS p c (d i c)).kept ++ (plaS p c (d i c)).gone).Perm (p.kept ++ p.gone ++ [c]) := by
        unfold plaS
        cases d i c with
        | none =>
          show ((p.kept ++ [c]) ++ p.gone).Perm _
          rw [List.append_assoc, List.append_assoc]
          exact List.Perm.append_left _ List.perm_append_comm
        | some l => show (p.kept ++ (p.gone ++ [c])).Perm _; rw [List.append_assoc]
      have h3 := this.append_right cs
      rw [List.append_assoc (p.kept ++ p.gone)] at h3
      exact h3
    · have : ((plaS p c (d i c)).kept ++ (plaS p c (d i c)).made).Perm (p.kept ++ p.made ++ (d i c).getD [c]) := by
        unfold plaS
        cases d i c with
        | none =>
          show ((p.kept ++ [c]) ++ p.made).Perm _
          rw [List.append_assoc, List.append_assoc]
          exact List.Perm.append_left _ List.perm_append_comm
        | some l => show (p.kept ++ (p.made ++ l)).Perm _; rw [List.append_assoc]; rfl
      have h3 := this.append_right (outL d cs (i + 1))
      rw [List.append_assoc (p.kept ++ p.made)] at h3
      exact h3
theorem plaF_perm (d : Nat → Cli → Option (List Cli)) (cs : List Cli) : ((plaF d cs).kept ++ (plaF d cs).gone).Perm cs ∧ ((plaF d cs).kept ++ (plaF d cs).made).Perm (outL d cs 0) := by
  have := plaL_perm d cs 0 ⟨[], [], []⟩
  exact this
/-- the clips that a plan leads to -/
def plaX (p : Pla) (a b : Int) : List Cli := srtC ((srtC (p.kept ++ p.made)).map (shfC a b))
/-- its steps -/
def plaT (p : Pla) (a b : Int) : List Stp :=
  (if 0 < p.gone.length then [⟨2, p.gone, 0, 0⟩] else []) ++ ((if 0 < p.made.length then [⟨1, p.made, 0, 0⟩] else []) ++ (if b ≠ 0 then [⟨3, [], a, b⟩] else []))
def plaR (nm : ByteArray → Bool) (mx rt tk : Int) (p : Pla) (a b : Int) : List Stp × Int :=
  if ediF nm mx ⟨rt, tk, plaX p a b⟩ ≠ 0 then ([], ediF nm mx ⟨rt, tk, plaX p a b⟩) else (plaT p a b, 0)
theorem shfC_0 (a : Int) (c : Cli) : shfC a 0 c = c := by
  unfold shfC movC
  split
  · simp
  · rfl
theorem applyL_cons {nm : ByteArray → Bool} {mx : Int} {r t : Int} {cs m : List Cli} {s : Stp} {l : List Stp} {i : Nat} (h1 : stepL cs s = (m, 0)) (h2 : ediF nm mx ⟨r, t, m⟩ = 0) : applyL nm mx ⟨r, t, cs⟩ (s :: l) i = applyL nm mx ⟨r, t, m⟩ l (i + 1) := by
  rw [applyL]
  show (if (stepL cs s).2 ≠ 0 then _ else _) = _
  rw [h1]
  rw [if_neg (fun k => k rfl), if_neg (fun k => k h2)]
theorem srt_sub {l m : List Cli} (h : m.Sublist l) (hs : Srt l) : Srt m := srt_of_W (List.Pairwise.sublist h (srtW_of hs))
theorem step_rem {nm : ByteArray → Bool} {mx r t : Int} {cs kept gone : List Cli} (he : ediF nm mx ⟨r, t, cs⟩ = 0) (hp : cs.Perm (gone ++ kept)) :
    ∃ m, stepL cs ⟨2, gone, 0, 0⟩ = (m, 0) ∧ m.Perm kept ∧ ediF nm mx ⟨r, t, m⟩ = 0 := by
  obtain ⟨m, hm, hk⟩ := remsF_perm hp
  refine ⟨m, ?_, hk, ?_⟩
  · unfold stepL
    have h0 : stpF ⟨2, gone, 0, 0⟩ = 0 := by unfold stpF; rw [if_pos (.inr rfl), if_pos ⟨rfl, rfl⟩]
    rw [if_neg (fun k => k h0), if_neg (show ¬ (2 : Int) = 1 by decide), if_pos rfl]
    simp only [hm]
  · obtain ⟨h1, h2, h3, h4⟩ := ediF_parts he
    have hs := (remsF_subl hm).1
    exact ediF_of ⟨h1, Nat.le_trans hs.length_le h2, fun c hc => h3 c (hs.subset hc), srt_sub hs h4⟩
theorem step_pla {nm : ByteArray → Bool} {mx r t : Int} {cs made : List Cli} {X : List Cli} (hp : (cs ++ made).Perm X) (hx : ediF nm mx ⟨r, t, X⟩ = 0) :
    stepL cs ⟨1, made, 0, 0⟩ = (srtC (cs ++ made), 0) ∧ (srtC (cs ++ made)).Perm X ∧ ediF nm mx ⟨r, t, srtC (cs ++ made)⟩ = 0 := by
  have h0 : stpF ⟨1, made, 0, 0⟩ = 0 := by unfold stpF; rw [if_pos (.inl rfl), if_pos ⟨rfl, rfl⟩]
  have h1 := srtC_perm hp
  refine ⟨?_, h1, ediF_perm hx h1 (srtC_srt _)⟩
  unfold stepL
  rw [if_neg (fun k => k h0), if_pos rfl]
theorem any_perm {p : Cli → Bool} {l m : List Cli} (h : l.Perm m) (hm : m.any p = false) : l.any p = false := by
  rw [Bool.eq_false_iff]
  intro k
  obtain ⟨x, hx, hp⟩ := List.any_eq_true.1 k
  have := List.any_eq_true.2 ⟨x, h.subset hx, hp⟩
  rw [hm] at this; cases this
theorem step_shf {nm : ByteArray → Bool} {mx r t : Int} {cs : List Cli} {a b : Int} {X : List Cli} (hr : rngF ⟨3, [], a, b⟩ = 0) (hc : cs.any (clsh ⟨3, [], a, b⟩) = false) (hp : (cs.map (shfC a b)).Perm X) (hx : ediF nm mx ⟨r, t, X⟩ = 0) :
    stepL cs ⟨3, [], a, b⟩ = (srtC (cs.map (shfC a b)), 0) ∧ (srtC (cs.map (shfC a b))).Perm X ∧ ediF nm mx ⟨r, t, srtC (cs.map (shfC a b))⟩ = 0 := by
  have h0 : stpF ⟨3, [], a, b⟩ = 0 := by
    unfold stpF
    rw [if_neg (show ¬ ((3 : Int) = 1 ∨ (3 : Int) = 2) by decide), if_pos rfl]; rfl
  have h1 := srtC_perm hp
  refine ⟨?_, h1, ediF_perm hx h1 (srtC_srt _)⟩
  unfold stepL
  rw [if_neg (fun k => k h0), if_neg (show ¬ (3 : Int) = 1 by decide), if_neg (show ¬ (3 : Int) = 2 by decide), if_neg (fun k => k hr), if_neg (by rw [hc]; decide)]
/-- the steps of a plan make the clips that it leads to -/
theorem plan_law {nm : ByteArray → Bool} {mx r t : Int} {cs : List Cli} {p : Pla} {a b : Int} (he : ediF nm mx ⟨r, t, cs⟩ = 0) (hp : cs.Perm (p.kept ++ p.gone)) (hmid : ediF nm mx ⟨r, t, srtC (p.kept ++ p.made)⟩ = 0)
    (hb : b ≠ 0 → rngF ⟨3, [], a, b⟩ = 0 ∧ (p.kept ++ p.made).any (clsh ⟨3, [], a, b⟩) = false) (hx : ediF nm mx ⟨r, t, plaX p a b⟩ = 0) :
    ∃ z k, applyF nm mx ⟨r, t, cs⟩ (plaT p a b) = (z, k, 0) ∧ z.rate = r ∧ z.tracks = t ∧ z.cs.Perm (plaX p a b) ∧ Srt z.cs := by
  have hlen : ¬ 200 < (plaT p a b).length := by
    unfold plaT
    split <;> split <;> split <;> simp
  have hA : applyF nm mx ⟨r, t, cs⟩ (plaT p a b) = applyL nm mx ⟨r, t, cs⟩ (plaT p a b) 0 := by
    unfold applyF
    rw [if_neg (fun k => k he), if_neg hlen]
  rw [hA]
  have hp1 : cs.Perm (p.gone ++ p.kept) := hp.trans List.perm_append_comm
  obtain ⟨m1, i1, e1, q1, r1⟩ : ∃ m1 i1, applyL nm mx ⟨r, t, cs⟩ (plaT p a b) 0 = applyL nm mx ⟨r, t, m1⟩ ((if 0 < p.made.length then [⟨1, p.made, 0, 0⟩] else []) ++ (if b ≠ 0 then [⟨3, [], a, b⟩] else [])) i1 ∧ m1.Perm p.kept ∧ ediF nm mx ⟨r, t, m1⟩ = 0 := by
    unfold plaT
    by_cases hg : 0 < p.gone.length
    · rw [if_pos hg]
      obtain ⟨m, k1, k2, k3⟩ := step_rem he hp1
      exact ⟨m, 1, applyL_cons k1 k3, k2, k3⟩
    · rw [if_neg hg]
      have : p.gone = [] := List.eq_nil_of_length_eq_zero (by omega)
      rw [this] at hp1
      exact ⟨cs, 0, rfl, hp1, he⟩
  rw [e1]
  obtain ⟨m2, i2, e2, q2, r2⟩ : ∃ m2 i2, applyL nm mx ⟨r, t, m1⟩ ((if 0 < p.made.length then [⟨1, p.made, 0, 0⟩] else []) ++ (if b ≠ 0 then [⟨3, [], a, b⟩] else [])) i1 = applyL nm mx ⟨r, t, m2⟩ (if b ≠ 0 then [⟨3, [], a, b⟩] else []) i2 ∧ m2.Perm (p.kept ++ p.made) ∧ ediF nm mx ⟨r, t, m2⟩ = 0 := by
    by_cases hg : 0 < p.made.length
    · rw [if_pos hg]
      have hq : (m1 ++ p.made).Perm (srtC (p.kept ++ p.made)) := (q1.append_right _).trans (srtC_perm (List.Perm.refl _)).symm
      obtain ⟨k1, k2, k3⟩ := step_pla hq hmid
      exact ⟨_, i1 + 1, applyL_cons k1 k3, k2.trans (srtC_perm (List.Perm.refl _)), k3⟩
    · rw [if_neg hg]
      have : p.made = [] := List.eq_nil_of_length_eq_zero (by omega)
      rw [this, List.append_nil]
      exact ⟨m1, i1, rfl, q1, r1⟩
  rw [e2]
  have hX : (plaX p a b).Perm ((p.kept ++ p.made).map (shfC a b)) := srtC_perm ((srtC_perm (List.Perm.refl _)).map _)
  by_cases hb0 : b = 0
  · rw [if_neg (fun k => k hb0)]
    refine ⟨⟨r, t, m2⟩, 0, rfl, rfl, rfl, ?_, (ediF_parts r2).2.2.2⟩
    rw [hb0] at hX ⊢
    have : (p.kept ++ p.made).map (shfC a 0) = p.kept ++ p.made := by
      have : shfC a 0 = id := by funext c; exact shfC_0 a c
      rw [this, List.map_id]
    rw [this] at hX
    exact q2.trans hX.symm
  · rw [if_pos hb0]
    obtain ⟨h1, h2⟩ := hb hb0
    have hq : (m2.map (shfC a b)).Perm (plaX p a b) := (q2.map _).trans hX.symm
    obtain ⟨k1, k2, k3⟩ := step_shf h1 (any_perm q2 h2) hq hx
    refine ⟨⟨r, t, _⟩, 0, applyL_cons (l := []) k1 k3, rfl, rfl, k2, srtC_srt _⟩
/-- where envelopes are right, or too large alone, an edit's fault does not hang on the order of those that agree -/
def EnvS (c : Cli) : Prop := envF c.ln c.e = 0 ∨ envF c.ln c.e = 2
theorem orZ_zero : ∀ {l : List Int}, orZ l = 0 → ∀ x ∈ l, x = 0
  | [], _, _, h => by simp at h
  | y :: l, h, x, hx => by
    unfold orZ at h
    by_cases hy : y = 0
    · rw [if_pos hy] at h
      rcases List.mem_cons.1 hx with rfl | hx
      · exact hy
      · exact orZ_zero h x hx
    · rw [if_neg hy] at h
      exact absurd h hy
theorem cmpZ_zero {x y : Int} (h : cmpZ x y = 0) : x = y := by
  unfold cmpZ at h
  split at h
  · omega
  · split at h
    · omega
    · omega
theorem cmpK_key {a b : Cli} (h : cmpK a b = 0) : a.tr = b.tr ∧ a.at_ = b.at_ ∧ a.m = b.m ∧ a.ch = b.ch ∧ a.fr = b.fr ∧ a.ln = b.ln := by
  have h1 := orZ_zero h
  exact ⟨cmpZ_zero (h1 _ (by simp)), cmpZ_zero (h1 _ (by simp)), cmpS_zero.1 (h1 _ (by simp)), cmpZ_zero (h1 _ (by simp)), cmpZ_zero (h1 _ (by simp)), cmpZ_zero (h1 _ (by simp))⟩
theorem cliF_agree {nm : ByteArray → Bool} {tk : Int} {a b : Cli} (h : cmpK a b = 0) (ha : EnvS a) (hb : EnvS b) (fa : cliF nm tk a ≠ 0) (fb : cliF nm tk b ≠ 0) : cliF nm tk a = cliF nm tk b := by
  obtain ⟨h1, h2, h3, h4, h5, h6⟩ := cmpK_key h
  have hr : cliR tk a = cliR tk b := by unfold cliR; rw [h1, h2, h4, h5, h6]
  unfold cliF at fa fb ⊢
  rw [h3, hr] at fa ⊢
  cases hn : nm b.m with
  | false => simp
  | true =>
    rw [hn] at fa fb
    simp only [Bool.true_eq_false, if_false] at fa fb ⊢
    cases hq : cliR tk b with
    | false => simp
    | true =>
      rw [hq] at fa fb
      simp only [Bool.true_eq_false, if_false] at fa fb ⊢
      unfold EnvS at ha hb
      omega
theorem firstNZ_ex {f : Nat → Int} : ∀ {n : Nat}, firstNZ f n ≠ 0 → ∃ k, k < n ∧ f k ≠ 0 ∧ (∀ j, j < k → f j = 0) ∧ firstNZ f n = f k
  | 0, h => absurd rfl h
  | n + 1, h => by
    rw [firstNZ] at h ⊢
    by_cases h0 : firstNZ f n = 0
    · rw [if_pos h0] at h ⊢
      exact ⟨n, by omega, h, fun j hj => firstNZ_zer h0 j hj, rfl⟩
    · rw [if_neg h0] at h ⊢
      obtain ⟨k, h1, h2, h3, h4⟩ := firstNZ_ex h0
      exact ⟨k, by omega, h2, h3, h4⟩
theorem ediK_srt {nm : ByteArray → Bool} {e : Edt} (hs : Srt e.cs) {i : Nat} (hi : i < e.cs.length) : ediK nm e i = cliF nm e.tracks (e.cs.getD i dCli) := by
  unfold ediK
  split
  · rfl
  · rename_i h
    rw [if_neg]
    · exact (by simpa using h : cliF nm e.tracks (e.cs.getD i dCli) = 0).symm
    · rintro ⟨h0, h1⟩
      rw [cmpK_neg] at h1
      exact hs i h0 hi (by omega)
/-- the first faulty clip of clips in order -/
theorem srt_first {nm : ByteArray → Bool} {r t : Int} {X : List Cli} (hs : Srt X) (h : firstNZ (ediK nm ⟨r, t, X⟩) X.length ≠ 0) : ∃ c ∈ X, cliF nm t c ≠ 0 ∧ firstNZ (ediK nm ⟨r, t, X⟩) X.length = cliF nm t c ∧ ∀ c' ∈ X, cliF nm t c' ≠ 0 → cmpK c c' ≤ 0 := by
  obtain ⟨k, hk, fk, hz, e⟩ := firstNZ_ex h
  have g : ∀ i (hi : i < X.length), X.getD i dCli = X[i] := fun i hi => by rw [List.getD_eq_getElem?_getD, List.getElem?_eq_getElem hi]; rfl
  have q : ∀ i (hi : i < X.length), ediK nm ⟨r, t, X⟩ i = cliF nm t X[i] := fun i hi => by rw [ediK_srt (e := ⟨r, t, X⟩) hs hi, ← g i hi]
  rw [q k hk] at e fk
  refine ⟨X[k], List.getElem_mem hk, fk, e, fun c' hc hf => ?_⟩
  obtain ⟨j, hj, rfl⟩ := List.getElem_of_mem hc
  rcases Nat.lt_trichotomy j k with h1 | h1 | h1
  · exact absurd ((q j hj).symm.trans (hz j h1)) hf
  · subst h1
    have := cmpK_neg X[j] X[j]; omega
  · exact List.pairwise_iff_getElem.1 (srtW_of hs) k j hk hj h1
theorem srt_none {nm : ByteArray → Bool} {r t : Int} {X : List Cli} (hs : Srt X) (h : firstNZ (ediK nm ⟨r, t, X⟩) X.length = 0) : ∀ c ∈ X, cliF nm t c = 0 := fun c hc => by
  obtain ⟨j, hj, rfl⟩ := List.getElem_of_mem hc
  have h1 := firstNZ_zer h j hj
  rw [ediK_srt (e := ⟨r, t, X⟩) hs hj] at h1
  have g : X.getD j dCli = X[j] := by rw [List.getD_eq_getElem?_getD, List.getElem?_eq_getElem hj]; rfl
  rw [← g]; exact h1
theorem ediF_agree {nm : ByteArray → Bool} {mx r t : Int} {X Y : List Cli} (hp : X.Perm Y) (hX : Srt X) (hY : Srt Y) (hE : ∀ c ∈ X, EnvS c) : ediF nm mx ⟨r, t, X⟩ = ediF nm mx ⟨r, t, Y⟩ := by
  unfold ediF
  split
  · rfl
  · have hl : X.length = Y.length := hp.length_eq
    show (if 300 < X.length then (2 : Int) else _) = if 300 < Y.length then 2 else _
    rw [hl]
    split
    · rfl
    · show firstNZ (ediK nm ⟨r, t, X⟩) Y.length = firstNZ (ediK nm ⟨r, t, Y⟩) Y.length
      rw [← hl]
      conv => rhs; rw [hl]
      by_cases h0 : firstNZ (ediK nm ⟨r, t, X⟩) X.length = 0
      · by_cases h1 : firstNZ (ediK nm ⟨r, t, Y⟩) Y.length = 0
        · rw [h0, h1]
        · obtain ⟨c, hc, hf, _⟩ := srt_first hY h1
          exact absurd (srt_none hX h0 c (hp.symm.subset hc)) hf
      · by_cases h1 : firstNZ (ediK nm ⟨r, t, Y⟩) Y.length = 0
        · obtain ⟨c, hc, hf, _⟩ := srt_first hX h0
          exact absurd (srt_none hY h1 c (hp.subset hc)) hf
        · obtain ⟨c, hc, hf, e, hm⟩ := srt_first hX h0
          obtain ⟨d, hd, gf, e2, gm⟩ := srt_first hY h1
          rw [e, e2]
          have k1 := hm d (hp.symm.subset hd) gf
          have k2 := gm c (hp.subset hc) hf
          have k3 := cmpK_neg c d
          exact cliF_agree (by omega) (hE c hc) (hE d (hp.symm.subset hd)) hf gf
end Go.Dw
