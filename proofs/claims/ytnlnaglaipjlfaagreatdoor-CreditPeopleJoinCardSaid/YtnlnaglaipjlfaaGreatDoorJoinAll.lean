/- Several texts laid into one: Plain: people put together, in either order; Plain: claims put together; people put together are right, or wrong, alike in either order; Plain: how a person is put to persons, by place; Persons in a row of the call's own, each one's names in a row of the call's own; The contracts of slices.Grow (at nil) and slices.Concat at []api.Person, at lists that came in; The contracts of slices.Grow (at nil) and slices.Concat at []api.Claim, at lists that came in; The contract of slices.Clone at []string: a row of the call's own; The contract of slices.Clone at []api.Claim: a row of the call's own; Contracts of Join's closures, and of slices.IndexFunc at them: persons; Contracts of Join's closures, and of slices.IndexFunc at them: claims; The state of Join's loop over persons; a new person put behind; The state of Join's loop over a person's names; What credit.Join gives; people whose slices are nil, or lie somewhere; Join's loop over claims: its state, and its steps; The two sorts of credit.Join: persons by Id, claims by compareClaims; Plain: what Join gives in either order; Plain: all are together that were together before; Plain: how the reference puts people together; it is the same; The states of the reference's loops that put people together; Plain: what both Joins give, and what was together stays together; How people that came in read: nil slices too; Rows of rows of strings; slices.Equal at strings that read alike; The contract of slices.Equal at []api.Claim, and of the reference's SamePeople, where both read alike; The contract of the reference's SamePeople, where both read alike; -/
import Derived.Test.YtnlnaglaipjlfaaGreatDoorPpl
import Derived.Test.YtnlnaglaipjlfaaGreatDoorPplS
import Derived.Lib.AppendZerosOnto
import Derived.Laws.AppendOwnNone
import Derived.Test.YtnlnaglaipjlfaaGreatDoorBase
import Derived.Lib.SliceRun
import Derived.Test.YtnlnaglaipjlfaaGreatDoorProg
import Derived.Test.YtnlnaglaipjlfaaGreatDoorPplA
import Derived.Test.YtnlnaglaipjlfaaGreatDoorPplF
import Derived.Deep.RegionHeld3
import Derived.Test.YtnlnaglaipjlfaaGreatDoorPplH
import Derived.Test.YtnlnaglaipjlfaaGreatDoorPplE
import Derived.Test.YtnlnaglaipjlfaaGreatDoorSortK
import Derived.Test.YtnlnaglaipjlfaaGreatDoorShSort
import Derived.Shelf.SlSortCmp.NoneTotal
import Derived.Test.YtnlnaglaipjlfaaGreatDoorPplG
import Derived.Test.YtnlnaglaipjlfaaGreatDoorDec
import Derived.Test.YtnlnaglaipjlfaaGreatDoorGrp
import Derived.Deep.RegionLaw
import Derived.Test.YtnlnaglaipjlfaaGreatDoorEqS
import Derived.Test.YtnlnaglaipjlfaaGreatDoorRdW0
/- Plain: people put together, in either order. -/
namespace Go.Proofs.YtnlnaglaipjlfaaGreatDoor
open Go.RowKit Go.Dw

theorem same_of_sorted {α : Type} (r : α → α → Prop) (irr : ∀ a, ¬ r a a) (tr : ∀ {a b c}, r a b → r b c → r a c) :
    ∀ (l m : List α), l.Pairwise r → m.Pairwise r → (∀ q, q ∈ l ↔ q ∈ m) → l = m
  | [], [], _, _, _ => rfl
  | [], y :: m, _, _, h => absurd ((h y).2 (by simp)) (by simp)
  | x :: l, [], _, _, h => absurd ((h x).1 (by simp)) (by simp)
  | x :: l, y :: m, hl, hm, h => by
    obtain ⟨hx, hl'⟩ := List.pairwise_cons.1 hl
    obtain ⟨hy, hm'⟩ := List.pairwise_cons.1 hm
    have e : x = y := by
      rcases List.mem_cons.1 ((h x).1 (by simp)) with e | e
      · exact e
      · rcases List.mem_cons.1 ((h y).2 (by simp)) with e2 | e2
        · exact e2.symm
        · exact absurd (tr (hx y e2) (hy x e)) (irr x)
    subst e
    rw [same_of_sorted r irr tr l m hl' hm' fun q => ⟨fun hq => ?_, fun hq => ?_⟩]
    · rcases List.mem_cons.1 ((h q).1 (by simp [hq])) with e | e
      · subst e; exact absurd (hx q hq) (irr q)
      · exact e
    · rcases List.mem_cons.1 ((h q).2 (by simp [hq])) with e | e
      · subst e; exact absurd (hy q hq) (irr q)
      · exact e
/-- names put to names -/
def addNs (ns xs : List ByteArray) : List ByteArray := xs.foldl (fun l s => if memS l s = true then l else l ++ [s]) ns
theorem memS_iff (l : List ByteArray) (q : ByteArray) : memS l q = true ↔ q ∈ l := by simp [memS]
theorem mem_addNs : ∀ (xs ns : List ByteArray) (q : ByteArray), q ∈ addNs ns xs ↔ q ∈ ns ∨ q ∈ xs
  | [], ns, q => by simp [addNs]
  | x :: xs, ns, q => by
    show q ∈ addNs (if memS ns x = true then ns else ns ++ [x]) xs ↔ _
    rw [mem_addNs xs]
    by_cases h : memS ns x = true
    · rw [if_pos h]
      have hx := (memS_iff _ _).1 h
      constructor
      · rintro (h1 | h1)
        · exact .inl h1
        · exact .inr (by simp [h1])
      · rintro (h1 | h1)
        · exact .inl h1
        · rcases List.mem_cons.1 h1 with rfl | h1
          · exact .inl hx
          · exact .inr h1
    · rw [if_neg h]; simp [or_assoc]
theorem nodup_addNs : ∀ (xs ns : List ByteArray), ns.Nodup → (addNs ns xs).Nodup
  | [], ns, h => h
  | x :: xs, ns, h => by
    show (addNs (if memS ns x = true then ns else ns ++ [x]) xs).Nodup
    refine nodup_addNs xs _ ?_
    split
    · exact h
    · rename_i hm
      rw [memS_iff] at hm
      rw [List.nodup_append]
      exact ⟨h, by simp, fun a ha b hb => by simp at hb; subst hb; exact fun e => hm (e ▸ ha)⟩
/-- right names -/
structure NmR (ns : List ByteArray) : Prop where
  ne : ns ≠ []
  ln : ∀ s ∈ ns, isLn s = true
  nd : ns.Nodup
theorem nmR_of {ns : List ByteArray} (h : nmsF ns = 0) : NmR ns := by
  unfold nmsF at h
  split at h
  · omega
  · rename_i h1
    split at h
    · omega
    · have h2 := firstNZ_zero h
      have h3 : ∀ k (hk : k < ns.length), isLn ns[k] = true ∧ memS (ns.take k) ns[k] = false := fun k hk => by
        have := h2 k hk
        unfold namF at this
        rw [getD_at _ _ k hk] at this
        split at this
        · omega
        · split at this
          · omega
          · constructor <;> simp_all
      refine ⟨fun e => h1 (by rw [e]; rfl), fun s hs => ?_, ?_⟩
      · obtain ⟨k, hk, rfl⟩ := List.getElem_of_mem hs; exact (h3 k hk).1
      · rw [List.nodup_iff_pairwise_ne, List.pairwise_iff_getElem]
        intro i j hi hj hij e
        have h4 := (h3 j hj).2
        have h5 : memS (ns.take j) ns[j] = true := by
          rw [memS_iff, ← e]
          exact List.mem_take_iff_getElem.2 ⟨i, by omega, rfl⟩
        rw [h5] at h4; cases h4
theorem NmR.f {ns : List ByteArray} (h : NmR ns) : nmsF ns = if 10 < ns.length then 2 else 0 := by
  have hne := h.ne
  unfold nmsF
  rw [if_neg (fun e => hne (List.eq_nil_of_length_eq_zero e))]
  split
  · rfl
  · refine firstNZ_ok fun k hk => ?_
    unfold namF
    rw [getD_at _ _ k hk, if_neg (by rw [h.ln _ (List.getElem_mem hk)]; decide), if_neg]
    intro hm
    rw [memS_iff] at hm
    obtain ⟨i, hi, e⟩ := List.mem_take_iff_getElem.1 hm
    have hd := List.pairwise_iff_getElem.1 h.nd i k (by omega) hk (by omega)
    exact hd e
theorem NmR.add {l m : List ByteArray} (h : NmR l) (k : NmR m) : NmR (addNs l m) := by
  refine ⟨fun e => ?_, fun s hs => ?_, nodup_addNs _ _ h.nd⟩
  · obtain ⟨x, l', rfl⟩ := List.exists_cons_of_ne_nil h.ne
    have := (mem_addNs m (x :: l') x).2 (.inl (by simp))
    rw [e] at this; simp at this
  · rcases (mem_addNs _ _ _).1 hs with h1 | h1
    · exact h.ln s h1
    · exact k.ln s h1
theorem nmsF_add {l m : List ByteArray} (h : NmR l) (k : NmR m) : nmsF (addNs l m) = nmsF (addNs m l) := by
  rw [(h.add k).f, (k.add h).f]
  have : (addNs l m).length = (addNs m l).length := List.Perm.length_eq ((List.perm_ext_iff_of_nodup (h.add k).nd (k.add h).nd).2 fun q => by rw [mem_addNs, mem_addNs]; exact or_comm)
  rw [this]
/-- a person put to persons -/
def putR : List Psp → Psp → List Psp
  | [], x => [x]
  | y :: l, x => if y.id = x.id then ⟨y.id, addNs y.ns x.ns⟩ :: l else y :: putR l x
def nsOf : List Psp → ByteArray → Option (List ByteArray)
  | [], _ => none
  | x :: l, q => if x.id = q then some x.ns else nsOf l q
def comb : Option (List ByteArray) → Option (List ByteArray) → Option (List ByteArray)
  | none, r => r
  | some l, none => some l
  | some l, some m => some (addNs l m)
theorem comb_none (a : Option (List ByteArray)) : comb a none = a := by cases a <;> rfl
theorem nsOf_put : ∀ (out : List Psp) (x : Psp) (q : ByteArray), nsOf (putR out x) q = if x.id = q then comb (nsOf out q) (some x.ns) else nsOf out q
  | [], x, q => by simp [putR, nsOf, comb]
  | y :: l, x, q => by
    rw [putR]
    by_cases h : y.id = x.id
    · rw [if_pos h]
      simp only [nsOf, h]
      by_cases h2 : x.id = q
      · simp [h2, comb]
      · simp [h2]
    · rw [if_neg h]
      simp only [nsOf]
      rw [nsOf_put l x q]
      by_cases h2 : x.id = q
      · have h3 : ¬ y.id = q := fun e => h (e.trans h2.symm)
        simp [h2, h3]
      · simp [h2]
theorem nsOf_none : ∀ {l : List Psp} {q : ByteArray}, nsOf l q = none ↔ q ∉ l.map Psp.id
  | [], q => by simp [nsOf]
  | x :: l, q => by
    rw [nsOf]
    by_cases h : x.id = q
    · simp [h]
    · rw [if_neg h, nsOf_none]; simp [Ne.symm h, eq_comm]
theorem ids_put : ∀ (out : List Psp) (x : Psp), (x.id ∈ out.map Psp.id → (putR out x).map Psp.id = out.map Psp.id) ∧ (x.id ∉ out.map Psp.id → (putR out x).map Psp.id = out.map Psp.id ++ [x.id])
  | [], x => by simp [putR]
  | y :: l, x => by
    rw [putR]
    by_cases h : y.id = x.id
    · simp [h]
    · rw [if_neg h, List.map_cons, List.map_cons]
      refine ⟨fun hm => ?_, fun hm => ?_⟩
      · rw [(ids_put l x).1 ((List.mem_cons.1 hm).resolve_left fun e => h e.symm)]
      · rw [(ids_put l x).2 fun e => hm (List.mem_cons_of_mem _ e)]; rfl
theorem nodup_put {out : List Psp} {x : Psp} (h : (out.map Psp.id).Nodup) : ((putR out x).map Psp.id).Nodup := by
  by_cases hm : x.id ∈ out.map Psp.id
  · rw [(ids_put out x).1 hm]; exact h
  · rw [(ids_put out x).2 hm, List.nodup_append]
    exact ⟨h, by simp, fun a ha b hb => by simp at hb; subst hb; exact fun e => hm (e ▸ ha)⟩
theorem nodup_joi : ∀ (l out : List Psp), (out.map Psp.id).Nodup → ((l.foldl putR out).map Psp.id).Nodup
  | [], _, h => h
  | _ :: l, _, h => nodup_joi l _ (nodup_put h)
theorem nsOf_joi : ∀ (l out : List Psp) (q : ByteArray), (l.map Psp.id).Nodup → nsOf (l.foldl putR out) q = comb (nsOf out q) (nsOf l q)
  | [], out, q, _ => by simp [nsOf, comb_none]
  | x :: l, out, q, h => by
    rw [List.map_cons, List.nodup_cons] at h
    rw [List.foldl_cons, nsOf_joi l _ q h.2, nsOf_put, nsOf]
    by_cases h2 : x.id = q
    · subst h2
      rw [if_pos rfl, if_pos rfl, nsOf_none.2 h.1, comb_none]
    · rw [if_neg h2, if_neg h2]
/-- persons put together -/
def joiP (a b : List Psp) : List Psp := (a ++ b).foldl putR []
theorem nsOf_joiP {a b : List Psp} (ha : (a.map Psp.id).Nodup) (hb : (b.map Psp.id).Nodup) (q : ByteArray) : nsOf (joiP a b) q = comb (nsOf a q) (nsOf b q) := by
  rw [joiP, List.foldl_append, nsOf_joi b _ q hb, nsOf_joi a [] q ha]; rfl
theorem nodup_joiP (a b : List Psp) : ((joiP a b).map Psp.id).Nodup := nodup_joi _ [] (by simp)
theorem nsOf_some : ∀ {l : List Psp} {q : ByteArray} {ns : List ByteArray}, (l.map Psp.id).Nodup → (nsOf l q = some ns ↔ (⟨q, ns⟩ : Psp) ∈ l)
  | [], q, ns, _ => by simp [nsOf]
  | x :: l, q, ns, h => by
    rw [List.map_cons, List.nodup_cons] at h
    rw [nsOf]
    by_cases h2 : x.id = q
    · rw [if_pos h2]
      constructor
      · intro e; injection e with e; subst h2 e; simp
      · intro hm
        rcases List.mem_cons.1 hm with e | e
        · rw [← e]
        · exact absurd (List.mem_map.2 ⟨_, e, h2.symm⟩) h.1
    · rw [if_neg h2, nsOf_some h.2]
      constructor
      · intro hm; simp [hm]
      · intro hm
        rcases List.mem_cons.1 hm with e | e
        · exact absurd (by rw [← e]) h2
        · exact e
theorem nsOf_perm {l m : List Psp} (h : l.Perm m) (hd : (m.map Psp.id).Nodup) (q : ByteArray) : nsOf l q = nsOf m q := by
  have hd2 : (l.map Psp.id).Nodup := (h.map Psp.id).symm.nodup hd
  apply Option.ext
  intro ns
  rw [nsOf_some hd2, nsOf_some hd, h.mem_iff]
/-- persons whose Ids are the same, and whose names have the same fault -/
structure Alike (p q : List Psp) : Prop where
  ids : p.map Psp.id = q.map Psp.id
  nms : ∀ i (h : i < p.length) (h' : i < q.length), nmsF p[i].ns = nmsF q[i].ns
theorem psR_nodup {l : List Psp} (h : PsR l) : (l.map Psp.id).Nodup := by
  rw [List.nodup_iff_pairwise_ne, List.pairwise_map, List.pairwise_iff_getElem]
  intro i j hi hj hij e
  have := h.inj hi hj e
  omega
theorem ids_mem {l : List Psp} {q : ByteArray} : q ∈ l.map Psp.id ↔ nsOf l q ≠ none := by
  rw [ne_eq, nsOf_none]; simp
theorem comb_ne {a b : Option (List ByteArray)} : comb a b ≠ none ↔ a ≠ none ∨ b ≠ none := by
  cases a <;> cases b <;> simp [comb]
theorem pw_ids {P : List Psp} (h : P.Pairwise fun x y => decide (sLt y.id x.id) = false) (hd : (P.map Psp.id).Nodup) : (P.map Psp.id).Pairwise sLt := by
  rw [List.nodup_iff_pairwise_ne, List.pairwise_map] at hd
  rw [List.pairwise_map]
  refine (h.and hd).imp fun {x y} hxy => ?_
  rcases sLt_tri x.id y.id with h1 | h1 | h1
  · exact h1
  · exact absurd h1 hxy.2
  · have := hxy.1; rw [decide_eq_true h1] at this; cases this
theorem alike_joi {a b P Q : List Psp} (ha : PsR a) (hb : PsR b) (hP : P.Perm (joiP a b)) (hQ : Q.Perm (joiP b a))
    (sP : P.Pairwise fun x y => decide (sLt y.id x.id) = false) (sQ : Q.Pairwise fun x y => decide (sLt y.id x.id) = false) : Alike P Q := by
  have dP : (P.map Psp.id).Nodup := (hP.map Psp.id).symm.nodup (nodup_joiP a b)
  have dQ : (Q.map Psp.id).Nodup := (hQ.map Psp.id).symm.nodup (nodup_joiP b a)
  have nP : ∀ q, nsOf P q = comb (nsOf a q) (nsOf b q) := fun q => by rw [nsOf_perm hP (nodup_joiP a b), nsOf_joiP (psR_nodup ha) (psR_nodup hb)]
  have nQ : ∀ q, nsOf Q q = comb (nsOf b q) (nsOf a q) := fun q => by rw [nsOf_perm hQ (nodup_joiP b a), nsOf_joiP (psR_nodup hb) (psR_nodup ha)]
  have hids : P.map Psp.id = Q.map Psp.id := by
    refine same_of_sorted sLt sLt_irr (fun h k => sLt_trans h k) _ _ (pw_ids sP dP) (pw_ids sQ dQ) fun q => ?_
    rw [ids_mem, ids_mem, nP, nQ, comb_ne, comb_ne]
    exact or_comm
  have hns : ∀ {l : List Psp}, PsR l → ∀ {q ns}, nsOf l q = some ns → NmR ns := fun {l} hl {q ns} h => by
    have := (nsOf_some (psR_nodup hl)).1 h
    obtain ⟨i, hi, e⟩ := List.getElem_of_mem this
    have h2 := hl.nms i hi
    rw [e] at h2
    exact nmR_of h2
  refine ⟨hids, fun i hi hi' => ?_⟩
  have h1 : nsOf P P[i].id = some P[i].ns := (nsOf_some dP).2 (List.getElem_mem hi)
  have h2 : nsOf Q Q[i].id = some Q[i].ns := (nsOf_some dQ).2 (List.getElem_mem hi')
  have hid : P[i].id = Q[i].id := by
    have e1 : (P.map Psp.id)[i]? = (Q.map Psp.id)[i]? := by rw [hids]
    simpa [hi, hi'] using e1
  rw [← hid, nQ] at h2
  rw [nP] at h1
  cases hA : nsOf a P[i].id with
  | none =>
    rw [hA] at h1 h2
    rw [comb_none] at h2
    have h1' : nsOf b P[i].id = some P[i].ns := h1
    rw [h1'] at h2; injection h2 with h2; rw [h2]
  | some l =>
    cases hB : nsOf b P[i].id with
    | none =>
      rw [hA, hB] at h1 h2
      injection h1 with h1; injection h2 with h2; rw [← h1, ← h2]
    | some m =>
      rw [hA, hB] at h1 h2
      injection h1 with h1; injection h2 with h2; rw [← h1, ← h2]
      exact nmsF_add (hns ha hA) (hns hb hB)
end Go.Proofs.YtnlnaglaipjlfaaGreatDoor
/- Plain: claims put together; people put together are right, or wrong, alike in either order. -/
namespace Go.Proofs.YtnlnaglaipjlfaaGreatDoor
open Go.RowKit Go.Dw

def Clm.k (c : Clm) : ByteArray × ByteArray := (c.a, c.b)
theorem Clm.ext' {c d : Clm} (h : c.k = d.k) (h2 : c.s = d.s) : c = d := by
  cases c; cases d; simp [Clm.k] at h; simp at h2; simp [h, h2]
def putC : List Clm → Clm → List Clm
  | [], c => [c]
  | d :: l, c => if d.k = c.k then d :: l else d :: putC l c
def sOf : List Clm → ByteArray × ByteArray → Option Bool
  | [], _ => none
  | d :: l, q => if d.k = q then some d.s else sOf l q
/-- a claim that was made otherwise -/
def oth (out : List Clm) (c : Clm) : Bool := decide (sOf out c.k = some (!c.s))
theorem sOf_put : ∀ (out : List Clm) (c : Clm) (q : ByteArray × ByteArray), sOf (putC out c) q = if c.k = q then (sOf out q).or (some c.s) else sOf out q
  | [], c, q => by simp [putC, sOf]
  | d :: l, c, q => by
    rw [putC]
    by_cases h : d.k = c.k
    · rw [if_pos h]
      simp only [sOf, h]
      by_cases h2 : c.k = q
      · simp [h2]
      · simp [h2]
    · rw [if_neg h]
      simp only [sOf]
      rw [sOf_put l c q]
      by_cases h2 : c.k = q
      · have h3 : ¬ d.k = q := fun e => h (e.trans h2.symm)
        simp [h2, h3]
      · simp [h2]
theorem sOf_none : ∀ {l : List Clm} {q}, sOf l q = none ↔ q ∉ l.map Clm.k
  | [], q => by simp [sOf]
  | x :: l, q => by
    rw [sOf]
    by_cases h : x.k = q
    · simp [h]
    · rw [if_neg h, sOf_none]; simp [Ne.symm h, eq_comm]
theorem keys_put : ∀ (out : List Clm) (x : Clm), (x.k ∈ out.map Clm.k → (putC out x).map Clm.k = out.map Clm.k) ∧ (x.k ∉ out.map Clm.k → (putC out x).map Clm.k = out.map Clm.k ++ [x.k])
  | [], x => by simp [putC]
  | y :: l, x => by
    rw [putC]
    by_cases h : y.k = x.k
    · simp [h]
    · rw [if_neg h, List.map_cons, List.map_cons]
      refine ⟨fun hm => ?_, fun hm => ?_⟩
      · rw [(keys_put l x).1 ((List.mem_cons.1 hm).resolve_left fun e => h e.symm)]
      · rw [(keys_put l x).2 fun e => hm (List.mem_cons_of_mem _ e)]; rfl
theorem nodup_putC {out : List Clm} {x : Clm} (h : (out.map Clm.k).Nodup) : ((putC out x).map Clm.k).Nodup := by
  by_cases hm : x.k ∈ out.map Clm.k
  · rw [(keys_put out x).1 hm]; exact h
  · rw [(keys_put out x).2 hm, List.nodup_append]
    exact ⟨h, by simp, fun a ha b hb => by simp at hb; subst hb; exact fun e => hm (e ▸ ha)⟩
theorem nodup_joiC' : ∀ (l out : List Clm), (out.map Clm.k).Nodup → ((l.foldl putC out).map Clm.k).Nodup
  | [], _, h => h
  | _ :: l, _, h => nodup_joiC' l _ (nodup_putC h)
theorem sOf_joi : ∀ (l out : List Clm) (q), (l.map Clm.k).Nodup → sOf (l.foldl putC out) q = (sOf out q).or (sOf l q)
  | [], out, q, _ => by simp [sOf]
  | x :: l, out, q, h => by
    rw [List.map_cons, List.nodup_cons] at h
    rw [List.foldl_cons, sOf_joi l _ q h.2, sOf_put, sOf]
    by_cases h2 : x.k = q
    · subst h2
      rw [if_pos rfl, if_pos rfl, sOf_none.2 h.1]; simp
    · rw [if_neg h2, if_neg h2]
/-- whether a claim is made otherwise, on the way -/
def badC : List Clm → List Clm → Bool
  | _, [] => false
  | out, c :: l => oth out c || badC (putC out c) l
theorem badC_any : ∀ (l out : List Clm), (l.map Clm.k).Nodup → badC out l = l.any (oth out)
  | [], _, _ => rfl
  | c :: l, out, h => by
    rw [List.map_cons, List.nodup_cons] at h
    rw [badC, badC_any l _ h.2, List.any_cons]
    congr 1
    have key : ∀ d ∈ l, oth (putC out c) d = oth out d := fun d hd => by
      have hk : ¬ c.k = d.k := fun e => h.1 (List.mem_map.2 ⟨d, hd, e.symm⟩)
      simp only [oth, sOf_put, if_neg hk]
    rw [Bool.eq_iff_iff, List.any_eq_true, List.any_eq_true]
    exact ⟨fun ⟨d, hd, hh⟩ => ⟨d, hd, (key d hd) ▸ hh⟩, fun ⟨d, hd, hh⟩ => ⟨d, hd, (key d hd).symm ▸ hh⟩⟩
theorem badC_app : ∀ (a out b : List Clm), badC out (a ++ b) = (badC out a || badC (a.foldl putC out) b)
  | [], out, b => by simp [badC]
  | c :: a, out, b => by rw [List.cons_append, badC, badC, badC_app a, List.foldl_cons, Bool.or_assoc]
def joiC (a b : List Clm) : List Clm := (a ++ b).foldl putC []
theorem sOf_joiC {a b : List Clm} (ha : (a.map Clm.k).Nodup) (hb : (b.map Clm.k).Nodup) (q) : sOf (joiC a b) q = (sOf a q).or (sOf b q) := by
  rw [joiC, List.foldl_append, sOf_joi b _ q hb, sOf_joi a [] q ha]; simp [sOf]
theorem nodup_joiC (a b : List Clm) : ((joiC a b).map Clm.k).Nodup := nodup_joiC' _ [] (by simp)
theorem sOf_some : ∀ {l : List Clm} {c : Clm}, (l.map Clm.k).Nodup → (sOf l c.k = some c.s ↔ c ∈ l)
  | [], c, _ => by simp [sOf]
  | x :: l, c, h => by
    rw [List.map_cons, List.nodup_cons] at h
    rw [sOf]
    by_cases h2 : x.k = c.k
    · rw [if_pos h2]
      constructor
      · intro e; injection e with e; rw [Clm.ext' h2 e]; simp
      · intro hm
        rcases List.mem_cons.1 hm with e | e
        · rw [e]
        · exact absurd (List.mem_map.2 ⟨_, e, h2.symm⟩) h.1
    · rw [if_neg h2, sOf_some h.2]
      constructor
      · intro hm; simp [hm]
      · intro hm
        rcases List.mem_cons.1 hm with e | e
        · exact absurd (by rw [e]) h2
        · exact e
theorem sOf_perm {l m : List Clm} (h : l.Perm m) (hd : (m.map Clm.k).Nodup) (q) : sOf l q = sOf m q := by
  have hd2 : (l.map Clm.k).Nodup := (h.map Clm.k).symm.nodup hd
  apply Option.ext
  intro s
  have h1 := sOf_some (c := ⟨q.1, q.2, s⟩) hd2
  have h2 := sOf_some (c := ⟨q.1, q.2, s⟩) hd
  exact h1.trans (h.mem_iff.trans h2.symm)
theorem bad_iff {a b : List Clm} (ha : (a.map Clm.k).Nodup) (hb : (b.map Clm.k).Nodup) : badC [] (a ++ b) = true ↔ ∃ q s, sOf a q = some s ∧ sOf b q = some (!s) := by
  rw [badC_app, badC_any a [] ha, badC_any b _ hb]
  have e1 : (a.any (oth [])) = false := by simp [oth, sOf]
  rw [e1, Bool.false_or, List.any_eq_true]
  constructor
  · rintro ⟨c, hc, h⟩
    have h2 := of_decide_eq_true h
    rw [sOf_joi a [] _ ha] at h2
    exact ⟨c.k, !c.s, by simpa [sOf] using h2, by rw [Bool.not_not]; exact (sOf_some hb).2 hc⟩
  · rintro ⟨q, s, h1, h2⟩
    refine ⟨⟨q.1, q.2, !s⟩, (sOf_some (c := ⟨q.1, q.2, !s⟩) hb).1 h2, decide_eq_true ?_⟩
    rw [sOf_joi a [] _ ha]
    simp only [Bool.not_not]
    have : sOf a (⟨q.1, q.2, !s⟩ : Clm).k = some s := h1
    rw [this]; simp [sOf]
theorem bad_comm {a b : List Clm} (ha : (a.map Clm.k).Nodup) (hb : (b.map Clm.k).Nodup) : badC [] (a ++ b) = badC [] (b ++ a) := by
  rw [Bool.eq_iff_iff, bad_iff ha hb, bad_iff hb ha]
  constructor
  · rintro ⟨q, s, h1, h2⟩; exact ⟨q, !s, h2, by rw [Bool.not_not]; exact h1⟩
  · rintro ⟨q, s, h1, h2⟩; exact ⟨q, !s, h2, by rw [Bool.not_not]; exact h1⟩
/-- the order of claims -/
def clR (c d : Clm) : Prop := clLt c d = true
theorem clLt_iff (c d : Clm) : clLt c d = true ↔ sLt c.a d.a ∨ (c.a = d.a ∧ sLt c.b d.b) := by simp [clLt]
theorem clR_irr (c : Clm) : ¬ clR c c := fun h => by
  rcases (clLt_iff _ _).1 h with h | ⟨_, h⟩
  · exact sLt_irr _ h
  · exact sLt_irr _ h
theorem clR_trans {c d e : Clm} (h : clR c d) (k : clR d e) : clR c e := by
  refine (clLt_iff _ _).2 ?_
  rcases (clLt_iff _ _).1 h with h | ⟨h1, h2⟩ <;> rcases (clLt_iff _ _).1 k with k | ⟨k1, k2⟩
  · exact .inl (sLt_trans h k)
  · exact .inl (k1 ▸ h)
  · exact .inl (h1 ▸ k)
  · exact .inr ⟨h1.trans k1, sLt_trans h2 k2⟩
theorem clR_tri (c d : Clm) : clR c d ∨ c.k = d.k ∨ clR d c := by
  unfold clR
  rw [clLt_iff, clLt_iff]
  rcases sLt_tri c.a d.a with h | h | h
  · exact .inl (.inl h)
  · rcases sLt_tri c.b d.b with k | k | k
    · exact .inl (.inr ⟨h, k⟩)
    · exact .inr (.inl (by simp [Clm.k, h, k]))
    · exact .inr (.inr (.inr ⟨h.symm, k⟩))
  · exact .inr (.inr (.inl h))
theorem ClR.nodup {ps : List Psp} {cs : List Clm} (h : ClR ps cs) : (cs.map Clm.k).Nodup := by
  have hlt : ∀ (d i : Nat) (hj : i + d + 1 < cs.length), clR (cs[i]'(by omega)) cs[i + d + 1] := by
    intro d
    induction d with
    | zero => exact fun i hj => h.ord i hj
    | succ d ih => exact fun i hj => clR_trans (ih i (by omega)) (h.ord (i + d + 1) hj)
  rw [List.nodup_iff_pairwise_ne, List.pairwise_map, List.pairwise_iff_getElem]
  intro i j hi hj hij e
  have h1 := hlt (j - i - 1) i (by omega)
  have e2 : i + (j - i - 1) + 1 = j := by omega
  simp only [e2] at h1
  simp only [Clm.k, Prod.mk.injEq] at e
  rcases (clLt_iff _ _).1 h1 with h2 | ⟨_, h2⟩
  · rw [e.1] at h2; exact sLt_irr _ h2
  · rw [e.2] at h2; exact sLt_irr _ h2
theorem pw_cls {P : List Clm} (h : P.Pairwise fun x y => clLt y x = false) (hd : (P.map Clm.k).Nodup) : P.Pairwise clR := by
  rw [List.nodup_iff_pairwise_ne, List.pairwise_map] at hd
  refine (h.and hd).imp fun {x y} hxy => ?_
  rcases clR_tri x y with h1 | h1 | h1
  · exact h1
  · exact absurd h1 hxy.2
  · have := hxy.1; rw [h1] at this; cases this
theorem claims_joi {a b P Q : List Clm} (ha : (a.map Clm.k).Nodup) (hb : (b.map Clm.k).Nodup) (hP : P.Perm (joiC a b)) (hQ : Q.Perm (joiC b a)) (hbad : badC [] (a ++ b) = false)
    (sP : P.Pairwise fun x y => clLt y x = false) (sQ : Q.Pairwise fun x y => clLt y x = false) : P = Q := by
  have dP : (P.map Clm.k).Nodup := (hP.map Clm.k).symm.nodup (nodup_joiC a b)
  have dQ : (Q.map Clm.k).Nodup := (hQ.map Clm.k).symm.nodup (nodup_joiC b a)
  refine same_of_sorted clR clR_irr clR_trans _ _ (pw_cls sP dP) (pw_cls sQ dQ) fun c => ?_
  rw [← sOf_some dP, ← sOf_some dQ, sOf_perm hP (nodup_joiC a b), sOf_perm hQ (nodup_joiC b a), sOf_joiC ha hb, sOf_joiC hb ha]
  have hno : ∀ s, ¬ (sOf a c.k = some s ∧ sOf b c.k = some (!s)) := fun s hs => by
    have := (bad_iff ha hb).2 ⟨_, s, hs⟩
    rw [hbad] at this; cases this
  cases hA : sOf a c.k with
  | none => cases hB : sOf b c.k <;> simp
  | some s =>
    cases hB : sOf b c.k with
    | none => simp
    | some t =>
      have := hno s
      rw [hA, hB] at this
      have hst : s = t := by cases s <;> cases t <;> simp_all
      rw [hst]
/-- people alike are right alike, and have the same groups -/
theorem ixP_ids : ∀ (p : List Psp) (q : ByteArray), ixP p q = (p.map Psp.id).findIdx fun x => decide (x = q) := fun p q => by
  simp [ixP, List.findIdx_map, Function.comp_def]
theorem Alike.len {p q : List Psp} (h : Alike p q) : p.length = q.length := by
  have := congrArg List.length h.ids; simpa using this
theorem Alike.ix {p q : List Psp} (h : Alike p q) : ixP p = ixP q := by funext x; rw [ixP_ids, ixP_ids, h.ids]
theorem Alike.id {p q : List Psp} (h : Alike p q) : idAt p = idAt q := by
  funext i
  unfold idAt
  by_cases hi : i < p.length
  · rw [getD_at _ _ i hi, getD_at _ _ i (by rw [← h.len]; exact hi)]
    have e1 : (p.map Psp.id)[i]? = (q.map Psp.id)[i]? := by rw [h.ids]
    have hi' : i < q.length := by rw [← h.len]; exact hi
    simpa [hi, hi'] using e1
  · simp [List.getD_eq_getElem?_getD, List.getElem?_eq_none (by omega : p.length ≤ i), List.getElem?_eq_none (by rw [← h.len]; omega : q.length ≤ i)]
theorem Alike.ns {p q : List Psp} (h : Alike p q) (i : Nat) : nmsF (p.getD i dPsp).ns = nmsF (q.getD i dPsp).ns := by
  by_cases hi : i < p.length
  · rw [getD_at _ _ i hi, getD_at _ _ i (by rw [← h.len]; exact hi)]
    exact h.nms i hi (by rw [← h.len]; exact hi)
  · simp [List.getD_eq_getElem?_getD, List.getElem?_eq_none (by omega : p.length ≤ i), List.getElem?_eq_none (by rw [← h.len]; omega : q.length ≤ i)]
theorem Alike.psF {p q : List Psp} (h : Alike p q) : psF p = psF q := by
  funext i
  have h1 := congrFun h.id i
  have h2 := congrFun h.id (i - 1)
  unfold idAt at h1 h2
  unfold Go.Proofs.YtnlnaglaipjlfaaGreatDoor.psF
  rw [h1, h2, h.ns]
theorem Alike.clF {p q : List Psp} (h : Alike p q) (cs : List Clm) : clF p cs = clF q cs := by
  funext i
  unfold Go.Proofs.YtnlnaglaipjlfaaGreatDoor.clF
  rw [h.ix, h.len]
theorem Alike.lab {p q : List Psp} (h : Alike p q) (cs : List Clm) : lab ⟨p, cs⟩ = lab ⟨q, cs⟩ := by
  unfold Go.Proofs.YtnlnaglaipjlfaaGreatDoor.lab edg
  simp only [h.ix]
theorem Alike.peoF {p q : List Psp} (h : Alike p q) (cs : List Clm) : peoF ⟨p, cs⟩ = peoF ⟨q, cs⟩ := by
  have hc : clash ⟨p, cs⟩ = clash ⟨q, cs⟩ := by
    funext k
    unfold clash
    rw [h.lab, h.ix]
  unfold Go.Proofs.YtnlnaglaipjlfaaGreatDoor.peoF
  rw [hc, h.psF, h.clF, h.len]
theorem Alike.grps {p q : List Psp} (h : Alike p q) (cs : List Clm) (n : Nat) : grpsF ⟨p, cs⟩ n = grpsF ⟨q, cs⟩ n := by
  have e1 : ledF ⟨p, cs⟩ n = ledF ⟨q, cs⟩ n := by unfold ledF; rw [h.lab]
  have e2 : grpF ⟨p, cs⟩ n = grpF ⟨q, cs⟩ n := by funext m; unfold grpF; rw [h.lab, h.id]
  unfold grpsF
  rw [e1, e2]
end Go.Proofs.YtnlnaglaipjlfaaGreatDoor
/- Plain: how a person is put to persons, by place. -/
namespace Go.Proofs.YtnlnaglaipjlfaaGreatDoor
open Go.RowKit Go.Dw

theorem ixP_cons (y : Psp) (l : List Psp) (q : ByteArray) : ixP (y :: l) q = if y.id = q then 0 else ixP l q + 1 := by
  unfold ixP
  rw [List.findIdx_cons]
  by_cases h : y.id = q <;> simp [h]
theorem putR_new : ∀ {out : List Psp} {x : Psp}, ¬ ixP out x.id < out.length → putR out x = out ++ [x]
  | [], x, _ => rfl
  | y :: l, x, h => by
    rw [ixP_cons] at h
    rw [putR]
    by_cases e : y.id = x.id
    · rw [if_pos e] at h; simp at h
    · rw [if_neg e] at h ⊢
      rw [putR_new (by simpa using h)]; rfl
theorem putR_old : ∀ {out : List Psp} {x : Psp} (h : ixP out x.id < out.length), putR out x = out.set (ixP out x.id) ⟨x.id, addNs (out[ixP out x.id]).ns x.ns⟩
  | [], x, h => by simp at h
  | y :: l, x, h => by
    have h1 := ixP_cons y l x.id
    rw [putR]
    by_cases e : y.id = x.id
    · rw [if_pos e] at h1 ⊢
      simp only [h1, List.set_cons_zero, List.getElem_cons_zero, e]
    · rw [if_neg e] at h1 ⊢
      have h2 : ixP l x.id < l.length := by rw [h1] at h; simpa using h
      simp only [h1, List.set_cons_succ, List.getElem_cons_succ]
      rw [putR_old h2]
theorem joi_succ (l : List Psp) (k : Nat) (h : k < l.length) : (l.take (k + 1)).foldl putR [] = putR ((l.take k).foldl putR []) l[k] := by
  rw [List.take_succ_eq_append_getElem h, List.foldl_append]; rfl
theorem addNs_succ (ns xs : List ByteArray) (j : Nat) (h : j < xs.length) : addNs ns (xs.take (j + 1)) = if memS (addNs ns (xs.take j)) xs[j] = true then addNs ns (xs.take j) else addNs ns (xs.take j) ++ [xs[j]] := by
  rw [List.take_succ_eq_append_getElem h]
  unfold addNs
  rw [List.foldl_append]; rfl
theorem addNs_len : ∀ (xs ns : List ByteArray), (addNs ns xs).length ≤ ns.length + xs.length
  | [], ns => by simp [addNs]
  | x :: xs, ns => by
    have := addNs_len xs (if memS ns x = true then ns else ns ++ [x])
    show (addNs (if memS ns x = true then ns else ns ++ [x]) xs).length ≤ _
    split at this
    · rename_i h; rw [if_pos h]; simp; omega
    · rename_i h; rw [if_neg h]; simp at this ⊢; omega
theorem nms_le {ns : List ByteArray} (h : nmsF ns = 0) : ns.length ≤ 10 := by
  unfold nmsF at h
  split at h
  · omega
  · split at h <;> omega
end Go.Proofs.YtnlnaglaipjlfaaGreatDoor
/- Persons in a row of the call's own, each one's names in a row of the call's own. -/
namespace Go.Proofs.YtnlnaglaipjlfaaGreatDoor
open Go.RowKit Go.Dw Go.Maps

structure GP (T S : TypeId) (w : World) (B : Nat) (ov : Value) (R : List Psn) : Prop where
  o : w.ownsRow B T 2 ov R.length (R.flatMap Psn.cs)
  r : ∀ i (h : i < R.length), w.ownsRow B S 1 R[i].s.v R[i].s.xs.length (sb R[i].s.xs)
  d : ∀ i (h : i < R.length), ∀ b, R[i].s.v.ownBlock = some b → ov.ownBlock ≠ some b
  p : ∀ i j (hi : i < R.length) (hj : j < R.length), i ≠ j → ∀ b, R[i].s.v.ownBlock = some b → R[j].s.v.ownBlock ≠ some b
section
variable {T S : TypeId} {w w' : World} {B : Nat} {ov : Value} {R : List Psn}
theorem GP.nil (T S : TypeId) (w : World) (B : Nat) : GP T S w B (.slice none 0 0) [] :=
  ⟨World.ownsRow_nil _ _ _ _, fun i h => by simp at h, fun i h => by simp at h, fun i j h => by simp at h⟩
theorem GP.below (h : GP T S w B ov R) (hb : Below w.heap.size w w') : GP T S w' B ov R :=
  ⟨own_belowL h.o hb, fun i hi => own_belowL (h.r i hi) hb, h.d, h.p⟩
/-- a store far from all rows -/
theorem GP.keep (h : GP T S w B ov R) {row : Option Nat} (hg : w.grownBy w' row) (ho : ∀ b, ov.ownBlock = some b → row ≠ some b) (hr : ∀ i (hi : i < R.length), ∀ b, R[i].s.v.ownBlock = some b → row ≠ some b) : GP T S w' B ov R :=
  ⟨own_keep h.o hg ho, fun i hi => own_keep (h.r i hi) hg (hr i hi), h.d, h.p⟩
/-- a person put behind -/
theorem GP.snoc (h : GP T S w B ov R) {g cap n : Nat} {m : Psn} (hn : n = R.length + 1) (hm : w.ownsRow B S 1 m.s.v m.s.xs.length (sb m.s.xs)) (hmo : ∀ b, m.s.v.ownBlock = some b → ov.ownBlock ≠ some b) (hmr : ∀ i (hi : i < R.length), ∀ b, R[i].s.v.ownBlock = some b → m.s.v.ownBlock ≠ some b)
    (ho : w'.ownsRow B T 2 (.slice (some ⟨g, 0, none⟩) n cap) n (R.flatMap Psn.cs ++ m.cs)) (hg : w.grownBy w' ov.ownBlock) (hat : ov.ownBlock = some g ∨ g = w.heap.size) :
    GP T S w' B (.slice (some ⟨g, 0, none⟩) n cap) (R ++ [m]) := by
  subst hn
  have hlast : ∀ i (hi : i < (R ++ [m]).length), i < R.length ∨ (i = R.length ∧ (R ++ [m])[i] = m) := fun i hi => by
    by_cases h1 : i < R.length
    · exact .inl h1
    · right
      have h2 : i = R.length := by simp at hi; omega
      subst h2
      exact ⟨rfl, by rw [List.getElem_append_right (Nat.le_refl _)]; simp⟩
  have hget : ∀ i (hi : i < R.length), (R ++ [m])[i]'(by simp; omega) = R[i] := fun i hi => List.getElem_append_left hi
  refine ⟨?_, fun i hi => ?_, fun i hi b hb => ?_, fun i j hi hj hij b hb => ?_⟩
  · rw [List.length_append, List.flatMap_append]
    simp only [List.length_cons, List.length_nil, List.flatMap_cons, List.flatMap_nil, List.append_nil]
    exact ho
  · rcases hlast i hi with h1 | ⟨_, h1⟩
    · rw [hget i h1]; exact own_keep (h.r i h1) hg (fun b hb => h.d i h1 b hb)
    · rw [h1]; exact own_keep hm hg (fun b hb => hmo b hb)
  · show some g ≠ some b
    intro e
    injection e with e
    subst e
    rcases hlast i hi with h1 | ⟨_, h1⟩
    · rw [hget i h1] at hb
      rcases hat with h2 | h2
      · exact h.d i h1 _ hb h2
      · have := ((h.r i h1).lt _ hb).2; omega
    · rw [h1] at hb
      rcases hat with h2 | h2
      · exact hmo _ hb h2
      · have := (hm.lt _ hb).2; omega
  · rcases hlast i hi with h1 | ⟨e1, h1⟩
    · rw [hget i h1] at hb
      rcases hlast j hj with h2 | ⟨_, h2⟩
      · rw [hget j h2]; exact h.p i j h1 h2 hij b hb
      · rw [h2]; exact hmr i h1 b hb
    · rw [h1] at hb
      rcases hlast j hj with h2 | ⟨e2, h2⟩
      · rw [hget j h2]; intro e; exact hmr j h2 b e hb
      · omega
theorem flat_set (R : List Psn) : ∀ (i : Nat) (hi : i < R.length) (t : Slc ByteArray), (R.set i ⟨R[i].id, t⟩).flatMap Psn.cs = (R.flatMap Psn.cs).set (i * 2 + 1) t.v := by
  induction R with
  | nil => intro i hi; simp at hi
  | cons x R ih =>
    intro i hi t
    cases i with
    | zero => simp [Psn.cs]
    | succ i =>
      have := ih i (by simpa using hi) t
      simp only [List.set_cons_succ, List.flatMap_cons, List.getElem_cons_succ, this]
      rw [List.set_append_right _ _ (by simp [Psn.cs]; omega)]
      congr 2
      simp only [Psn.cs, List.length_cons, List.length_nil]; omega
/-- a name put behind person i's names, and the slice back -/
theorem GP.push {w1 : World} {g n cap : Nat} (h : GP T S w B (.slice (some ⟨g, 0, none⟩) n cap) R) {i : Nat} (hi : i < R.length) {t : Slc ByteArray} {g' : Nat} (ht : t.v.ownBlock = some g')
    (ho : w1.ownsRow B S 1 t.v t.xs.length (sb t.xs)) (hg : w.grownBy w1 R[i].s.v.ownBlock) (hat : R[i].s.v.ownBlock = some g' ∨ g' = w.heap.size) :
    GP T S (w1.setCell ⟨g, i * 2 + 1, none⟩ t.v) B (.slice (some ⟨g, 0, none⟩) n cap) (R.set i ⟨R[i].id, t⟩) := by
  have hov : (Value.slice (some ⟨g, 0, none⟩) n cap).ownBlock = some g := rfl
  have hgne : g ≠ g' := fun e => by
    rcases hat with h1 | h1
    · exact h.d i hi g' h1 (by rw [hov, e])
    · have := (h.o.lt g hov).2; omega
  have ho1 : w1.ownsRow B T 2 (.slice (some ⟨g, 0, none⟩) n cap) R.length (R.flatMap Psn.cs) := own_keep h.o hg (fun b hb e => h.d i hi b e (by rw [hov] at hb ⊢; exact hb))
  have hlen : n = R.length := by
    rcases h.o.2 with ⟨e, _⟩ | ⟨g2, c2, cur, e, _⟩
    · injection e with e _ _; cases e
    · injection e with _ e _
  subst hlen
  have hset := ho1.stored (i * 2 + 1) t.v
  rw [← flat_set R i hi t] at hset
  have hl' : (R.set i ⟨R[i].id, t⟩).length = R.length := by simp
  have hgi : ∀ j (hj : j < (R.set i ⟨R[i].id, t⟩).length), (j = i ∧ (R.set i ⟨R[i].id, t⟩)[j] = ⟨R[i].id, t⟩) ∨ (j ≠ i ∧ ∃ hj' : j < R.length, (R.set i ⟨R[i].id, t⟩)[j] = R[j]) := fun j hj => by
    have hj' : j < R.length := by omega
    by_cases e : j = i
    · left; subst e; exact ⟨rfl, by rw [List.getElem_set_self]⟩
    · right; exact ⟨e, hj', by rw [List.getElem_set_ne (fun h => e h.symm)]⟩
  have hfar : ∀ {e size k : Nat} {v : Value} {xs : List Value}, w1.ownsRow B e size v k xs → v.ownBlock ≠ some g → (w1.setCell ⟨g, i * 2 + 1, none⟩ t.v).ownsRow B e size v k xs := fun h1 h2 =>
    own_keep h1 hset.2 (fun b hb e => by injection e with e; subst e; exact h2 hb)
  refine ⟨?_, fun j hj => ?_, fun j hj b hb => ?_, fun j k hj hk hjk b hb => ?_⟩
  · rw [hl']; exact hset.1
  · rcases hgi j hj with ⟨_, e⟩ | ⟨hne, hj', e⟩
    · rw [e]
      exact hfar ho (fun e2 => by rw [ht] at e2; injection e2 with e2; exact hgne e2.symm)
    · rw [e]
      refine hfar (own_keep (h.r j hj') hg (fun b hb e2 => h.p i j hi hj' (fun e3 => hne e3.symm) b e2 hb)) (fun e2 => h.d j hj' g e2 hov)
  · rcases hgi j hj with ⟨_, e⟩ | ⟨hne, hj', e⟩
    · rw [e] at hb
      simp only [ht] at hb
      injection hb with hb
      subst hb
      rw [hov]; intro e2; injection e2 with e2; exact hgne e2
    · rw [e] at hb; exact h.d j hj' b hb
  · rcases hgi j hj with ⟨e1, e⟩ | ⟨hne, hj', e⟩
    · rw [e] at hb
      simp only [ht] at hb
      injection hb with hb
      subst hb
      rcases hgi k hk with ⟨e3, _⟩ | ⟨hne2, hk', e2⟩
      · omega
      · rw [e2]
        intro h3
        rcases hat with h1 | h1
        · exact h.p i k hi hk' (fun e4 => hne2 e4.symm) _ h1 h3
        · exact absurd h1 (Nat.ne_of_lt ((h.r k hk').lt _ h3).2)
    · rw [e] at hb
      rcases hgi k hk with ⟨e3, e2⟩ | ⟨hne2, hk', e2⟩
      · rw [e2]
        intro h3
        simp only [ht] at h3
        injection h3 with h3
        subst h3
        rcases hat with h1 | h1
        · exact h.p j i hj' hi hne _ hb h1
        · exact absurd h1 (Nat.ne_of_lt ((h.r j hj').lt _ hb).2)
      · rw [e2]; exact h.p j k hj' hk' hjk b hb
end
end Go.Proofs.YtnlnaglaipjlfaaGreatDoor
/- The contracts of slices.Grow (at nil) and slices.Concat at []api.Person, at lists that came in. -/
namespace Go.Proofs.YtnlnaglaipjlfaaGreatDoor
open Go.RowKit Go.Dw

theorem zerosPs_len (a : Nat) : (Builtin.zeroCells (.agg #[.string ⟨#[]⟩, .slice none 0 0] : Value).cells a).size = a * 2 := by
  simp [Builtin.zeroCells, Value.cells]
theorem info_Ps : (Tryz.prog.info? 41).map (fun i => (i.zero, i.size, i.bytes)) = some (some (.agg #[.string ⟨#[]⟩, .slice none 0 0]), 2, 40) := by kernel_rfl
def FreshPs (w : World) (e : Ending) (w' : World) : Prop := ∃ v, e = .returned v ∧ w'.ownsRow w.heap.size 41 2 v 0 [] ∧ Below w.heap.size w w'
set_option maxRecDepth 100000 in
set_option maxHeartbeats 1000000 in
theorem growPs_any (n : Nat) (w : World) (hn : n ≤ 1000000) :
    Calls Tryz.prog 37 #[.slice none 0 0, .int .i64 (n : Int)] w (FreshPs w) := by
  by_cases h0 : n = 0
  · subst h0
    go_enter Tryz.func37, Tryz.ntmps37
    go_wp2_with fail
    go_ret
    exact ⟨_, rfl, World.ownsRow_nil _ _ _ _, Below.refl _ _⟩
  obtain ⟨ii, hii, hzi0, hzi1, hzi2⟩ := info_parts info_Ps
  have hold : (Builtin.firstCells ii.size 0 (.slice none 0 0)).run Tryz.prog w.drew = .ok ([] : List Value).toArray w.drew := by
    simp [Builtin.firstCells]
  obtain ⟨G, hG⟩ : ∃ G, G = grownCap w (0 + n) 0 41 := ⟨_, rfl⟩
  obtain ⟨ZS, hZS⟩ : ∃ ZS : List Value, ZS = (Builtin.zeroCells (.agg #[.string ⟨#[]⟩, .slice none 0 0] : Value).cells n).toList ++ (Builtin.zeroCells (.agg #[.string ⟨#[]⟩, .slice none 0 0] : Value).cells (G - (0 + n))).toList := ⟨_, rfl⟩
  obtain ⟨W1, hW1⟩ : ∃ W1, W1 = w.drew.alloc (.cells ZS.toArray 41) := ⟨_, rfl⟩
  have hrz : ∀ ty, (Builtin.append_ #[22, 3] ty #[.slice none 0 0, .int .i64 (n : Int)]).run Tryz.prog w = .ok (.slice (some ⟨w.heap.size, 0, none⟩) n G) W1 := fun ty => by
    have h := Lib.run_append_grow_zeros w 22 3 ty 41 ii _ .i64 .i64 Tryz.underlying22 Tryz.underlying3 hii hzi0 none 0 0 [] hold n (by omega) (by omega) (by omega) (by omega) (by rw [hzi2]; omega) (by rw [hzi2]; exact growslice_fits (by omega) (by omega))
    rw [← hG] at h
    rw [h, hW1, hZS]
    congr 2
    · simp
    · simp
  have hGn : n ≤ G := by rw [hG]; have := grownCap_ge w (0 + n) 0 41; omega
  have hGm : G ≤ maxLen := by rw [hG]; exact grownCap_le_maxLen w (0 + n) 0 41 (by unfold maxLen; omega)
  have hZl : ZS.length = G * 2 := by
    rw [hZS, List.length_append, Array.length_toList, Array.length_toList, zerosPs_len, zerosPs_len]; omega
  have HOWN : Hid (W1.ownsRow w.heap.size 41 2 (.slice (some ⟨w.heap.size, 0, none⟩) 0 G) 0 []) := by
    refine ⟨rfl, .inr ⟨w.heap.size, G, ZS.toArray, rfl, Nat.le_refl _, ?_, Nat.zero_le _, hGm, by simpa using hZl, by simp⟩⟩
    rw [hW1]; exact heap_alloc_new w.drew _
  have HB : Hid (Below w.heap.size w W1) := by rw [hW1]; exact (Below.refl _ _).drew.alloc (by show w.heap.size ≤ w.heap.size; omega) _
  have HRZ := Lib.hid hrz
  have hw1 : IntKind.i64.wrap ((n : Int) - 0) = (n : Int) := by rw [Int.sub_zero]; exact IntWalk.i64_in _ (by omega)
  have hn0 : (0 : Int) < (n : Int) := by omega
  have hn1 : 0 < n := by omega
  have hG63 : (G : Int) ≤ 9223372036854775807 := by unfold maxLen at hGm; omega
  clear h0 hii hzi0 hzi1 hzi2 hold hG hZS hW1 hrz hZl hGm
  go_enter Tryz.func37, Tryz.ntmps37
  go_wp2_with (at_builtin; refine Lib.wpList_append_run _ rfl _ _ _ _ rfl _ _ rfl rfl _ _ (HRZ.out _) ?_)
  go_ret
  exact ⟨_, rfl, HOWN.out, HB.out⟩
/-- lists that came in -/
def PtsPs (w : World) (P : List (Slc Psn)) : Prop := ∀ s ∈ P, Rd w s.a (s.xs.flatMap Psn.cs) ∧ (s.a = none → s.c = 0)
theorem add_offPs (b off j : Nat) : (⟨b, off, none⟩ : Addr).add j = ⟨b, off + j, none⟩ := by unfold Addr.add; by_cases h : j = 0 <;> simp [h]
def lenPs (P : List (Slc Psn)) (k : Nat) : Nat := ((P.take k).flatMap Slc.xs).length
def CatPostPs (w : World) (l : List Psn) (e : Ending) (w' : World) : Prop := ∃ v, e = .returned v ∧ w'.ownsRow w.heap.size 41 2 v l.length (l.flatMap Psn.cs) ∧ Below w.heap.size w w'
theorem lenPs_succ (P : List (Slc Psn)) (k : Nat) (h : k < P.length) : lenPs P (k + 1) = lenPs P k + P[k].xs.length := by
  unfold lenPs; rw [List.take_succ_eq_append_getElem h, List.flatMap_append]; simp
theorem flatPs_succ (P : List (Slc Psn)) (k : Nat) (h : k < P.length) : (P.take (k + 1)).flatMap Slc.xs = (P.take k).flatMap Slc.xs ++ P[k].xs := by
  rw [List.take_succ_eq_append_getElem h, List.flatMap_append]; simp
theorem lenPs_le (P : List (Slc Psn)) (k : Nat) : lenPs P k ≤ (P.flatMap Slc.xs).length := by
  unfold lenPs
  have : P.flatMap Slc.xs = (P.take k).flatMap Slc.xs ++ (P.drop k).flatMap Slc.xs := by rw [← List.flatMap_append, List.take_append_drop]
  rw [this, List.length_append]; omega
set_option maxRecDepth 100000 in
set_option maxHeartbeats 2000000 in
theorem concatPs_any (g n c : Nat) (P : List (Slc Psn)) (w : World) (hr : Blk w g 22 (P.map Slc.v)) (hp : PtsPs w P) (hn : n = P.length) (hl : (P.flatMap Slc.xs).length ≤ 100000) (hP : P.length ≤ 1000) :
    Calls Tryz.prog 11 #[.slice (some ⟨g, 0, none⟩) n c] w (CatPostPs w (P.flatMap Slc.xs)) := by
  subst hn
  have HR := Lib.hid hr
  have HP := Lib.hid hp
  have hgl := hr.lt
  have HLE := Lib.hid (lenPs_le P)
  obtain ⟨ii, hii, hzi0, hzi1, hzi2⟩ := info_parts info_Ps
  have HII := Lib.hid (And.intro hii (And.intro hzi0 (And.intro hzi1 hzi2)))
  clear hr hp hii hzi0 hzi1 hzi2
  go_enter Tryz.func11, Tryz.ntmps11
  go_wp2_with fail
  go_loop [3, 11] (fun sv kv => ∃ k m : Nat, k ≤ P.length ∧ kv = .int .i64 (k : Int) ∧ sv = .int .i64 (m : Int) ∧ Hid (m = lenPs P k) ∧ m ≤ 100000) (fun _ kv => P.length - (intOf kv).toNat)
  case atStart => exact ⟨0, 0, Nat.zero_le _, rfl, rfl, rfl, by omega⟩
  case round =>
    obtain ⟨k, m, hk, rfl, rfl, HM, hm⟩ := hrel
    by_cases hlt : k < P.length
    · have hd1 : decide (k < P.length) = true := by simpa using hlt
      have ck : w.cell? ⟨g, k, none⟩ = some P[k].v := by rw [HR.out.cell k]; simp [hlt]
      have hls := lenPs_succ P k hlt
      have hle := HLE.out (k + 1)
      rw [← HM.out] at hls
      have HLS := Lib.hid hls
      obtain ⟨m2, hm2e⟩ : ∃ m2, m2 = lenPs P (k + 1) := ⟨_, rfl⟩
      have HM2 := Lib.hid hm2e
      rw [← hm2e] at hls hle HLS
      clear hm2e
      generalize P[k] = s at *
      obtain ⟨a, sc, xs⟩ := s
      simp only [Slc.v] at ck
      simp only at HLS hls
      have hmm : (m : Int) + (xs.length : Int) ≤ 100000 := by omega
      have hm2 : m2 ≤ 100000 := by omega
      have hmn : ¬ (m : Int) + (xs.length : Int) < 0 := by omega
      clear hls
      go_wp2_with fail
      go_round
      case rel => exact ⟨k + 1, m2, by omega, by go_num, by rw [HLS.out]; go_num, HM2, hm2⟩
      case measure => simp [intOf]; omega
    have hd1 : decide (k < P.length) = false := by simpa using hlt
    clear HM hlt hk
    go_wp2_with fail
    refine (growPs_any m w (by omega)).mono ?_
    rintro e w1 ⟨v1, rfl, hown1, hb1⟩
    have HO1 := Lib.hid hown1
    have HB1 := Lib.hid hb1
    clear hown1 hb1
    go_wp2_with fail
    go_loopw [6, 27] (fun v kv wr => ∃ (k : Nat) (l : List Psn), k ≤ P.length ∧ kv = .int .i64 (k : Int) ∧ l.length ≤ 100000 ∧ Hid (l = (P.take k).flatMap Slc.xs) ∧ Hid (wr.ownsRow w.heap.size 41 2 v l.length (l.flatMap Psn.cs)) ∧ Hid (Below w.heap.size w wr)) (fun _ kv _ => P.length - (intOf kv).toNat)
    case atStart => exact ⟨0, [], Nat.zero_le _, rfl, by simp, rfl, HO1.out, HB1⟩
    case round =>
      clear HO1 HB1
      obtain ⟨k, l, hk, rfl, hl2, HL, HO, HB⟩ := hrel
      obtain ⟨A2, c2, rfl⟩ := slice_of_own HO.out
      by_cases hlt : k < P.length
      case neg =>
        have hd1 : decide (k < P.length) = false := by simpa using hlt
        have HE : Hid (CatPostPs w (P.flatMap Slc.xs) (.returned (.slice A2 l.length c2)) wr) := by
          refine ⟨_, rfl, ?_, HB.out⟩
          have h1 := HL.out
          rw [List.take_of_length_le (by omega)] at h1
          rw [← h1]; exact HO.out
        go_wp2_with fail
        go_ret
        exact HE.out
      have hd1 : decide (k < P.length) = true := by simpa using hlt
      have ck : wr.cell? ⟨g, k, none⟩ = some P[k].v := by rw [HB.out.cell (by exact hgl), HR.out.cell k]; simp [hlt]
      have HFS := Lib.hid (flatPs_succ P k hlt)
      have hle := HLE.out (k + 1)
      obtain ⟨hos, hno⟩ := HP.out P[k] (List.getElem_mem hlt)
      have HOS := Lib.hid (hos.below HB.out)
      have HNO := Lib.hid hno
      have hlk : l.length + P[k].xs.length ≤ 100000 := by
        have h1 := lenPs_succ P k hlt
        have h2 : lenPs P k = l.length := by unfold lenPs; rw [← HL.out]
        omega
      have HNX : Hid (l ++ P[k].xs = (P.take (k + 1)).flatMap Slc.xs) := by show _ = _; rw [HFS.out, ← HL.out]
      have hszr := HB.out.size
      clear hos hno hle HFS
      generalize P[k] = s at *
      obtain ⟨a, sc, xs⟩ := s
      simp only [Slc.v] at ck HOS
      simp only at hlk HNX HOS HNO
      cases a with
      | none =>
        have e3 : sc = 0 := HNO.out rfl
        subst e3
        have hx0 : xs.length = 0 := by
          rcases HOS.out with h | ⟨_, _, h, _⟩
          · have h2 := congrArg List.length h
            rw [flat_len Psn.cs 2 (fun _ => rfl)] at h2
            have h3 : xs.length * 2 = 0 := h2
            omega
          · cases h
        have hxs : xs = [] := List.eq_nil_of_length_eq_zero hx0
        subst hxs
        rw [List.append_nil] at HNX
        have HO2 := HO
        go_wp2_with (at_builtin; refine wpList_append_own_none rfl _ _ 22 rfl w.heap.size 41 ii 2 Tryz.underlying22 HII.out.1 _ _ _ rfl HO.out rfl ?_)
        go_roundw
        case rel => exact ⟨k + 1, l, by omega, by go_num, hl2, HNX, HO, HB⟩
        case measure => simp [intOf]; omega
      | some ad =>
        have HNW : Hid (∀ j u, (xs.flatMap Psn.cs)[j]? = some u → wr.cell? (ad.add j) = some u) := fun j u hu => by
          rcases HOS.out with h | ⟨b, off, h, _, h2⟩
          · rw [h] at hu; simp at hu
          · injection h with h
            rw [h, add_offPs]; exact h2 j u hu
        have HONE : Hid (∀ u ∈ xs.flatMap Psn.cs, u.oneCell' = true) := fun u hu => by
          obtain ⟨x, _, hx⟩ := List.mem_flatMap.1 hu; simp [Psn.cs] at hx; rcases hx with rfl | rfl <;> rfl
        have HXL : Hid ((xs.flatMap Psn.cs).length = xs.length * 2) := flat_len Psn.cs 2 (fun _ => rfl) xs
        go_wp2_with (at_builtin; refine wpList_append_own _ rfl _ _ 22 rfl w.heap.size 41 ii _ 2 40 Tryz.underlying22 HII.out.1 HII.out.2.1 HII.out.2.2.1 HII.out.2.2.2 rfl (by decide) _ _ _ rfl HO.out ad xs.length sc (xs.flatMap Psn.cs) (by rfl) HXL.out HNW.out HONE.out (by unfold maxLen; omega) (by omega) (by omega) ?_; intro v2 w2 hown2 hgrow2 _)
        have HO2 : Hid (w2.ownsRow w.heap.size 41 2 v2 (l ++ xs).length ((l ++ xs).flatMap Psn.cs)) := by
          show World.ownsRow _ _ _ _ _ _ _
          rw [List.length_append, List.flatMap_append]; exact hown2
        have HB2 : Hid (Below w.heap.size w w2) := HB.out.grown hgrow2 hszr (fun q hq => (HO.out.lt q hq).1)
        have hl3 : (l ++ xs).length ≤ 100000 := by simp; omega
        generalize l ++ xs = l2 at *
        clear hown2 hgrow2 ck
        go_wp2_with fail
        go_roundw
        case rel => exact ⟨k + 1, l2, by omega, by go_num, hl3, HNX, HO2, HB2⟩
        case measure => simp [intOf]; omega
end Go.Proofs.YtnlnaglaipjlfaaGreatDoor
/- The contracts of slices.Grow (at nil) and slices.Concat at []api.Claim, at lists that came in. -/
namespace Go.Proofs.YtnlnaglaipjlfaaGreatDoor
open Go.RowKit Go.Dw

theorem zerosCl_len (a : Nat) : (Builtin.zeroCells (.agg #[.string ⟨#[]⟩, .string ⟨#[]⟩, .bool false] : Value).cells a).size = a * 3 := by
  simp [Builtin.zeroCells, Value.cells]
theorem info_Cl : (Tryz.prog.info? 49).map (fun i => (i.zero, i.size, i.bytes)) = some (some (.agg #[.string ⟨#[]⟩, .string ⟨#[]⟩, .bool false]), 3, 40) := by kernel_rfl
def FreshCl (w : World) (e : Ending) (w' : World) : Prop := ∃ v, e = .returned v ∧ w'.ownsRow w.heap.size 49 3 v 0 [] ∧ Below w.heap.size w w'
set_option maxRecDepth 100000 in
set_option maxHeartbeats 1000000 in
theorem growCl_any (n : Nat) (w : World) (hn : n ≤ 1000000) :
    Calls Tryz.prog 39 #[.slice none 0 0, .int .i64 (n : Int)] w (FreshCl w) := by
  by_cases h0 : n = 0
  · subst h0
    go_enter Tryz.func39, Tryz.ntmps39
    go_wp2_with fail
    go_ret
    exact ⟨_, rfl, World.ownsRow_nil _ _ _ _, Below.refl _ _⟩
  obtain ⟨ii, hii, hzi0, hzi1, hzi2⟩ := info_parts info_Cl
  have hold : (Builtin.firstCells ii.size 0 (.slice none 0 0)).run Tryz.prog w.drew = .ok ([] : List Value).toArray w.drew := by
    simp [Builtin.firstCells]
  obtain ⟨G, hG⟩ : ∃ G, G = grownCap w (0 + n) 0 49 := ⟨_, rfl⟩
  obtain ⟨ZS, hZS⟩ : ∃ ZS : List Value, ZS = (Builtin.zeroCells (.agg #[.string ⟨#[]⟩, .string ⟨#[]⟩, .bool false] : Value).cells n).toList ++ (Builtin.zeroCells (.agg #[.string ⟨#[]⟩, .string ⟨#[]⟩, .bool false] : Value).cells (G - (0 + n))).toList := ⟨_, rfl⟩
  obtain ⟨W1, hW1⟩ : ∃ W1, W1 = w.drew.alloc (.cells ZS.toArray 49) := ⟨_, rfl⟩
  have hrz : ∀ ty, (Builtin.append_ #[23, 3] ty #[.slice none 0 0, .int .i64 (n : Int)]).run Tryz.prog w = .ok (.slice (some ⟨w.heap.size, 0, none⟩) n G) W1 := fun ty => by
    have h := Lib.run_append_grow_zeros w 23 3 ty 49 ii _ .i64 .i64 Tryz.underlying23 Tryz.underlying3 hii hzi0 none 0 0 [] hold n (by omega) (by omega) (by omega) (by omega) (by rw [hzi2]; omega) (by rw [hzi2]; exact growslice_fits (by omega) (by omega))
    rw [← hG] at h
    rw [h, hW1, hZS]
    congr 2
    · simp
    · simp
  have hGn : n ≤ G := by rw [hG]; have := grownCap_ge w (0 + n) 0 49; omega
  have hGm : G ≤ maxLen := by rw [hG]; exact grownCap_le_maxLen w (0 + n) 0 49 (by unfold maxLen; omega)
  have hZl : ZS.length = G * 3 := by
    rw [hZS, List.length_append, Array.length_toList, Array.length_toList, zerosCl_len, zerosCl_len]; omega
  have HOWN : Hid (W1.ownsRow w.heap.size 49 3 (.slice (some ⟨w.heap.size, 0, none⟩) 0 G) 0 []) := by
    refine ⟨rfl, .inr ⟨w.heap.size, G, ZS.toArray, rfl, Nat.le_refl _, ?_, Nat.zero_le _, hGm, by simpa using hZl, by simp⟩⟩
    rw [hW1]; exact heap_alloc_new w.drew _
  have HB : Hid (Below w.heap.size w W1) := by rw [hW1]; exact (Below.refl _ _).drew.alloc (by show w.heap.size ≤ w.heap.size; omega) _
  have HRZ := Lib.hid hrz
  have hw1 : IntKind.i64.wrap ((n : Int) - 0) = (n : Int) := by rw [Int.sub_zero]; exact IntWalk.i64_in _ (by omega)
  have hn0 : (0 : Int) < (n : Int) := by omega
  have hn1 : 0 < n := by omega
  have hG63 : (G : Int) ≤ 9223372036854775807 := by unfold maxLen at hGm; omega
  clear h0 hii hzi0 hzi1 hzi2 hold hG hZS hW1 hrz hZl hGm
  go_enter Tryz.func39, Tryz.ntmps39
  go_wp2_with (at_builtin; refine Lib.wpList_append_run _ rfl _ _ _ _ rfl _ _ rfl rfl _ _ (HRZ.out _) ?_)
  go_ret
  exact ⟨_, rfl, HOWN.out, HB.out⟩
/-- lists that came in -/
def PtsCl (w : World) (P : List (Slc Clm)) : Prop := ∀ s ∈ P, Rd w s.a (s.xs.flatMap Clm.cs) ∧ (s.a = none → s.c = 0)
theorem add_offCl (b off j : Nat) : (⟨b, off, none⟩ : Addr).add j = ⟨b, off + j, none⟩ := by unfold Addr.add; by_cases h : j = 0 <;> simp [h]
def lenCl (P : List (Slc Clm)) (k : Nat) : Nat := ((P.take k).flatMap Slc.xs).length
def CatPostCl (w : World) (l : List Clm) (e : Ending) (w' : World) : Prop := ∃ v, e = .returned v ∧ w'.ownsRow w.heap.size 49 3 v l.length (l.flatMap Clm.cs) ∧ Below w.heap.size w w'
theorem lenCl_succ (P : List (Slc Clm)) (k : Nat) (h : k < P.length) : lenCl P (k + 1) = lenCl P k + P[k].xs.length := by
  unfold lenCl; rw [List.take_succ_eq_append_getElem h, List.flatMap_append]; simp
theorem flatCl_succ (P : List (Slc Clm)) (k : Nat) (h : k < P.length) : (P.take (k + 1)).flatMap Slc.xs = (P.take k).flatMap Slc.xs ++ P[k].xs := by
  rw [List.take_succ_eq_append_getElem h, List.flatMap_append]; simp
theorem lenCl_le (P : List (Slc Clm)) (k : Nat) : lenCl P k ≤ (P.flatMap Slc.xs).length := by
  unfold lenCl
  have : P.flatMap Slc.xs = (P.take k).flatMap Slc.xs ++ (P.drop k).flatMap Slc.xs := by rw [← List.flatMap_append, List.take_append_drop]
  rw [this, List.length_append]; omega
set_option maxRecDepth 100000 in
set_option maxHeartbeats 2000000 in
theorem concatCl_any (g n c : Nat) (P : List (Slc Clm)) (w : World) (hr : Blk w g 23 (P.map Slc.v)) (hp : PtsCl w P) (hn : n = P.length) (hl : (P.flatMap Slc.xs).length ≤ 100000) (hP : P.length ≤ 1000) :
    Calls Tryz.prog 16 #[.slice (some ⟨g, 0, none⟩) n c] w (CatPostCl w (P.flatMap Slc.xs)) := by
  subst hn
  have HR := Lib.hid hr
  have HP := Lib.hid hp
  have hgl := hr.lt
  have HLE := Lib.hid (lenCl_le P)
  obtain ⟨ii, hii, hzi0, hzi1, hzi2⟩ := info_parts info_Cl
  have HII := Lib.hid (And.intro hii (And.intro hzi0 (And.intro hzi1 hzi2)))
  clear hr hp hii hzi0 hzi1 hzi2
  go_enter Tryz.func16, Tryz.ntmps16
  go_wp2_with fail
  go_loop [3, 11] (fun sv kv => ∃ k m : Nat, k ≤ P.length ∧ kv = .int .i64 (k : Int) ∧ sv = .int .i64 (m : Int) ∧ Hid (m = lenCl P k) ∧ m ≤ 100000) (fun _ kv => P.length - (intOf kv).toNat)
  case atStart => exact ⟨0, 0, Nat.zero_le _, rfl, rfl, rfl, by omega⟩
  case round =>
    obtain ⟨k, m, hk, rfl, rfl, HM, hm⟩ := hrel
    by_cases hlt : k < P.length
    · have hd1 : decide (k < P.length) = true := by simpa using hlt
      have ck : w.cell? ⟨g, k, none⟩ = some P[k].v := by rw [HR.out.cell k]; simp [hlt]
      have hls := lenCl_succ P k hlt
      have hle := HLE.out (k + 1)
      rw [← HM.out] at hls
      have HLS := Lib.hid hls
      obtain ⟨m2, hm2e⟩ : ∃ m2, m2 = lenCl P (k + 1) := ⟨_, rfl⟩
      have HM2 := Lib.hid hm2e
      rw [← hm2e] at hls hle HLS
      clear hm2e
      generalize P[k] = s at *
      obtain ⟨a, sc, xs⟩ := s
      simp only [Slc.v] at ck
      simp only at HLS hls
      have hmm : (m : Int) + (xs.length : Int) ≤ 100000 := by omega
      have hm2 : m2 ≤ 100000 := by omega
      have hmn : ¬ (m : Int) + (xs.length : Int) < 0 := by omega
      clear hls
      go_wp2_with fail
      go_round
      case rel => exact ⟨k + 1, m2, by omega, by go_num, by rw [HLS.out]; go_num, HM2, hm2⟩
      case measure => simp [intOf]; omega
    have hd1 : decide (k < P.length) = false := by simpa using hlt
    clear HM hlt hk
    go_wp2_with fail
    refine (growCl_any m w (by omega)).mono ?_
    rintro e w1 ⟨v1, rfl, hown1, hb1⟩
    have HO1 := Lib.hid hown1
    have HB1 := Lib.hid hb1
    clear hown1 hb1
    go_wp2_with fail
    go_loopw [6, 27] (fun v kv wr => ∃ (k : Nat) (l : List Clm), k ≤ P.length ∧ kv = .int .i64 (k : Int) ∧ l.length ≤ 100000 ∧ Hid (l = (P.take k).flatMap Slc.xs) ∧ Hid (wr.ownsRow w.heap.size 49 3 v l.length (l.flatMap Clm.cs)) ∧ Hid (Below w.heap.size w wr)) (fun _ kv _ => P.length - (intOf kv).toNat)
    case atStart => exact ⟨0, [], Nat.zero_le _, rfl, by simp, rfl, HO1.out, HB1⟩
    case round =>
      clear HO1 HB1
      obtain ⟨k, l, hk, rfl, hl2, HL, HO, HB⟩ := hrel
      obtain ⟨A2, c2, rfl⟩ := slice_of_own HO.out
      by_cases hlt : k < P.length
      case neg =>
        have hd1 : decide (k < P.length) = false := by simpa using hlt
        have HE : Hid (CatPostCl w (P.flatMap Slc.xs) (.returned (.slice A2 l.length c2)) wr) := by
          refine ⟨_, rfl, ?_, HB.out⟩
          have h1 := HL.out
          rw [List.take_of_length_le (by omega)] at h1
          rw [← h1]; exact HO.out
        go_wp2_with fail
        go_ret
        exact HE.out
      have hd1 : decide (k < P.length) = true := by simpa using hlt
      have ck : wr.cell? ⟨g, k, none⟩ = some P[k].v := by rw [HB.out.cell (by exact hgl), HR.out.cell k]; simp [hlt]
      have HFS := Lib.hid (flatCl_succ P k hlt)
      have hle := HLE.out (k + 1)
      obtain ⟨hos, hno⟩ := HP.out P[k] (List.getElem_mem hlt)
      have HOS := Lib.hid (hos.below HB.out)
      have HNO := Lib.hid hno
      have hlk : l.length + P[k].xs.length ≤ 100000 := by
        have h1 := lenCl_succ P k hlt
        have h2 : lenCl P k = l.length := by unfold lenCl; rw [← HL.out]
        omega
      have HNX : Hid (l ++ P[k].xs = (P.take (k + 1)).flatMap Slc.xs) := by show _ = _; rw [HFS.out, ← HL.out]
      have hszr := HB.out.size
      clear hos hno hle HFS
      generalize P[k] = s at *
      obtain ⟨a, sc, xs⟩ := s
      simp only [Slc.v] at ck HOS
      simp only at hlk HNX HOS HNO
      cases a with
      | none =>
        have e3 : sc = 0 := HNO.out rfl
        subst e3
        have hx0 : xs.length = 0 := by
          rcases HOS.out with h | ⟨_, _, h, _⟩
          · have h2 := congrArg List.length h
            rw [flat_len Clm.cs 3 (fun _ => rfl)] at h2
            have h3 : xs.length * 3 = 0 := h2
            omega
          · cases h
        have hxs : xs = [] := List.eq_nil_of_length_eq_zero hx0
        subst hxs
        rw [List.append_nil] at HNX
        have HO2 := HO
        go_wp2_with (at_builtin; refine wpList_append_own_none rfl _ _ 23 rfl w.heap.size 49 ii 3 Tryz.underlying23 HII.out.1 _ _ _ rfl HO.out rfl ?_)
        go_roundw
        case rel => exact ⟨k + 1, l, by omega, by go_num, hl2, HNX, HO, HB⟩
        case measure => simp [intOf]; omega
      | some ad =>
        have HNW : Hid (∀ j u, (xs.flatMap Clm.cs)[j]? = some u → wr.cell? (ad.add j) = some u) := fun j u hu => by
          rcases HOS.out with h | ⟨b, off, h, _, h2⟩
          · rw [h] at hu; simp at hu
          · injection h with h
            rw [h, add_offCl]; exact h2 j u hu
        have HONE : Hid (∀ u ∈ xs.flatMap Clm.cs, u.oneCell' = true) := fun u hu => by
          obtain ⟨x, _, hx⟩ := List.mem_flatMap.1 hu; simp [Clm.cs] at hx; rcases hx with rfl | rfl | rfl <;> rfl
        have HXL : Hid ((xs.flatMap Clm.cs).length = xs.length * 3) := flat_len Clm.cs 3 (fun _ => rfl) xs
        go_wp2_with (at_builtin; refine wpList_append_own _ rfl _ _ 23 rfl w.heap.size 49 ii _ 3 40 Tryz.underlying23 HII.out.1 HII.out.2.1 HII.out.2.2.1 HII.out.2.2.2 rfl (by decide) _ _ _ rfl HO.out ad xs.length sc (xs.flatMap Clm.cs) (by rfl) HXL.out HNW.out HONE.out (by unfold maxLen; omega) (by omega) (by omega) ?_; intro v2 w2 hown2 hgrow2 _)
        have HO2 : Hid (w2.ownsRow w.heap.size 49 3 v2 (l ++ xs).length ((l ++ xs).flatMap Clm.cs)) := by
          show World.ownsRow _ _ _ _ _ _ _
          rw [List.length_append, List.flatMap_append]; exact hown2
        have HB2 : Hid (Below w.heap.size w w2) := HB.out.grown hgrow2 hszr (fun q hq => (HO.out.lt q hq).1)
        have hl3 : (l ++ xs).length ≤ 100000 := by simp; omega
        generalize l ++ xs = l2 at *
        clear hown2 hgrow2 ck
        go_wp2_with fail
        go_roundw
        case rel => exact ⟨k + 1, l2, by omega, by go_num, hl3, HNX, HO2, HB2⟩
        case measure => simp [intOf]; omega
end Go.Proofs.YtnlnaglaipjlfaaGreatDoor
/- The contract of slices.Clone at []string: a row of the call's own. -/
namespace Go.Proofs.YtnlnaglaipjlfaaGreatDoor
open Go.RowKit Go.Dw

theorem info_clStr : (Tryz.prog.info? 9).map (fun i => (i.zero, i.size, i.bytes)) = some (some (.string ⟨#[]⟩), 1, 16) := by kernel_rfl
set_option maxRecDepth 100000 in
set_option maxHeartbeats 2000000 in
theorem clone_Str (A : Option Addr) (n c : Nat) (cs : List Value) (w : World) (h : Rd w A cs) (hl : cs.length = n * 1) (h1 : ∀ u ∈ cs, u.oneCell' = true) (hbig : n * 16 ≤ 140737488355328) :
    Calls Tryz.prog 14 #[.slice A n c] w fun e w' => ∃ A' c', e = .returned (.slice A' n c') ∧ w'.ownsRow w.heap.size 9 1 (.slice A' n c') n cs ∧ Below w.heap.size w w' := by
  have q22 : ∀ (w : World) (a : Option Addr) (n c n' c' : Nat), (binOp .eql 35 (.slice a n c) (.slice none n' c')).run Tryz.prog w = .ok (.bool a.isNone) w := fun w a n c n' c' => Lib.run_eql_slice_nil w _ _ a n c n' c' Tryz.underlying35
  cases A with
  | none =>
    have hn : n = 0 ∧ cs = [] := by
      rcases h with h | ⟨b, off, h, _⟩
      · subst h
        simp only [List.length_nil] at hl
        exact ⟨by omega, rfl⟩
      · cases h
    obtain ⟨rfl, rfl⟩ := hn
    go_enter Tryz.func14, Tryz.ntmps14
    go_wp2
    go_ret
    exact ⟨none, 0, rfl, World.ownsRow_nil _ _ _ _, Below.refl _ _⟩
  | some ad =>
    obtain ⟨i0, hi, hz0, hz1, hz2⟩ := info_parts info_clStr
    have u22 : ∀ w, Sem.run Tryz.prog (underlying 35) w = .ok (TypeDesc.slice 9) w := run_underlying Tryz.underlying35
    have HA : Hid (∀ j u, cs[j]? = some u → (w.alloc (.cells #[] 9)).cell? (ad.add j) = some u) := by
      intro j u hu
      rcases h with h | ⟨b, off, h, hb, hc⟩
      · subst h; simp at hu
      · injection h with h
        subst h
        have hadd : (⟨b, off, none⟩ : Addr).add j = ⟨b, off + j, none⟩ := by unfold Addr.add; split <;> simp_all
        rw [hadd]
        exact Lib.cell?_alloc_some _ (hc j u hu)
    have HL := Lib.hid hl
    clear h hl
    go_enter Tryz.func14, Tryz.ntmps14
    go_wp2_with (at_builtin; refine wpList_append_own _ rfl _ _ 35 rfl w.heap.size 9 i0 _ 1 16 Tryz.underlying35 hi hz0 hz1 hz2 rfl (by decide) _ _ _ rfl (World.ownsRow_made w #[] 0 (Nat.le_refl _) (Nat.zero_le _) rfl) ad n c cs rfl HL.out HA.out h1 (by unfold maxLen; omega) (by omega) (by simp) ?_)
    intro v' w1 hown hgrow hnil
    go_wp2
    go_ret
    obtain ⟨A', c', rfl⟩ := slice_of_own hown
    refine ⟨A', c', rfl, ?_, ?_⟩
    · exact hown
    · exact ((Below.refl _ w).alloc (Nat.le_refl _) _).grown hgrow (by simp) (by intro k hk; simp [Value.ownBlock] at hk; omega)
end Go.Proofs.YtnlnaglaipjlfaaGreatDoor
/- The contract of slices.Clone at []api.Claim: a row of the call's own. -/
namespace Go.Proofs.YtnlnaglaipjlfaaGreatDoor
open Go.RowKit Go.Dw

theorem info_clClm : (Tryz.prog.info? 49).map (fun i => (i.zero, i.size, i.bytes)) = some (some (.agg #[.string ⟨#[]⟩, .string ⟨#[]⟩, .bool false]), 3, 40) := by kernel_rfl
set_option maxRecDepth 100000 in
set_option maxHeartbeats 2000000 in
theorem clone_Clm (A : Option Addr) (n c : Nat) (cs : List Value) (w : World) (h : Rd w A cs) (hl : cs.length = n * 3) (h1 : ∀ u ∈ cs, u.oneCell' = true) (hbig : n * 40 ≤ 140737488355328) :
    Calls Tryz.prog 27 #[.slice A n c] w fun e w' => ∃ A' c', e = .returned (.slice A' n c') ∧ w'.ownsRow w.heap.size 49 3 (.slice A' n c') n cs ∧ Below w.heap.size w w' := by
  have q22 : ∀ (w : World) (a : Option Addr) (n c n' c' : Nat), (binOp .eql 23 (.slice a n c) (.slice none n' c')).run Tryz.prog w = .ok (.bool a.isNone) w := fun w a n c n' c' => Lib.run_eql_slice_nil w _ _ a n c n' c' Tryz.underlying23
  cases A with
  | none =>
    have hn : n = 0 ∧ cs = [] := by
      rcases h with h | ⟨b, off, h, _⟩
      · subst h
        simp only [List.length_nil] at hl
        exact ⟨by omega, rfl⟩
      · cases h
    obtain ⟨rfl, rfl⟩ := hn
    go_enter Tryz.func27, Tryz.ntmps27
    go_wp2
    go_ret
    exact ⟨none, 0, rfl, World.ownsRow_nil _ _ _ _, Below.refl _ _⟩
  | some ad =>
    obtain ⟨i0, hi, hz0, hz1, hz2⟩ := info_parts info_clClm
    have u22 : ∀ w, Sem.run Tryz.prog (underlying 23) w = .ok (TypeDesc.slice 49) w := run_underlying Tryz.underlying23
    have HA : Hid (∀ j u, cs[j]? = some u → (w.alloc (.cells #[] 49)).cell? (ad.add j) = some u) := by
      intro j u hu
      rcases h with h | ⟨b, off, h, hb, hc⟩
      · subst h; simp at hu
      · injection h with h
        subst h
        have hadd : (⟨b, off, none⟩ : Addr).add j = ⟨b, off + j, none⟩ := by unfold Addr.add; split <;> simp_all
        rw [hadd]
        exact Lib.cell?_alloc_some _ (hc j u hu)
    have HL := Lib.hid hl
    clear h hl
    go_enter Tryz.func27, Tryz.ntmps27
    go_wp2_with (at_builtin; refine wpList_append_own _ rfl _ _ 23 rfl w.heap.size 49 i0 _ 3 40 Tryz.underlying23 hi hz0 hz1 hz2 rfl (by decide) _ _ _ rfl (World.ownsRow_made w #[] 0 (Nat.le_refl _) (Nat.zero_le _) rfl) ad n c cs rfl HL.out HA.out h1 (by unfold maxLen; omega) (by omega) (by simp) ?_)
    intro v' w1 hown hgrow hnil
    go_wp2
    go_ret
    obtain ⟨A', c', rfl⟩ := slice_of_own hown
    refine ⟨A', c', rfl, ?_, ?_⟩
    · exact hown
    · exact ((Below.refl _ w).alloc (Nat.le_refl _) _).grown hgrow (by simp) (by intro k hk; simp [Value.ownBlock] at hk; omega)
end Go.Proofs.YtnlnaglaipjlfaaGreatDoor
/- Contracts of Join's closures, and of slices.IndexFunc at them: persons. -/
namespace Go.Proofs.YtnlnaglaipjlfaaGreatDoor
open Go.RowKit Go.Dw

set_option maxHeartbeats 1000000 in
theorem joi1_any (x : Psn) (q : ByteArray) (cb : Nat) (w : World) (hc : w.cell? ⟨cb, 0, none⟩ = some (.string q)) :
    Calls Tryz.prog 13 #[.agg #[.string x.id, .slice x.s.a x.s.xs.length x.s.c], .pointer (some ⟨cb, 0, none⟩)] w fun e w' => e = .returned (.bool (decide (x.id = q))) ∧ Below w.heap.size w w' := by
  have hlt := World.block_lt_of_cell? w _ hc
  simp only at hlt
  obtain ⟨id, s⟩ := x
  simp only
  have HB : Hid (Below w.heap.size w (w.alloc (.cells #[.string id, .slice s.a s.xs.length s.c] 41))) := (Below.refl _ _).alloc (Nat.le_refl _) _
  have hc2 : (w.alloc (.cells #[.string id, .slice s.a s.xs.length s.c] 41)).cell? ⟨cb, 0, none⟩ = some (.string q) := by rw [HB.out.cell (by exact hlt)]; exact hc
  by_cases he : id = q
  · have HE : Hid (decide (id = q) = true) := by show _ = _; simpa using he
    have hs := seq_t he
    clear he
    go_enter Tryz.func13, Tryz.ntmps13
    go_wp2_with fail
    go_ret
    exact ⟨ret_bool HE.out.symm, HB.out⟩
  · have HE : Hid (decide (id = q) = false) := by show _ = _; simpa using he
    have hs := seq_f he
    clear he
    go_enter Tryz.func13, Tryz.ntmps13
    go_wp2_with fail
    go_ret
    exact ⟨ret_bool HE.out.symm, HB.out⟩
set_option maxHeartbeats 1000000 in
theorem idxJ_any (A : Option Addr) (c : Nat) (L : List Psn) (q : ByteArray) (cb : Nat) (w : World) (h : Rd w A (L.flatMap Psn.cs)) (hn : L.length ≤ 9223372036854775807) (hq : w.cell? ⟨cb, 0, none⟩ = some (.string q)) :
    Calls Tryz.prog 12 #[.slice A L.length c, .func (.func 13) #[] #[.pointer (some ⟨cb, 0, none⟩)]] w fun e w' => e = .returned (.int .i64 (idxI (ixP (L.map Psn.x) q) L.length)) ∧ Below w.heap.size w w' := by
  have HR := Lib.hid h
  have HQ := Lib.hid hq
  have hlt := World.block_lt_of_cell? w _ hq
  simp only at hlt
  have HIX := Lib.hid (ixP_map L q)
  clear h hq
  generalize ixP (L.map Psn.x) q = ix at *
  go_enter Tryz.func12, Tryz.ntmps12
  go_wp2_with fail
  go_loopw [8] (fun kv wr => ∃ k : Nat, k ≤ L.length ∧ kv = .int .i64 (k : Int) ∧ Hid (∀ j (hj : j < L.length), j < k → decide (L[j].id = q) = false) ∧ Hid (Below w.heap.size w wr)) (fun kv _ => L.length - (intOf kv).toNat)
  case atStart => exact ⟨0, Nat.zero_le _, rfl, by intro j hj hj0; omega, Below.refl _ _⟩
  case round =>
    obtain ⟨k, hk, rfl, HALL, HB⟩ := hrel
    by_cases hkl : k < L.length
    case neg =>
      have hd1 : decide (k < L.length) = false := by simpa using hkl
      have HE : Hid (idxI ix L.length = -1) := by
        show _ = _
        rw [HIX.out, find_no (fun j hj => HALL.out j hj (by omega))]
        unfold idxI; rw [if_neg (by omega)]
      go_wp2_with fail
      go_ret
      exact ⟨ret_int HE.out.symm, HB.out⟩
    have hd1 : decide (k < L.length) = true := by simpa using hkl
    obtain ⟨b, off, rfl, hb, hcs⟩ := psn_at HR.out (by omega)
    obtain ⟨d0, d1⟩ := hcs k hkl
    rw [← HB.out.cell (by exact hb)] at d0 d1
    have HC := Lib.hid (joi1_any L[k] q cb wr (by rw [HB.out.cell (by exact hlt)]; exact HQ.out))
    have HTR : Hid (decide (L[k].id = q) = true → idxI ix L.length = (k : Int)) := fun ht => by
      rw [HIX.out, find_at hkl (fun j hj => HALL.out j (by omega) hj) ht]
      unfold idxI; rw [if_pos hkl]
    have HFL : Hid (decide (L[k].id = q) = false → ∀ j (hj : j < L.length), j < k + 1 → decide (L[j].id = q) = false) := fun hf j hj hj1 => by
      by_cases e : j = k
      · subst e; exact hf
      · exact HALL.out j hj (by omega)
    clear hcs
    obtain ⟨bv, hbv⟩ : ∃ bv, decide (L[k].id = q) = bv := ⟨_, rfl⟩
    rw [hbv] at HC HTR HFL
    clear hbv
    generalize L[k] = x at *
    obtain ⟨id, s⟩ := x
    simp only at d0 d1 HC
    go_wp2_with fail
    refine HC.out.mono ?_
    rintro e w1 ⟨rfl, hb1⟩
    have HB1 := Lib.hid (HB.out.trans (hb1.mono HB.out.size))
    clear hb1 d0 d1
    cases bv with
    | true =>
      have HE := Lib.hid (HTR.out (by first | rfl | trivial))
      go_wp2_with fail
      go_ret
      exact ⟨ret_int HE.out.symm, HB1.out⟩
    | false =>
      have HN := Lib.hid (HFL.out (by first | rfl | trivial))
      go_wp2_with fail
      go_roundw
      case rel => exact ⟨k + 1, by omega, by go_num, HN, HB1⟩
      case measure => simp [intOf]; omega
end Go.Proofs.YtnlnaglaipjlfaaGreatDoor
/- Contracts of Join's closures, and of slices.IndexFunc at them: claims. -/
namespace Go.Proofs.YtnlnaglaipjlfaaGreatDoor
open Go.RowKit Go.Dw

def ixC (L : List Clm) (c : Clm) : Nat := L.findIdx fun d => decide (c.k = d.k)
def CBox (w : World) (cb : Nat) (q : Clm) : Prop := w.cell? ⟨cb, 0, none⟩ = some (.string q.a) ∧ w.cell? ⟨cb, 1, none⟩ = some (.string q.b) ∧ w.cell? ⟨cb, 2, none⟩ = some (.bool q.s)
theorem CBox.below {w w' : World} {cb : Nat} {q : Clm} (h : CBox w cb q) (hb : Below w.heap.size w w') : CBox w' cb q := by
  have hlt := World.block_lt_of_cell? w _ h.1
  simp only at hlt
  unfold CBox
  rw [hb.cell (by exact hlt), hb.cell (by exact hlt), hb.cell (by exact hlt)]; exact h
theorem cmpC_eq {x y : Clm} : cmpC x y = 0 ↔ x.k = y.k := by
  unfold cmpC orI Clm.k
  by_cases h : cmpS x.a y.a = 0
  · rw [if_pos h, cmpS_eq]; have := cmpS_eq.1 h; simp [this]
  · rw [if_neg h]
    have h2 : ¬ x.a = y.a := fun e => h (cmpS_eq.2 e)
    simp [h, h2]
set_option maxHeartbeats 1000000 in
theorem joi2_any (x : Clm) (q : Clm) (cb : Nat) (w : World) (hc : CBox w cb q) :
    Calls Tryz.prog 18 #[.agg #[.string x.a, .string x.b, .bool x.s], .pointer (some ⟨cb, 0, none⟩)] w fun e w' => e = .returned (.bool (decide (q.k = x.k))) ∧ Below w.heap.size w w' := by
  obtain ⟨w1, hw1⟩ : ∃ w1, w1 = w.alloc (.cells #[.string x.a, .string x.b, .bool x.s] 49) := ⟨_, rfl⟩
  have HB : Hid (Below w.heap.size w w1) := by rw [hw1]; exact (Below.refl _ _).alloc (Nat.le_refl _) _
  have HK : Blk w1 w.heap.size 49 [.string x.a, .string x.b, .bool x.s] := by rw [hw1]; exact Blk.new w _ _
  have k0 := HK.cell 0
  have k1 := HK.cell 1
  have k2 := HK.cell 2
  simp only [List.getElem?_cons_zero, List.getElem?_cons_succ] at k0 k1 k2
  obtain ⟨c0, c1, c2⟩ := hc.below HB.out
  have HC := Lib.hid (fun W => cmpC_any q x W)
  have HE : Hid ((cmpC q x == 0) = decide (q.k = x.k)) := by
    show _ = _
    by_cases h : q.k = x.k
    · rw [cmpC_eq.2 h, decide_eq_true h]; rfl
    · rw [decide_eq_false h]; have := fun e => h (cmpC_eq.1 e); simpa using this
  generalize decide (q.k = x.k) = r at *
  generalize cmpC q x = cr at *
  obtain ⟨xa, xb, xs⟩ := x
  obtain ⟨qa, qb, qs⟩ := q
  simp only at *
  have HW := Lib.hid hw1
  clear HK hw1 hc
  go_enter Tryz.func18, Tryz.ntmps18
  go_upto_region 1 with (fail)
  rw [← HW.out]
  go_wp2_with fail
  refine (HC.out _).mono ?_
  rintro e w2 ⟨rfl, hg⟩
  have HB2 := Lib.hid (HB.out.trans ((Grw.below hg).mono HB.out.size))
  clear hg
  go_wp2_with fail
  go_ret
  exact ⟨ret_bool HE.out, HB2.out⟩
set_option maxHeartbeats 1000000 in
theorem idxK_any (A : Option Addr) (c : Nat) (L : List Clm) (q : Clm) (cb : Nat) (w : World) (h : Rd w A (L.flatMap Clm.cs)) (hn : L.length ≤ 9223372036854775807) (hq : CBox w cb q) :
    Calls Tryz.prog 17 #[.slice A L.length c, .func (.func 18) #[] #[.pointer (some ⟨cb, 0, none⟩)]] w fun e w' => e = .returned (.int .i64 (idxI (ixC L q) L.length)) ∧ Below w.heap.size w w' := by
  have HR := Lib.hid h
  have HQ := Lib.hid hq
  have hlt := World.block_lt_of_cell? w _ hq.1
  simp only at hlt
  have HIX : Hid (ixC L q = L.findIdx fun d => decide (q.k = d.k)) := rfl
  clear h hq
  generalize ixC L q = ix at *
  go_enter Tryz.func17, Tryz.ntmps17
  go_wp2_with fail
  go_loopw [8] (fun kv wr => ∃ k : Nat, k ≤ L.length ∧ kv = .int .i64 (k : Int) ∧ Hid (∀ j (hj : j < L.length), j < k → decide (q.k = L[j].k) = false) ∧ Hid (Below w.heap.size w wr)) (fun kv _ => L.length - (intOf kv).toNat)
  case atStart => exact ⟨0, Nat.zero_le _, rfl, by intro j hj hj0; omega, Below.refl _ _⟩
  case round =>
    obtain ⟨k, hk, rfl, HALL, HB⟩ := hrel
    by_cases hkl : k < L.length
    case neg =>
      have hd1 : decide (k < L.length) = false := by simpa using hkl
      have HE : Hid (idxI ix L.length = -1) := by
        show _ = _
        rw [HIX.out, find_no (fun j hj => HALL.out j hj (by omega))]
        unfold idxI; rw [if_neg (by omega)]
      go_wp2_with fail
      go_ret
      exact ⟨ret_int HE.out.symm, HB.out⟩
    have hd1 : decide (k < L.length) = true := by simpa using hkl
    obtain ⟨b, off, rfl, hb, hcs⟩ := clm_at HR.out (by omega)
    obtain ⟨d0, d1, d2⟩ := hcs k hkl
    rw [← HB.out.cell (by exact hb)] at d0 d1 d2
    have HC := Lib.hid (joi2_any L[k] q cb wr (HQ.out.below HB.out))
    have HTR : Hid (decide (q.k = L[k].k) = true → idxI ix L.length = (k : Int)) := fun ht => by
      rw [HIX.out, find_at hkl (fun j hj => HALL.out j (by omega) hj) ht]
      unfold idxI; rw [if_pos hkl]
    have HFL : Hid (decide (q.k = L[k].k) = false → ∀ j (hj : j < L.length), j < k + 1 → decide (q.k = L[j].k) = false) := fun hf j hj hj1 => by
      by_cases e : j = k
      · subst e; exact hf
      · exact HALL.out j hj (by omega)
    clear hcs
    obtain ⟨bv, hbv⟩ : ∃ bv, decide (q.k = L[k].k) = bv := ⟨_, rfl⟩
    rw [hbv] at HC HTR HFL
    clear hbv
    generalize L[k] = x at *
    obtain ⟨xa, xb, xs⟩ := x
    simp only at d0 d1 d2 HC
    go_wp2_with fail
    refine HC.out.mono ?_
    rintro e w1 ⟨rfl, hb1⟩
    have HB1 := Lib.hid (HB.out.trans (hb1.mono HB.out.size))
    clear hb1 d0 d1 d2
    cases bv with
    | true =>
      have HE := Lib.hid (HTR.out (by first | rfl | trivial))
      go_wp2_with fail
      go_ret
      exact ⟨ret_int HE.out.symm, HB1.out⟩
    | false =>
      have HN := Lib.hid (HFL.out (by first | rfl | trivial))
      go_wp2_with fail
      go_roundw
      case rel => exact ⟨k + 1, by omega, by go_num, HN, HB1⟩
      case measure => simp [intOf]; omega
end Go.Proofs.YtnlnaglaipjlfaaGreatDoor
/- The state of Join's loop over persons; a new person put behind. -/
namespace Go.Proofs.YtnlnaglaipjlfaaGreatDoor
open Go.RowKit Go.Dw

theorem blkGqL {w w' : World} {g : Nat} {t : TypeId} {cs : List Value} (h : Blk w g t cs) (hb : Gq w w') : Blk w' g t cs := h.same (Same.of_below (S := fun _ => True) hb) trivial
/-- k persons are put together: the box w2.heap.size holds them -/
def JI (LC : List Psn) (w2 w5 : World) (k : Nat) (wr : World) : Prop := ∃ (R : List Psn) (AO : Option Addr) (cO : Nat), R.length ≤ k ∧ (∀ r ∈ R, r.s.xs.length ≤ 10 * k) ∧ R.map Psn.x = ((LC.take k).map Psn.x).foldl putR [] ∧
  GP 41 9 wr w5.heap.size (.slice AO R.length cO) R ∧ Blk wr w2.heap.size 25 [.slice AO R.length cO, .slice none 0 0] ∧ Same (fun b => b ≠ w2.heap.size) w5 wr ∧ Gq w2 wr
theorem grown_set (W : World) (g i : Nat) (v : Value) : W.grownBy (W.setCell ⟨g, i, none⟩ v) (some g) :=
  ⟨rfl, rfl, rfl, by simp [World.setCell], fun j _ hne => Below.heap_setCell W ⟨g, i, none⟩ v j (fun e => hne (by rw [e]))⟩
theorem joi_new {LC : List Psn} {w2 w5 wr wI w7 w8 : World} {k : Nat} {R : List Psn} {AO A7 : Option Addr} {cO c7 g8 cap8 : Nat} {qi : ByteArray} {qs : List ByteArray} {o : Obj}
    (hRk : R.length ≤ k) (hRn : ∀ r ∈ R, r.s.xs.length ≤ 10 * k) (hq : qs.length ≤ 10) (hno : ¬ ixP (R.map Psn.x) qi < (R.map Psn.x).length)
    (hTK : ((LC.take (k + 1)).map Psn.x).foldl putR [] = putR (R.map Psn.x) ⟨qi, qs⟩)
    (hgp : GP 41 9 wr w5.heap.size (.slice AO R.length cO) R) (hO : Blk wr w2.heap.size 25 [.slice AO R.length cO, .slice none 0 0]) (hS : Same (fun b => b ≠ w2.heap.size) w5 wr) (hG : Gq w2 wr)
    (h25 : w2.heap.size < w5.heap.size) (hI : Gq wr wI) (h7 : Gq wI w7)
    (hown7 : w7.ownsRow wI.heap.size 9 1 (.slice A7 qs.length c7) qs.length (sb qs))
    (hown8 : w8.ownsRow w5.heap.size 41 2 (.slice (some ⟨g8, 0, none⟩) (R.length + 1) cap8) (R.length + 1) (R.flatMap Psn.cs ++ [.string qi, .slice A7 qs.length c7]))
    (hgrow : (w7.alloc o).grownBy w8 (Value.slice AO R.length cO).ownBlock) (hat : (Value.slice AO R.length cO).ownBlock = some g8 ∨ g8 = w7.heap.size + 1) :
    JI LC w2 w5 (k + 1) (w8.setCell ⟨w2.heap.size, 0, none⟩ (.slice (some ⟨g8, 0, none⟩) (R.length + 1) cap8)) := by
  have h5r : w5.heap.size ≤ wr.heap.size := hS.1
  have hrI : wr.heap.size ≤ wI.heap.size := Below.size hI
  have hI7 : wI.heap.size ≤ w7.heap.size := Below.size h7
  have hr7 : Gq wr (w7.alloc o) := Below.trans hI (Below.mono (Below.trans h7 (Below.mono ((Gq.refl _).alloc _) hI7)) hrI)
  have h7a : Gq w7 (w7.alloc o) := (Gq.refl _).alloc _
  have hrow : ∀ b, (Value.slice AO R.length cO).ownBlock = some b → w5.heap.size ≤ b ∧ b < wr.heap.size := fun b hb => hgp.o.lt b hb
  have hz7 : (w7.alloc o).heap.size = w7.heap.size + 1 := by simp
  have hg8 := hgp.below hr7
  have hsn : GP 41 9 w8 w5.heap.size (.slice (some ⟨g8, 0, none⟩) (R.length + 1) cap8) (R ++ [⟨qi, ⟨A7, c7, qs⟩⟩]) := by
    refine GP.snoc (m := ⟨qi, ⟨A7, c7, qs⟩⟩) hg8 rfl (own_base (own_belowL hown7 h7a) (by omega)) (fun b hb e => ?_) (fun i hi b hb e => ?_) hown8 hgrow (by rw [hz7]; exact hat)
    · have h1 := hown7.lt b hb
      have h2 := hrow b e
      omega
    · have h1 := hown7.lt b e
      have h2 := (hgp.r i hi).lt b hb
      omega
  have hset := grown_set w8 w2.heap.size 0 (.slice (some ⟨g8, 0, none⟩) (R.length + 1) cap8)
  have hlen : (R ++ [(⟨qi, ⟨A7, c7, qs⟩⟩ : Psn)]).length = R.length + 1 := by simp
  refine ⟨R ++ [⟨qi, ⟨A7, c7, qs⟩⟩], some ⟨g8, 0, none⟩, cap8, by omega, fun r hr => ?_, ?_, ?_, ?_, ?_, ?_⟩
  · rcases List.mem_append.1 hr with h | h
    · have := hRn r h; omega
    · simp at h; subst h; simp only; omega
  · rw [hTK, putR_new hno, List.map_append]; rfl
  · rw [hlen]
    refine GP.keep hsn hset (fun b hb e => ?_) (fun i hi b hb e => ?_)
    · have h1 := hsn.o.lt b hb
      injection e with e; omega
    · have h1 := (hsn.r i hi).lt b hb
      injection e with e; omega
  · rw [hlen]
    have hb8 : Blk w8 w2.heap.size 25 [.slice AO R.length cO, .slice none 0 0] := blk_grown (blkGqL hO hr7) hgrow (fun e => by have := (hrow _ e.symm).1; omega)
    exact hb8.set_ 0 _
  · refine ⟨?_, fun b hb hl => ?_⟩
    · have h1 := hgrow.size
      have h2 := hset.size
      omega
    · have e1 := hset.block b (by have h1 := hgrow.size; omega) (fun e => by injection e with e; exact hb e)
      have e2 := hgrow.block b (by omega) (fun e => by have := (hrow _ e.symm).1; omega)
      have e3 := Below.block hr7 b (by omega)
      rw [e1, e2, e3]
      exact hS.2 b hb hl
  · have h1 : Gq w2 (w7.alloc o) := Below.trans hG (Below.mono hr7 (Below.size hG))
    have h2 : Gq w2 w8 := Below.grown h1 hgrow (Below.size h1) (fun b hb => by have := (hrow b hb).1; omega)
    exact Below.setCell (p := ⟨w2.heap.size, 0, none⟩) h2 (Nat.le_refl _) _
end Go.Proofs.YtnlnaglaipjlfaaGreatDoor
/- The state of Join's loop over a person's names. -/
namespace Go.Proofs.YtnlnaglaipjlfaaGreatDoor
open Go.RowKit Go.Dw

/-- j names of qs are put to person ix of X -/
def JP (w2 w5 : World) (X : List Psp) (ix g cO k : Nat) (qs : List ByteArray) (j : Nat) (wr : World) : Prop := ∃ R : List Psn, R.length = X.length ∧ (∀ r ∈ R, r.s.xs.length ≤ 10 * k + j) ∧
  R.map Psn.x = X.set ix ⟨(X.getD ix dPsp).id, addNs (X.getD ix dPsp).ns (qs.take j)⟩ ∧
  GP 41 9 wr w5.heap.size (.slice (some ⟨g, 0, none⟩) R.length cO) R ∧ Blk wr w2.heap.size 25 [.slice (some ⟨g, 0, none⟩) X.length cO, .slice none 0 0] ∧ Same (fun b => b ≠ w2.heap.size) w5 wr ∧ Gq w2 wr
theorem set_self (X : List Psp) (ix : Nat) : X.set ix ⟨(X.getD ix dPsp).id, (X.getD ix dPsp).ns⟩ = X := by
  apply List.ext_getElem?
  intro i
  rw [List.getElem?_set]
  split
  · rename_i e
    subst e
    split
    · rename_i h; rw [getD_at _ _ _ h, List.getElem?_eq_getElem h]
    · rename_i h; rw [List.getElem?_eq_none (by omega)]
  · rfl
theorem jp_start {w2 w5 wr : World} {R : List Psn} {ix g cO k : Nat} {qs : List ByteArray} (hn : ∀ r ∈ R, r.s.xs.length ≤ 10 * k)
    (hg : GP 41 9 wr w5.heap.size (.slice (some ⟨g, 0, none⟩) R.length cO) R) (hO : Blk wr w2.heap.size 25 [.slice (some ⟨g, 0, none⟩) R.length cO, .slice none 0 0]) (hS : Same (fun b => b ≠ w2.heap.size) w5 wr) (hG : Gq w2 wr) :
    JP w2 w5 (R.map Psn.x) ix g cO k qs 0 wr :=
  ⟨R, by simp, fun r hr => by have := hn r hr; omega, by rw [List.take_zero]; exact (set_self _ _).symm, hg, by rw [List.length_map]; exact hO, hS, hG⟩
theorem jp_skip {w2 w5 wr : World} {X : List Psp} {ix g cO k j : Nat} {qs : List ByteArray} (h : JP w2 w5 X ix g cO k qs j wr) (hj : j < qs.length) (hm : memS (addNs (X.getD ix dPsp).ns (qs.take j)) qs[j] = true) : JP w2 w5 X ix g cO k qs (j + 1) wr := by
  obtain ⟨R, h1, h2, h3, h4, h5, h6, h7⟩ := h
  refine ⟨R, h1, fun r hr => by have := h2 r hr; omega, ?_, h4, h5, h6, h7⟩
  rw [h3, addNs_succ _ _ _ hj, if_pos hm]
theorem jp_end {LC : List Psn} {w2 w5 wr : World} {R0 : List Psn} {g cO k : Nat} {qi : ByteArray} {qs : List ByteArray} (h : JP w2 w5 (R0.map Psn.x) (ixP (R0.map Psn.x) qi) g cO k qs qs.length wr) (hR : R0.length ≤ k) (hq : qs.length ≤ 10)
    (hix : ixP (R0.map Psn.x) qi < (R0.map Psn.x).length) (hTK : ((LC.take (k + 1)).map Psn.x).foldl putR [] = putR (R0.map Psn.x) ⟨qi, qs⟩) : JI LC w2 w5 (k + 1) wr := by
  obtain ⟨R, h1, h2, h3, h4, h5, h6, h7⟩ := h
  rw [List.length_map] at h1
  refine ⟨R, some ⟨g, 0, none⟩, cO, by omega, fun r hr => by have := h2 r hr; omega, ?_, h4, ?_, h6, h7⟩
  · rw [hTK, putR_old hix, h3, List.take_length, getD_at _ _ _ hix, ixP_at hix]
  · rw [List.length_map, ← h1] at h5; exact h5
theorem jp_push {w2 w5 wr w1 : World} {X : List Psp} {ix g cO k j : Nat} {qs : List ByteArray} {R : List Psn} {o : Obj} {g' c' : Nat} (hj : j < qs.length) (hm : memS (addNs (X.getD ix dPsp).ns (qs.take j)) qs[j] = false) (hix : ix < R.length) (h25 : w2.heap.size < w5.heap.size)
    (h1 : R.length = X.length) (h2 : ∀ r ∈ R, r.s.xs.length ≤ 10 * k + j) (h3 : R.map Psn.x = X.set ix ⟨(X.getD ix dPsp).id, addNs (X.getD ix dPsp).ns (qs.take j)⟩)
    (h4 : GP 41 9 wr w5.heap.size (.slice (some ⟨g, 0, none⟩) R.length cO) R) (h5 : Blk wr w2.heap.size 25 [.slice (some ⟨g, 0, none⟩) X.length cO, .slice none 0 0]) (h6 : Same (fun b => b ≠ w2.heap.size) w5 wr) (h7 : Gq w2 wr)
    (hown : w1.ownsRow w5.heap.size 9 1 (.slice (some ⟨g', 0, none⟩) (R[ix].s.xs.length + 1) c') (R[ix].s.xs.length + 1) (sb R[ix].s.xs ++ [.string qs[j]])) (hgrow : (wr.alloc o).grownBy w1 R[ix].s.v.ownBlock) (hat : R[ix].s.v.ownBlock = some g' ∨ g' = wr.heap.size + 1) :
    JP w2 w5 X ix g cO k qs (j + 1) (w1.setCell ⟨g, ix * 2 + 1, none⟩ (.slice (some ⟨g', 0, none⟩) (R[ix].s.xs.length + 1) c')) := by
  have h5r : w5.heap.size ≤ wr.heap.size := h6.1
  have hz : (wr.alloc o).heap.size = wr.heap.size + 1 := by simp
  have ha : Gq wr (wr.alloc o) := (Gq.refl _).alloc _
  have hrow : ∀ b, R[ix].s.v.ownBlock = some b → w5.heap.size ≤ b ∧ b < wr.heap.size := fun b hb => (h4.r ix hix).lt b hb
  have hgb := h4.o.lt g rfl
  obtain ⟨t, ht⟩ : ∃ t : Slc ByteArray, t = ⟨some ⟨g', 0, none⟩, c', R[ix].s.xs ++ [qs[j]]⟩ := ⟨_, rfl⟩
  have htv : t.v = .slice (some ⟨g', 0, none⟩) (R[ix].s.xs.length + 1) c' := by rw [ht]; simp [Slc.v]
  have htx : t.xs = R[ix].s.xs ++ [qs[j]] := by rw [ht]
  have hP := GP.push (h4.below ha) hix (t := t) (g' := g') (by rw [htv]; rfl) (by rw [htv, htx]; simpa [sb] using hown) hgrow (by rw [hz]; exact hat)
  rw [htv] at hP
  have hset := grown_set w1 g (ix * 2 + 1) (.slice (some ⟨g', 0, none⟩) (R[ix].s.xs.length + 1) c')
  have hxi : (R.map Psn.x)[ix]'(by simpa using hix) = ⟨R[ix].id, R[ix].s.xs⟩ := by simp [Psn.x]
  have hXi : ix < X.length := by omega
  have hx2 : (⟨R[ix].id, R[ix].s.xs⟩ : Psp) = ⟨(X.getD ix dPsp).id, addNs (X.getD ix dPsp).ns (qs.take j)⟩ := by
    rw [← hxi]
    simp only [h3, List.getElem_set_self]
  injection hx2 with hid hns
  refine ⟨R.set ix ⟨R[ix].id, t⟩, by simpa using h1, fun r hr => ?_, ?_, ?_, ?_, ?_, ?_⟩
  · rcases List.mem_or_eq_of_mem_set hr with h | h
    · have := h2 r h; omega
    · have := h2 R[ix] (List.getElem_mem hix)
      rw [h]; simp only [htx, List.length_append, List.length_cons, List.length_nil]; omega
  · rw [List.map_set, h3, List.set_set, addNs_succ _ _ _ hj, hm]
    congr 1
    simp only [Psn.x, htx]
    rw [hid, hns]; simp
  · rw [List.length_set]; exact hP
  · have hb1 : Blk w1 w2.heap.size 25 [.slice (some ⟨g, 0, none⟩) X.length cO, .slice none 0 0] := blk_grown (blkGqL h5 ha) hgrow (fun e => by have := (hrow _ e.symm).1; omega)
    exact blk_grown hb1 hset (fun e => by injection e with e; omega)
  · refine ⟨?_, fun b hb hl => ?_⟩
    · have e1 := hgrow.size
      have e2 := hset.size
      omega
    · have e1 := hset.block b (by have h1 := hgrow.size; omega) (fun e => by injection e with e; omega)
      have e2 := hgrow.block b (by omega) (fun e => by have := (hrow _ e.symm).1; omega)
      have e3 := Below.block ha b (by omega)
      rw [e1, e2, e3]
      exact h6.2 b hb hl
  · have e1 : Gq w2 (wr.alloc o) := Below.trans h7 (Below.mono ha (Below.size h7))
    have e2 : Gq w2 w1 := Below.grown e1 hgrow (Below.size e1) (fun b hb => by have := (hrow b hb).1; omega)
    exact Below.setCell (p := ⟨g, ix * 2 + 1, none⟩) e2 (by show w2.heap.size ≤ g; omega) _
end Go.Proofs.YtnlnaglaipjlfaaGreatDoor
/- What credit.Join gives; people whose slices are nil, or lie somewhere. -/
namespace Go.Proofs.YtnlnaglaipjlfaaGreatDoor
open Go.RowKit Go.Dw

/-- people whose slices are nil, or lie somewhere -/
def NilOk (x : Peo) : Prop := (x.p.a = none → x.p.c = 0) ∧ (x.c.a = none → x.c.c = 0)
def joiV (x : Peo) (f : Int) : Ending := .returned (.tuple #[x.v, .int .i64 f])
def nilPeo : Peo := ⟨⟨none, 0, []⟩, ⟨none, 0, []⟩⟩
/-- what Join gives -/
inductive JoiR (a b : Ppl) (w' : World) : Ending → Prop
  | badA (h : peoF a ≠ 0) : JoiR a b w' (joiV nilPeo (peoF a))
  | badB (h : peoF a = 0) (h2 : peoF b ≠ 0) : JoiR a b w' (joiV nilPeo (peoF b))
  | clash (h : peoF a = 0) (h2 : peoF b = 0) (h3 : badC [] (a.cs ++ b.cs) = true) : JoiR a b w' (joiV nilPeo 12)
  | badR (h : peoF a = 0) (h2 : peoF b = 0) (h3 : badC [] (a.cs ++ b.cs) = false) (P : List Psp) (C : List Clm) (hP : P.Perm (joiP a.ps b.ps)) (hC : C.Perm (joiC a.cs b.cs))
      (sP : P.Pairwise fun x y => decide (sLt y.id x.id) = false) (sC : C.Pairwise fun x y => clLt y x = false) (h4 : peoF ⟨P, C⟩ ≠ 0) : JoiR a b w' (joiV nilPeo (peoF ⟨P, C⟩))
  | ok (h : peoF a = 0) (h2 : peoF b = 0) (h3 : badC [] (a.cs ++ b.cs) = false) (x : Peo) (hP : x.x.ps.Perm (joiP a.ps b.ps)) (hC : x.x.cs.Perm (joiC a.cs b.cs))
      (sP : x.x.ps.Pairwise fun x y => decide (sLt y.id x.id) = false) (sC : x.x.cs.Pairwise fun x y => clLt y x = false) (h4 : peoF x.x = 0) (h5 : PeoOk w' x) : JoiR a b w' (joiV x 0)
theorem blkGq {w w' : World} {g : Nat} {t : TypeId} {cs : List Value} (h : Blk w g t cs) (hb : Gq w w') : Blk w' g t cs := h.same (Same.of_below (S := fun _ => True) hb) trivial
theorem res2 {W : World} {g : Nat} {t : TypeId} {c0 c1 : Value} (h : Blk W g t [c0, c1]) (u v : Value) :
    W.cell? ⟨g, 0, none⟩ = some c0 ∧ W.cell? ⟨g, 1, none⟩ = some c1 ∧ W.frozen? ⟨g, 0, none⟩ = false ∧ W.frozen? ⟨g, 1, none⟩ = false ∧
    (W.setCell ⟨g, 0, none⟩ u).frozen? ⟨g, 1, none⟩ = false ∧ (W.setCell ⟨g, 0, none⟩ u).cell? ⟨g, 1, none⟩ = some c1 ∧
    ((W.setCell ⟨g, 0, none⟩ u).setCell ⟨g, 1, none⟩ v).cell? ⟨g, 0, none⟩ = some u ∧ ((W.setCell ⟨g, 0, none⟩ u).setCell ⟨g, 1, none⟩ v).cell? ⟨g, 1, none⟩ = some v := by
  have k1 := h.set_ 0 u
  have k2 := k1.set_ 1 v
  exact ⟨h.cell 0, h.cell 1, h.frozen 0, h.frozen 1, k1.frozen 1, k1.cell 1, k2.cell 0, k2.cell 1⟩
/-- the loop's own person stays -/
def KJ (T : TypeId) (g m : Nat) (cs : List Value) (W : World) : Prop := Blk W g T cs ∧ m ≤ W.heap.size
theorem KJ.drew {T : TypeId} {g m : Nat} {cs : List Value} {W : World} (h : KJ T g m cs W) : KJ T g m cs W.drew := ⟨h.1, h.2⟩
theorem KJ.alloc {T : TypeId} {g m : Nat} {cs : List Value} {W : World} (h : KJ T g m cs W) (o : Obj) : KJ T g m cs (W.alloc o) := ⟨blkGq h.1 ((Gq.refl _).alloc _), by have := h.2; simp; omega⟩
theorem KJ.set {T : TypeId} {g m o i : Nat} {cs : List Value} {W : World} (h : KJ T g m cs W) (hne : o ≠ g) (v : Value) : KJ T g m cs (W.setCell ⟨o, i, none⟩ v) :=
  ⟨h.1.same (Same.set (S := fun b => b = g) W ⟨o, i, none⟩ v hne) rfl, by have := h.2; simpa [World.setCell] using this⟩
theorem KJ.grown {T : TypeId} {g m : Nat} {cs : List Value} {W W' : World} {row : Option Nat} (h : KJ T g m cs W) (hg : W.grownBy W' row) (hne : some g ≠ row) : KJ T g m cs W' := ⟨blk_grown h.1 hg hne, Nat.le_trans h.2 hg.size⟩
end Go.Proofs.YtnlnaglaipjlfaaGreatDoor
/- Join's loop over claims: its state, and its steps. -/
namespace Go.Proofs.YtnlnaglaipjlfaaGreatDoor
open Go.RowKit Go.Dw

theorem ixC_cons (d : Clm) (l : List Clm) (c : Clm) : ixC (d :: l) c = if c.k = d.k then 0 else ixC l c + 1 := by
  unfold ixC
  rw [List.findIdx_cons]
  by_cases h : c.k = d.k <;> simp [h]
theorem putC_new : ∀ {out : List Clm} {c : Clm}, ¬ ixC out c < out.length → putC out c = out ++ [c] ∧ sOf out c.k = none
  | [], c, _ => ⟨rfl, rfl⟩
  | d :: l, c, h => by
    rw [ixC_cons] at h
    by_cases e : c.k = d.k
    · rw [if_pos e] at h; simp at h
    · rw [if_neg e] at h
      obtain ⟨h1, h2⟩ := putC_new (out := l) (c := c) (by simpa using h)
      rw [putC, sOf, if_neg (fun x => e x.symm), if_neg (fun x => e x.symm), h1]
      exact ⟨rfl, h2⟩
theorem putC_old : ∀ {out : List Clm} {c : Clm} (h : ixC out c < out.length), putC out c = out ∧ sOf out c.k = some (out[ixC out c]).s
  | [], c, h => by simp at h
  | d :: l, c, h => by
    have h1 := ixC_cons d l c
    rw [putC, sOf]
    by_cases e : c.k = d.k
    · rw [if_pos e] at h1
      rw [if_pos e.symm, if_pos e.symm]
      simp only [h1, List.getElem_cons_zero]
      exact ⟨trivial, trivial⟩
    · rw [if_neg e] at h1
      have h2 : ixC l c < l.length := by rw [h1] at h; simpa using h
      obtain ⟨h3, h4⟩ := putC_old h2
      rw [if_neg (fun x => e x.symm), if_neg (fun x => e x.symm), h3, h4]
      simp only [h1, List.getElem_cons_succ]
      exact ⟨trivial, trivial⟩
theorem oth_new {out : List Clm} {c : Clm} (h : ¬ ixC out c < out.length) : oth out c = false := by
  unfold oth; rw [(putC_new h).2]; rfl
theorem oth_old {out : List Clm} {c : Clm} (h : ixC out c < out.length) : oth out c = (out[ixC out c].s != c.s) := by
  unfold oth
  rw [(putC_old h).2]
  generalize out[ixC out c].s = x
  generalize c.s = y
  cases x <;> cases y <;> rfl
theorem badC_succ (M : List Clm) (k : Nat) (h : k < M.length) : badC [] (M.take (k + 1)) = (badC [] (M.take k) || oth ((M.take k).foldl putC []) M[k]) := by
  rw [List.take_succ_eq_append_getElem h, badC_app]
  simp [badC]
theorem foldC_succ (M : List Clm) (k : Nat) (h : k < M.length) : (M.take (k + 1)).foldl putC [] = putC ((M.take k).foldl putC []) M[k] := by
  rw [List.take_succ_eq_append_getElem h, List.foldl_append]; rfl
theorem badC_take {M : List Clm} {k : Nat} (h : badC [] (M.take k) = true) : badC [] M = true := by
  have := badC_app (M.take k) [] (M.drop k)
  rw [List.take_append_drop, h] at this
  rw [this]; rfl
/-- k claims are put together -/
def JC (M : List Clm) (v0 : Value) (g : Nat) (wF : World) (k : Nat) (W : World) : Prop := ∃ (C : List Clm) (A : Option Addr) (c : Nat), C.length ≤ k ∧ C = (M.take k).foldl putC [] ∧ badC [] (M.take k) = false ∧
  W.ownsRow wF.heap.size 49 3 (.slice A C.length c) C.length (C.flatMap Clm.cs) ∧ Blk W g 25 [v0, .slice A C.length c] ∧ wF.grownBy W (some g)
theorem jc_start {M : List Clm} {v0 : Value} {g : Nat} {wF : World} (h : Blk wF g 25 [v0, .slice none 0 0]) : JC M v0 g wF 0 wF :=
  ⟨[], none, 0, Nat.le_refl _, by simp, by simp [badC], World.ownsRow_nil _ _ _ _, h, World.grownBy.refl _ _⟩
theorem grown_gq {W W' : World} (h : Gq W W') (row : Option Nat) : W.grownBy W' row := ⟨h.os, h.tape, h.output, h.size, fun j hj _ => h.block j hj⟩
theorem jc_old {M : List Clm} {v0 : Value} {g : Nat} {wF wr wI : World} {k : Nat} (h : JC M v0 g wF k wr) (hk : k < M.length) (hI : Gq wr wI) (ho : oth ((M.take k).foldl putC []) M[k] = false) (hx : ixC ((M.take k).foldl putC []) M[k] < ((M.take k).foldl putC []).length) : JC M v0 g wF (k + 1) wI := by
  obtain ⟨C, A, c, h1, h2, h3, h4, h5, h6⟩ := h
  refine ⟨C, A, c, by omega, ?_, ?_, own_belowL h4 hI, blkGqL h5 hI, h6.trans (grown_gq hI _)⟩
  · rw [foldC_succ _ _ hk, (putC_old hx).1]; exact h2
  · rw [badC_succ _ _ hk, h3, ho]; rfl
theorem jc_new {M : List Clm} {v0 : Value} {g : Nat} {wF wr wI w8 : World} {k : Nat} {C : List Clm} {A : Option Addr} {c g8 cap8 : Nat} {o : Obj} {m : Clm}
    (h1 : C.length ≤ k) (h2 : C = (M.take k).foldl putC []) (h3 : badC [] (M.take k) = false) (h4 : wr.ownsRow wF.heap.size 49 3 (.slice A C.length c) C.length (C.flatMap Clm.cs)) (h5 : Blk wr g 25 [v0, .slice A C.length c]) (h6 : wF.grownBy wr (some g))
    (hk : k < M.length) (hm : M[k] = m) (hno : ¬ ixC C m < C.length) (hg : g < wF.heap.size) (hI : Gq wr wI)
    (hown : w8.ownsRow wF.heap.size 49 3 (.slice (some ⟨g8, 0, none⟩) (C.length + 1) cap8) (C.length + 1) (C.flatMap Clm.cs ++ m.cs))
    (hgrow : (wI.alloc o).grownBy w8 (Value.slice A C.length c).ownBlock) :
    JC M v0 g wF (k + 1) (w8.setCell ⟨g, 1, none⟩ (.slice (some ⟨g8, 0, none⟩) (C.length + 1) cap8)) := by
  subst hm
  have hr7 : Gq wr (wI.alloc o) := Below.trans hI (Below.mono ((Gq.refl _).alloc _) (Below.size hI))
  have hrow : ∀ b, (Value.slice A C.length c).ownBlock = some b → wF.heap.size ≤ b ∧ b < wr.heap.size := fun b hb => h4.lt b hb
  have hset := grown_set w8 g 1 (.slice (some ⟨g8, 0, none⟩) (C.length + 1) cap8)
  have hlen : (C ++ [M[k]]).length = C.length + 1 := by simp
  refine ⟨C ++ [M[k]], some ⟨g8, 0, none⟩, cap8, by omega, ?_, ?_, ?_, ?_, ?_⟩
  · rw [foldC_succ _ _ hk, ← h2, (putC_new hno).1]
  · rw [badC_succ _ _ hk, h3, ← h2, oth_new hno]; rfl
  · rw [hlen, List.flatMap_append]
    have hown' : w8.ownsRow wF.heap.size 49 3 (.slice (some ⟨g8, 0, none⟩) (C.length + 1) cap8) (C.length + 1) (C.flatMap Clm.cs ++ [M[k]].flatMap Clm.cs) := by simpa using hown
    exact own_keep hown' hset (fun b hb e => by have h7 := hown.lt b hb; injection e with e; omega)
  · rw [hlen]
    have hb8 : Blk w8 g 25 [v0, .slice A C.length c] := blk_grown (blkGqL h5 hr7) hgrow (fun e => by have := (hrow _ e.symm).1; omega)
    exact hb8.set_ 1 _
  · refine ((h6.trans (grown_gq hr7 _)).andThen hgrow (fun j hj => .inl (hrow j hj).1)).trans hset
theorem own_cap {w : World} {base e size n n' c : Nat} {A : Option Addr} {xs : List Value} (h : w.ownsRow base e size (.slice A n' c) n xs) : n ≤ c := by
  rcases h.2 with ⟨_, h0⟩ | ⟨g, cap, cur, hv, _, _, h4, _⟩
  · omega
  · injection hv with _ _ e; subst e; exact h4
theorem rd_grown {w w' : World} {A : Option Addr} {vs : List Value} {row : Option Nat} (h : Rd w A vs) (hg : w.grownBy w' row) (hne : ∀ b off, A = some ⟨b, off, none⟩ → row ≠ some b) : Rd w' A vs := by
  rcases h with h | ⟨b, off, e, hb, hc⟩
  · exact .inl h
  · exact .inr ⟨b, off, e, Nat.lt_of_lt_of_le hb hg.size, fun j u hu => (hg.cell_far ⟨b, off + j, none⟩ hb (fun e2 => hne b off e e2.symm)).trans (hc j u hu)⟩
/-- sizes of what came in -/
def Sz (p : Psp) : Prop := p.id.size ≤ 9223372036854775807 ∧ ∀ s ∈ p.ns, s.size ≤ 9223372036854775807
theorem putR_sz : ∀ (out : List Psp) (x : Psp), (∀ y ∈ out, Sz y) → Sz x → ∀ y ∈ putR out x, Sz y
  | [], x, _, hx, y, hy => by simp [putR] at hy; subst hy; exact hx
  | z :: l, x, ho, hx, y, hy => by
    rw [putR] at hy
    split at hy
    · rcases List.mem_cons.1 hy with rfl | hy
      · refine ⟨(ho z (by simp)).1, fun s hs => ?_⟩
        rcases (mem_addNs _ _ _).1 hs with h | h
        · exact (ho z (by simp)).2 s h
        · exact hx.2 s h
      · exact ho y (by simp [hy])
    · rcases List.mem_cons.1 hy with rfl | hy
      · exact ho y (by simp)
      · exact putR_sz l x (fun q hq => ho q (by simp [hq])) hx y hy
theorem foldR_sz : ∀ (L out : List Psp), (∀ y ∈ out, Sz y) → (∀ y ∈ L, Sz y) → ∀ y ∈ L.foldl putR out, Sz y
  | [], _, ho, _ => ho
  | x :: L, out, ho, hL => foldR_sz L _ (putR_sz out x ho (hL x (by simp))) fun y hy => hL y (by simp [hy])
theorem putC_mem : ∀ (out : List Clm) (c d : Clm), d ∈ putC out c → d ∈ out ∨ d = c
  | [], c, d, h => by simp [putC] at h; exact .inr h
  | z :: l, c, d, h => by
    rw [putC] at h
    split at h
    · exact .inl h
    · rcases List.mem_cons.1 h with rfl | h
      · exact .inl (by simp)
      · rcases putC_mem l c d h with h | h
        · exact .inl (by simp [h])
        · exact .inr h
theorem foldC_mem : ∀ (L out : List Clm) (d : Clm), d ∈ L.foldl putC out → d ∈ out ∨ d ∈ L
  | [], _, _, h => .inl h
  | x :: L, out, d, h => by
    rcases foldC_mem L _ d h with h | h
    · rcases putC_mem out x d h with h | h
      · exact .inl h
      · exact .inr (by simp [h])
    · exact .inr (by simp [h])
/-- the people that were put together, behind both sorts -/
theorem joi_end {LC : List Psn} {M : List Clm} {wF W W1 W2 W3 : World} {B5 g gg : Nat} {R R' : List Psn} {C C' : List Clm} {AO A : Option Addr} {cO c : Nat}
    (hGP : GP 41 9 wF B5 (.slice AO R.length cO) R) (hR : R.map Psn.x = (LC.map Psn.x).foldl putR []) (hRn : ∀ r ∈ R, r.s.xs.length ≤ 2000) (hRl : R.length ≤ 200)
    (hLC : ∀ y ∈ LC, Sz y.x) (hM : ∀ y ∈ M, ClmOk y) (hgB : g < B5) (hC : C = M.foldl putC []) (hCl : C.length ≤ 1000000)
    (hown : W.ownsRow wF.heap.size 49 3 (.slice A C.length c) C.length (C.flatMap Clm.cs)) (hgr : wF.grownBy W (some g))
    (hP1 : R'.Perm R) (rd1 : Rd W1 AO (R'.flatMap Psn.cs)) (g1 : W.grownBy W1 (Value.slice AO R.length cO).ownBlock)
    (hP2 : C'.Perm C) (rd2 : Rd W2 A (C'.flatMap Clm.cs)) (g2 : W1.grownBy W2 (Value.slice A C.length c).ownBlock) (g3 : W2.grownBy W3 (some gg)) (hgg : gg < B5) (hBF : B5 ≤ wF.heap.size) :
    PeoOk W3 ⟨⟨AO, cO, R'⟩, ⟨A, c, C'⟩⟩ := by
  have hl1 := hP1.length_eq
  have hl2 := hP2.length_eq
  have hrow : ∀ b, (Value.slice AO R.length cO).ownBlock = some b → B5 ≤ b ∧ b < wF.heap.size := fun b hb => hGP.o.lt b hb
  have hrow2 : ∀ b, (Value.slice A C.length c).ownBlock = some b → wF.heap.size ≤ b ∧ b < W.heap.size := fun b hb => hown.lt b hb
  have hGW : GP 41 9 W B5 (.slice AO R.length cO) R := GP.keep hGP hgr
    (fun b hb e => by have := (hGP.o.lt b hb).1; injection e with e; omega) (fun i hi b hb e => by have := ((hGP.r i hi).lt b hb).1; injection e with e; omega)
  have hsz : ∀ y ∈ R, Sz y.x := fun y hy => foldR_sz (LC.map Psn.x) [] (by simp) (fun q hq => by
    obtain ⟨z, hz, rfl⟩ := List.mem_map.1 hq; exact hLC z hz) y.x (by rw [← hR]; exact List.mem_map.2 ⟨y, hy, rfl⟩)
  refine ⟨by show R'.length ≤ _; omega, by show R'.length ≤ cO; rw [hl1]; exact own_cap hGP.o, ?_, fun y hy => ?_, by show C'.length ≤ _; omega, ?_, fun y hy => ?_⟩
  · refine rd_grown (rd_grown rd1 g2 fun b off e e2 => ?_) g3 fun b off e e2 => ?_
    · have e : AO = some ⟨b, off, none⟩ := e
      subst e
      have h1 := hrow b rfl
      have h2 := hrow2 b e2
      omega
    · have e : AO = some ⟨b, off, none⟩ := e
      subst e
      have h1 := hrow b rfl
      injection e2 with e2
      omega
  · have hy' : y ∈ R := hP1.mem_iff.1 hy
    obtain ⟨i, hi, rfl⟩ := List.getElem_of_mem hy'
    have h1 := own_keep (hGW.r i hi) g1 (fun b hb e => hGW.d i hi b hb e)
    have h2 := own_keep h1 g2 (fun b hb e => by
      have h3 := (hrow2 b e).1
      have h4 := ((hGP.r i hi).lt b hb).2
      omega)
    have h2 := own_keep h2 g3 (fun b hb e => by
      have h4 := ((hGP.r i hi).lt b hb).1
      injection e with e
      omega)
    exact ⟨⟨(hsz _ hy').1, own_cap (hGW.r i hi)⟩, by have := hRn _ hy'; omega, Rd.of_own h2, (hsz _ hy').2⟩
  · refine rd_grown rd2 g3 fun b off e e2 => ?_
    have e : A = some ⟨b, off, none⟩ := e
    subst e
    have h1 := (hrow2 b rfl).1
    injection e2 with e2
    omega
  · have hy' : y ∈ M := by
      have := hP2.mem_iff.1 hy
      rw [hC] at this
      rcases foldC_mem M [] y this with h | h
      · cases h
      · exact h
    exact hM y hy'
end Go.Proofs.YtnlnaglaipjlfaaGreatDoor
/- The two sorts of credit.Join: persons by Id, claims by compareClaims. -/

namespace Go.Proofs.YtnlnaglaipjlfaaGreatDoor
open Go.RowKit Go.Dw Go.Sort

instance : Inhabited Psn := ⟨⟨⟨#[]⟩, ⟨none, 0, []⟩⟩⟩
instance : Inhabited Clm := ⟨dClm⟩
def cfN (x y : Psn) : Int := cmpS x.id y.id
theorem ltOf_cfN (x y : Psn) : ltOf cfN x y = decide (sLt x.id y.id) := by
  unfold ltOf cfN
  rw [Bool.eq_iff_iff, decide_eq_true_eq, decide_eq_true_eq]; exact cmpS_lt
theorem ltOf_cmpC (x y : Clm) : ltOf cmpC x y = clLt x y := by
  unfold ltOf
  rw [Bool.eq_iff_iff, decide_eq_true_eq]; exact cmpC_lt
theorem swoN : SWO (ltOf cfN) where
  irrefl x := by rw [ltOf_cfN]; exact decide_eq_false (sLt_irr _)
  trans x y z h1 h2 := by
    rw [ltOf_cfN, decide_eq_true_eq] at *
    exact sLt_trans h1 h2
  ntrans x y z h1 h2 := by
    rw [ltOf_cfN, decide_eq_false_iff_not] at *
    intro h3
    rcases sLt_tri x.id y.id with h | h | h
    · exact h1 h
    · rw [h] at h3; exact h2 h3
    · exact h2 (sLt_trans h h3)
theorem swoC : SWO (ltOf cmpC) where
  irrefl x := by
    rw [ltOf_cmpC]
    cases h : clLt x x
    · rfl
    · exact absurd h (clR_irr x)
  trans x y z h1 h2 := by rw [ltOf_cmpC] at *; exact clR_trans h1 h2
  ntrans x y z h1 h2 := by
    rw [ltOf_cmpC] at *
    cases h : clLt x z
    · rfl
    · rcases clR_tri x y with k | k | k
      · rw [show clLt x y = true from k] at h1; cases h1
      · have e : clLt y z = clLt x z := by
          simp only [Clm.k, Prod.mk.injEq] at k
          unfold clLt; rw [k.1, k.2]
        rw [e, h] at h2; cases h2
      · have := clR_trans k h
        rw [show clLt y z = true from this] at h2; cases h2
/-- a row behind a sort: the other blocks stay -/
def SrtG {α : Type} (lt : α → α → Bool) (enc : α → List Value) (w : World) (v : Value) (A : Option Addr) (l : List α) (e : Ending) (w' : World) : Prop :=
  e = .returned (.tuple #[]) ∧ ∃ l' : List α, l'.Perm l ∧ l'.Pairwise (fun x y => lt y x = false) ∧ Rd w' A (l'.flatMap enc) ∧ w.grownBy w' v.ownBlock
theorem grown_sort {α : Type} [Inhabited α] {enc : α → List Value} {k : Nat} {w : World} {g m : Nat} {d : Array α} {os : Array Obj} (_ : g < w.heap.size) : w.grownBy (sortWorldK enc k w g 0 m d os) (some g) := by
  refine ⟨rfl, rfl, rfl, ?_, fun j hjs hne => ?_⟩
  · simp [sortWorldK, putRowK, Go.Sort.size_putRow]
  · unfold sortWorldK
    rw [heap_grow_old _ _ (by rw [putRowK, Go.Sort.size_putRow]; exact hjs)]
    simp only [putRowK, putRow, mapBlock, Array.getElem?_modify]
    rw [if_neg (by intro e; exact hne (by rw [e]))]; rfl
set_option maxRecDepth 100000 in
set_option maxHeartbeats 2000000 in
theorem cmpPs_any (x y : Psn) (w : World) :
    Calls Tryz.prog 21 #[.agg #[.string x.id, .slice x.s.a x.s.xs.length x.s.c], .agg #[.string y.id, .slice y.s.a y.s.xs.length y.s.c]] w fun e w' => e = .returned (.int .i64 (cfN x y)) ∧ Grw w w' := by
  have HC := Lib.hid (fun W => compare_any x.id y.id W)
  have HR : Hid (cfN x y = cmpS x.id y.id) := rfl
  rw [HR.out]
  generalize cmpS x.id y.id = r at *
  clear HR
  obtain ⟨xi, ⟨xa, xc, xl⟩⟩ := x
  obtain ⟨yi, ⟨ya, yc, yl⟩⟩ := y
  simp only at HC ⊢
  generalize (xl.length : Nat) = xn
  generalize (yl.length : Nat) = yn
  go_enter Tryz.func21, Tryz.ntmps21
  go_wp2_with fail
  refine (HC.out _).mono ?_
  rintro e w' ⟨rfl, rfl⟩
  go_wp2_with fail
  go_ret
  exact ⟨rfl, ((Grw.refl _).alloc _).alloc _⟩

theorem cmpLaysN (g off size : Nat) (w : World) : CmpLays Tryz.prog 21 #[] Psn.cs 2 cfN g off size w :=
  fun _ _ _ _ x y => cmpPs_any x y _
theorem cmpLaysC (g off size : Nat) (w : World) : CmpLays Tryz.prog 19 #[] Clm.cs 3 cmpC g off size w :=
  fun _ _ _ _ x y => cmpC_any x y _
theorem sortPs_any (base : Nat) (A : Option Addr) (n c : Nat) (l : List Psn) (w : World) (hown : w.ownsRow base 41 2 (.slice A n c) n (l.flatMap Psn.cs)) (hn : l.length = n) (hm : n < 4611686018427387904) :
    Calls Tryz.prog 20 #[.slice A n c, .func (.func 21) #[] #[]] w (SrtG (ltOf cfN) Psn.cs w (.slice A n c) A l) := by
  have eg : ∀ args w, (callFunc 21 args).run Tryz.prog w = .ok (.enter 21 args) w := enters_of Tryz.func21 (by kernel_rfl) rfl
  by_cases h0 : n = 0
  · subst h0
    have : l = [] := List.eq_nil_of_length_eq_zero hn
    subst this
    exact (AnyF.slices_SortFunc_none Tryz.sortPs A c _ w).mono fun e w' ⟨h1, h2⟩ => ⟨h1, [], List.Perm.refl _, by simp, .inl rfl, by rw [h2]; exact World.grownBy.refl _ _⟩
  · rcases hown.2 with ⟨h1, h2⟩ | ⟨g, cap, cur, hv, hb, hg, _⟩
    · exact absurd h2 h0
    · injection hv with e1 e2 e3
      subst e1
      have hH := holdsK_of_own (enc := Psn.cs) (fun _ => rfl) hown hn
      have hgs : g < w.heap.size := (Array.getElem?_eq_some_iff.1 hg).1
      have hs : l.toArray.size = n := by simpa using hn
      have hcon := AnyQ.slices_SortFunc Tryz.sortPs 2 Tryz.isAgg41 Tryz.sizeOf41 Psn.cs (fun _ => rfl) (fun x v hv => by simp [Psn.cs, Slc.v] at hv; rcases hv with rfl | rfl <;> rfl) cfN swoN 21 #[] g 0 c l.toArray w eg (cmpLaysN g 0 _ w) hH hgs (by omega)
      rw [hs] at hcon
      refine hcon.mono fun e w' ⟨h1, d', m, os, hp, hs2, hw⟩ => ⟨h1, ?_⟩
      rw [hw]
      obtain ⟨l', q1, q2, q3, _⟩ := srt_of (enc := Psn.cs) (k := 2) (m := m) (os := os) (fun _ => rfl) hgs (Nat.le_refl g) hH (by rw [hs]; exact hp) (by rw [hs]; exact hs2)
      exact ⟨l', q1, q2, q3, grown_sort hgs⟩
theorem sortCl_any (base : Nat) (A : Option Addr) (n c : Nat) (l : List Clm) (w : World) (hown : w.ownsRow base 49 3 (.slice A n c) n (l.flatMap Clm.cs)) (hn : l.length = n) (hm : n < 4611686018427387904) :
    Calls Tryz.prog 23 #[.slice A n c, .func (.func 19) #[] #[]] w (SrtG (ltOf cmpC) Clm.cs w (.slice A n c) A l) := by
  have eg : ∀ args w, (callFunc 19 args).run Tryz.prog w = .ok (.enter 19 args) w := enters_of Tryz.func19 (by kernel_rfl) rfl
  by_cases h0 : n = 0
  · subst h0
    have : l = [] := List.eq_nil_of_length_eq_zero hn
    subst this
    exact (AnyF.slices_SortFunc_none Tryz.sortCl A c _ w).mono fun e w' ⟨h1, h2⟩ => ⟨h1, [], List.Perm.refl _, by simp, .inl rfl, by rw [h2]; exact World.grownBy.refl _ _⟩
  · rcases hown.2 with ⟨h1, h2⟩ | ⟨g, cap, cur, hv, hb, hg, _⟩
    · exact absurd h2 h0
    · injection hv with e1 e2 e3
      subst e1
      have hH := holdsK_of_own (enc := Clm.cs) (fun _ => rfl) hown hn
      have hgs : g < w.heap.size := (Array.getElem?_eq_some_iff.1 hg).1
      have hs : l.toArray.size = n := by simpa using hn
      have hcon := AnyQ.slices_SortFunc Tryz.sortCl 3 Tryz.isAgg49 Tryz.sizeOf49 Clm.cs (fun _ => rfl) (fun x v hv => by simp [Clm.cs] at hv; rcases hv with rfl | rfl | rfl <;> rfl) cmpC swoC 19 #[] g 0 c l.toArray w eg (cmpLaysC g 0 _ w) hH hgs (by omega)
      rw [hs] at hcon
      refine hcon.mono fun e w' ⟨h1, d', m, os, hp, hs2, hw⟩ => ⟨h1, ?_⟩
      rw [hw]
      obtain ⟨l', q1, q2, q3, _⟩ := srt_of (enc := Clm.cs) (k := 3) (m := m) (os := os) (fun _ => rfl) hgs (Nat.le_refl g) hH (by rw [hs]; exact hp) (by rw [hs]; exact hs2)
      exact ⟨l', q1, q2, q3, grown_sort hgs⟩
end Go.Proofs.YtnlnaglaipjlfaaGreatDoor
/- Plain: what Join gives in either order. -/
namespace Go.Proofs.YtnlnaglaipjlfaaGreatDoor
open Go.RowKit Go.Dw

/-- what Join gives: people and a fault -/
inductive JoiX (a b : Ppl) (w' : World) : Peo → Int → Prop
  | badA (h : peoF a ≠ 0) : JoiX a b w' nilPeo (peoF a)
  | badB (h : peoF a = 0) (h2 : peoF b ≠ 0) : JoiX a b w' nilPeo (peoF b)
  | clash (h : peoF a = 0) (h2 : peoF b = 0) (h3 : badC [] (a.cs ++ b.cs) = true) : JoiX a b w' nilPeo 12
  | badR (h : peoF a = 0) (h2 : peoF b = 0) (h3 : badC [] (a.cs ++ b.cs) = false) (P : List Psp) (C : List Clm) (hP : P.Perm (joiP a.ps b.ps)) (hC : C.Perm (joiC a.cs b.cs))
      (sP : P.Pairwise fun x y => decide (sLt y.id x.id) = false) (sC : C.Pairwise fun x y => clLt y x = false) (h4 : peoF ⟨P, C⟩ ≠ 0) : JoiX a b w' nilPeo (peoF ⟨P, C⟩)
  | ok (h : peoF a = 0) (h2 : peoF b = 0) (h3 : badC [] (a.cs ++ b.cs) = false) (x : Peo) (hP : x.x.ps.Perm (joiP a.ps b.ps)) (hC : x.x.cs.Perm (joiC a.cs b.cs))
      (sP : x.x.ps.Pairwise fun x y => decide (sLt y.id x.id) = false) (sC : x.x.cs.Pairwise fun x y => clLt y x = false) (h4 : peoF x.x = 0) (h5 : PeoOk w' x) : JoiX a b w' x 0
theorem JoiR.form {a b : Ppl} {w' : World} {e : Ending} (h : JoiR a b w' e) : ∃ x f, e = joiV x f ∧ JoiX a b w' x f := by
  cases h with
  | badA h => exact ⟨_, _, rfl, .badA h⟩
  | badB h h2 => exact ⟨_, _, rfl, .badB h h2⟩
  | clash h h2 h3 => exact ⟨_, _, rfl, .clash h h2 h3⟩
  | badR h h2 h3 P C hP hC sP sC h4 => exact ⟨_, _, rfl, .badR h h2 h3 P C hP hC sP sC h4⟩
  | ok h h2 h3 x hP hC sP sC h4 h5 => exact ⟨_, _, rfl, .ok h h2 h3 x hP hC sP sC h4 h5⟩
theorem joi_alike {a b : Ppl} (ha : PplR a) (hb : PplR b) (hbad : badC [] (a.cs ++ b.cs) = false) {P Q : List Psp} {C D : List Clm}
    (hP : P.Perm (joiP a.ps b.ps)) (hC : C.Perm (joiC a.cs b.cs)) (sP : P.Pairwise fun x y => decide (sLt y.id x.id) = false) (sC : C.Pairwise fun x y => clLt y x = false)
    (hQ : Q.Perm (joiP b.ps a.ps)) (hD : D.Perm (joiC b.cs a.cs)) (sQ : Q.Pairwise fun x y => decide (sLt y.id x.id) = false) (sD : D.Pairwise fun x y => clLt y x = false) :
    peoF ⟨P, C⟩ = peoF ⟨Q, D⟩ ∧ grpsF ⟨P, C⟩ P.length = grpsF ⟨Q, D⟩ Q.length := by
  have h1 := alike_joi ha.ps hb.ps hP hQ sP sQ
  have h2 := claims_joi ha.cs.nodup hb.cs.nodup hC hD hbad sC sD
  subst h2
  exact ⟨h1.peoF C, by rw [h1.grps, h1.len]⟩
/-- in both orders: the same fault, or people with the same groups -/
theorem joi_both {a b : Ppl} {w w' : World} {x y : Peo} {f g : Int} (ha : peoF a = 0) (hb : peoF b = 0) (h : JoiX a b w x f) (k : JoiX b a w' y g) :
    f = g ∧ (f = 0 → PeoOk w x ∧ PeoOk w' y ∧ peoF x.x = 0 ∧ peoF y.x = 0 ∧ grpsF x.x x.x.ps.length = grpsF y.x y.x.ps.length) := by
  have ra := pplR_of ha
  have rb := pplR_of hb
  have hc := bad_comm ra.cs.nodup rb.cs.nodup
  cases h with
  | badA h => exact absurd ha h
  | badB _ h => exact absurd hb h
  | clash _ _ h3 =>
    cases k with
    | badA h => exact absurd hb h
    | badB _ h => exact absurd ha h
    | clash _ _ k3 => exact ⟨rfl, fun h => absurd h (by decide)⟩
    | badR _ _ k3 => rw [hc, k3] at h3; cases h3
    | ok _ _ k3 => rw [hc, k3] at h3; cases h3
  | badR _ _ h3 P C hP hC sP sC h4 =>
    cases k with
    | badA h => exact absurd hb h
    | badB _ h => exact absurd ha h
    | clash _ _ k3 => rw [hc, k3] at h3; cases h3
    | badR _ _ k3 Q D hQ hD sQ sD k4 => exact ⟨(joi_alike ra rb h3 hP hC sP sC hQ hD sQ sD).1, fun h => absurd h h4⟩
    | ok _ _ k3 y hQ hD sQ sD k4 k5 => exact absurd ((joi_alike ra rb h3 hP hC sP sC hQ hD sQ sD).1.trans k4) h4
  | ok _ _ h3 x hP hC sP sC h4 h5 =>
    cases k with
    | badA h => exact absurd hb h
    | badB _ h => exact absurd ha h
    | clash _ _ k3 => rw [hc, k3] at h3; cases h3
    | badR _ _ k3 Q D hQ hD sQ sD k4 => exact absurd ((joi_alike ra rb h3 hP hC sP sC hQ hD sQ sD).1.symm.trans h4) k4
    | ok _ _ k3 y hQ hD sQ sD k4 k5 => exact ⟨rfl, fun _ => ⟨h5, k5, h4, k4, (joi_alike ra rb h3 hP hC sP sC hQ hD sQ sD).2⟩⟩
end Go.Proofs.YtnlnaglaipjlfaaGreatDoor
/- Plain: all are together that were together before. -/
namespace Go.Proofs.YtnlnaglaipjlfaaGreatDoor
open Go.RowKit Go.Dw

theorem idAt_ix {ps : List Psp} {q : ByteArray} (h : ixP ps q < ps.length) : idAt ps (ixP ps q) = q := by
  unfold idAt; rw [getD_at _ _ _ h]; exact ixP_at h
theorem ix_of_mem {ps : List Psp} {q : ByteArray} (h : q ∈ ps.map Psp.id) : ixP ps q < ps.length := by
  obtain ⟨y, hy, e⟩ := List.mem_map.1 h
  exact List.findIdx_lt_length_of_exists ⟨y, hy, by simpa using e⟩
theorem id_mem {ps : List Psp} {i : Nat} (h : i < ps.length) : idAt ps i ∈ ps.map Psp.id := by
  unfold idAt; rw [getD_at _ _ _ h]; exact List.mem_map.2 ⟨_, List.getElem_mem h, rfl⟩
/-- labels of people that hold these ones -/
theorem lab_up {p x : Ppl} (hp : PplR p) (hcs : ∀ c ∈ p.cs, c ∈ x.cs) {i j : Nat} (h : Conn (edg p.ps p.cs) i j) :
    lab x (ixP x.ps (idAt p.ps i)) = lab x (ixP x.ps (idAt p.ps j)) := by
  refine h (fun i => lab x (ixP x.ps (idAt p.ps i))) fun e he => ?_
  unfold edg at he
  obtain ⟨c, hc, rfl⟩ := List.mem_map.1 he
  obtain ⟨hc1, hc2⟩ := List.mem_filter.1 hc
  simp only [idAt_ix (hp.cs.ia c hc1), idAt_ix (hp.cs.ib c hc1)]
  have hE : (ixP x.ps c.a, ixP x.ps c.b) ∈ edg x.ps x.cs := by
    unfold edg
    exact List.mem_map.2 ⟨c, List.mem_filter.2 ⟨hcs c hc1, hc2⟩, rfl⟩
  exact (labF_least (edg x.ps x.cs)).compat _ hE
/-- each group of before: not empty, and Main says the same of all its Ids -/
def Tog (x : Ppl) (l : List ByteArray) : Prop := ∃ first, l ≠ [] ∧ ∀ q ∈ l, (manF x q).1 = first ∧ (manF x q).2.2 = 0
theorem together {p x : Ppl} (hp : PplR p) (hx : peoF x = 0) (hid : ∀ q ∈ p.ps.map Psp.id, q ∈ x.ps.map Psp.id) (hcs : ∀ c ∈ p.cs, c ∈ x.cs) : ∀ l ∈ grpsF p p.ps.length, Tog x l := by
  intro l hl
  unfold grpsF at hl
  obtain ⟨m, hm, rfl⟩ := List.mem_map.1 hl
  unfold ledF at hm
  obtain ⟨hm1, hm2⟩ := List.mem_filter.1 hm
  have hm1 := List.mem_range.1 hm1
  have hm2 := of_decide_eq_true hm2
  refine ⟨idAt x.ps (lab x (ixP x.ps (idAt p.ps m))), fun e => ?_, fun q hq => ?_⟩
  · have : idAt p.ps m ∈ grpF p p.ps.length m := by
      unfold grpF
      exact List.mem_map.2 ⟨m, List.mem_filter.2 ⟨List.mem_range.2 hm1, decide_eq_true hm2⟩, rfl⟩
    rw [e] at this; cases this
  · unfold grpF at hq
    obtain ⟨k, hk, rfl⟩ := List.mem_map.1 hq
    obtain ⟨hk1, hk2⟩ := List.mem_filter.1 hk
    have hk1 := List.mem_range.1 hk1
    have hk2 := of_decide_eq_true hk2
    have hix := ix_of_mem (hid _ (id_mem hk1))
    have hc : Conn (edg p.ps p.cs) k m := by
      have := (labF_least (edg p.ps p.cs)).conn k
      rw [show labF (edg p.ps p.cs) k = m from hk2] at this
      exact this
    have hl := lab_up (x := x) hp hcs hc
    unfold manF
    rw [if_neg (by rw [hx]; simp), if_neg (by omega)]
    exact ⟨by rw [hl], rfl⟩
/-- what was put together holds both -/
theorem joi_has {a b : Ppl} (ha : PplR a) (hb : PplR b) (h3 : badC [] (a.cs ++ b.cs) = false) {P : List Psp} {C : List Clm} (hP : P.Perm (joiP a.ps b.ps)) (hC : C.Perm (joiC a.cs b.cs)) :
    ((∀ q ∈ a.ps.map Psp.id, q ∈ P.map Psp.id) ∧ ∀ c ∈ a.cs, c ∈ C) ∧ (∀ q ∈ b.ps.map Psp.id, q ∈ P.map Psp.id) ∧ ∀ c ∈ b.cs, c ∈ C := by
  have nP : ∀ q, nsOf P q = comb (nsOf a.ps q) (nsOf b.ps q) := fun q => by rw [nsOf_perm hP (nodup_joiP a.ps b.ps), nsOf_joiP (psR_nodup ha.ps) (psR_nodup hb.ps)]
  have dC : (C.map Clm.k).Nodup := (hC.map Clm.k).symm.nodup (nodup_joiC a.cs b.cs)
  have nC : ∀ q, sOf C q = (sOf a.cs q).or (sOf b.cs q) := fun q => by rw [sOf_perm hC (nodup_joiC a.cs b.cs), sOf_joiC ha.cs.nodup hb.cs.nodup]
  refine ⟨⟨fun q hq => ?_, fun c hc => ?_⟩, fun q hq => ?_, fun c hc => ?_⟩
  · rw [ids_mem, nP, comb_ne]; exact .inl (ids_mem.1 hq)
  · rw [← sOf_some dC, nC, (sOf_some ha.cs.nodup).2 hc]; rfl
  · rw [ids_mem, nP, comb_ne]; exact .inr (ids_mem.1 hq)
  · rw [← sOf_some dC, nC]
    have h1 := (sOf_some hb.cs.nodup).2 hc
    rw [h1]
    cases hA : sOf a.cs c.k with
    | none => rfl
    | some s =>
      have hno : ¬ s = !c.s := fun e => by
        have := (bad_iff ha.cs.nodup hb.cs.nodup).2 ⟨c.k, s, hA, by rw [h1, e]; simp⟩
        rw [h3] at this; cases this
      have : s = c.s := by
        cases s <;> cases h : c.s <;> simp_all
      rw [this]; rfl
end Go.Proofs.YtnlnaglaipjlfaaGreatDoor
/- Plain: how the reference puts people together; it is the same. -/
namespace Go.Proofs.YtnlnaglaipjlfaaGreatDoor
open Go.RowKit Go.Dw

/-- a person of the first people, with the names of the second -/
def addO (ns : List ByteArray) : Option (List ByteArray) → List ByteArray
  | none => ns
  | some m => addNs ns m
def refA (a b : List Psp) : List Psp := a.map fun x => ⟨x.id, addO x.ns (nsOf b x.id)⟩
/-- a person put in by its Id -/
def insP : List Psp → Psp → List Psp
  | [], x => [x]
  | y :: l, x => if sLt y.id x.id then y :: insP l x else if y.id = x.id then y :: l else x :: y :: l
def atP (l : List Psp) (q : ByteArray) : Nat := l.findIdx fun y => !decide (sLt y.id q)
theorem atP_cons (y : Psp) (l : List Psp) (q : ByteArray) : atP (y :: l) q = if sLt y.id q then atP l q + 1 else 0 := by
  unfold atP
  rw [List.findIdx_cons]
  by_cases h : sLt y.id q <;> simp [h]
theorem atP_le (l : List Psp) (q : ByteArray) : atP l q ≤ l.length := List.findIdx_le_length
theorem insP_in : ∀ (l : List Psp) (x : Psp), (h : atP l x.id < l.length) → l[atP l x.id].id = x.id → insP l x = l
  | [], x, h, _ => by simp at h
  | y :: l, x, h, e => by
    have h1 := atP_cons y l x.id
    rw [insP]
    by_cases h2 : sLt y.id x.id
    · rw [if_pos h2] at h1 ⊢
      simp only [h1, List.getElem_cons_succ] at e
      rw [insP_in l x (by rw [h1] at h; simpa using h) e]
    · rw [if_neg h2] at h1 ⊢
      simp only [h1, List.getElem_cons_zero] at e
      rw [if_pos e]
theorem insP_out : ∀ (l : List Psp) (x : Psp), (∀ h : atP l x.id < l.length, ¬ l[atP l x.id].id = x.id) → insP l x = l.take (atP l x.id) ++ x :: l.drop (atP l x.id)
  | [], x, _ => by simp [insP, atP]
  | y :: l, x, e => by
    have h1 := atP_cons y l x.id
    rw [insP]
    by_cases h2 : sLt y.id x.id
    · rw [if_pos h2] at h1 ⊢
      rw [h1, insP_out l x (fun h => by
        have := e (by rw [h1]; simpa using h)
        simp only [h1, List.getElem_cons_succ] at this
        exact this)]
      rfl
    · rw [if_neg h2] at h1 ⊢
      have h3 : ¬ y.id = x.id := by
        have := e (by rw [h1]; simp)
        simp only [h1, List.getElem_cons_zero] at this
        exact this
      rw [h1, if_neg h3]; rfl
def SrP (l : List Psp) : Prop := (l.map Psp.id).Pairwise sLt
theorem insP_ids (l : List Psp) (x : Psp) (q : ByteArray) : q ∈ (insP l x).map Psp.id ↔ q ∈ l.map Psp.id ∨ q = x.id := by
  induction l with
  | nil => simp [insP]
  | cons y l ih =>
    rw [insP]
    split
    · rw [List.map_cons, List.mem_cons, ih, List.map_cons, List.mem_cons, or_assoc]
    · split
      · rename_i h
        constructor
        · exact .inl
        · rintro (h1 | h1)
          · exact h1
          · rw [h1, ← h]; simp
      · simp only [List.map_cons, List.mem_cons]
        constructor
        · rintro (h1 | h1)
          · exact .inr h1
          · exact .inl h1
        · rintro (h1 | h1)
          · exact .inr h1
          · exact .inl h1
theorem insP_sr {l : List Psp} (x : Psp) (h : SrP l) : SrP (insP l x) := by
  induction l with
  | nil => simp [insP, SrP]
  | cons y l ih =>
    unfold SrP at h
    rw [List.map_cons, List.pairwise_cons] at h
    rw [insP]
    split
    · rename_i h2
      unfold SrP
      rw [List.map_cons, List.pairwise_cons]
      refine ⟨fun q hq => ?_, ih h.2⟩
      rcases (insP_ids l x q).1 hq with h3 | h3
      · exact h.1 q h3
      · rw [h3]; exact h2
    · rename_i h2
      split
      · unfold SrP; rw [List.map_cons, List.pairwise_cons]; exact h
      · rename_i h3
        have h4 : sLt x.id y.id := by
          rcases sLt_tri x.id y.id with k | k | k
          · exact k
          · exact absurd k.symm h3
          · exact absurd k h2
        unfold SrP
        rw [List.map_cons, List.pairwise_cons, List.map_cons, List.pairwise_cons]
        refine ⟨fun q hq => ?_, h⟩
        rcases List.mem_cons.1 hq with h5 | h5
        · rw [h5]; exact h4
        · exact sLt_trans h4 (h.1 q h5)
theorem insP_ns {l : List Psp} (x : Psp) (h : SrP l) (q : ByteArray) : nsOf (insP l x) q = (nsOf l q).or (if x.id = q then some x.ns else none) := by
  induction l with
  | nil => simp [insP, nsOf]
  | cons y l ih =>
    unfold SrP at h
    rw [List.map_cons, List.pairwise_cons] at h
    rw [insP]
    split
    · rename_i h2
      rw [nsOf, nsOf]
      split
      · rfl
      · exact ih h.2
    · rename_i h2
      split
      · rename_i h3
        rw [nsOf]
        by_cases h4 : y.id = q
        · rw [if_pos h4]; rfl
        · rw [if_neg h4, if_neg (fun e => h4 (h3.trans e))]; simp
      · rename_i h3
        rw [nsOf]
        by_cases h4 : x.id = q
        · rw [if_pos h4, if_pos h4]
          have h5 : nsOf (y :: l) q = none := by
            rw [nsOf_none]
            intro h6
            rw [List.map_cons, List.mem_cons] at h6
            rcases h6 with h6 | h6
            · exact h3 (h6.symm.trans h4.symm)
            · have h7 := h.1 q h6
              rw [← h4] at h7
              exact h2 h7
          rw [h5]; rfl
        · rw [if_neg h4, if_neg h4]; simp
theorem sr_nodup {l : List Psp} (h : SrP l) : (l.map Psp.id).Nodup := by
  rw [List.nodup_iff_pairwise_ne]
  exact List.Pairwise.imp (fun {x y} hxy e => by rw [e] at hxy; exact sLt_irr _ hxy) h
theorem foldI_ns : ∀ (b l : List Psp) (q : ByteArray), SrP l → (b.map Psp.id).Nodup → SrP (b.foldl insP l) ∧ nsOf (b.foldl insP l) q = (nsOf l q).or (nsOf b q)
  | [], l, q, h, _ => ⟨h, by simp [nsOf]⟩
  | x :: b, l, q, h, hd => by
    rw [List.map_cons, List.nodup_cons] at hd
    obtain ⟨h1, h2⟩ := foldI_ns b (insP l x) q (insP_sr x h) hd.2
    rw [List.foldl_cons]
    refine ⟨h1, ?_⟩
    rw [h2, insP_ns x h, nsOf]
    by_cases e : x.id = q
    · rw [if_pos e, if_pos e]
      have : nsOf b q = none := by rw [nsOf_none, ← e]; exact hd.1
      rw [this]; simp
    · rw [if_neg e, if_neg e]; simp
theorem refA_ids (a b : List Psp) : (refA a b).map Psp.id = a.map Psp.id := by simp [refA]
theorem refA_at (a b : List Psp) (k : Nat) (h : k < (refA a b).length) (h' : k < a.length) : (refA a b)[k] = ⟨a[k].id, addO a[k].ns (nsOf b a[k].id)⟩ := by simp [refA]
theorem refA_ns (a b : List Psp) (q : ByteArray) : nsOf (refA a b) q = (nsOf a q).map fun ns => addO ns (nsOf b q) := by
  induction a with
  | nil => rfl
  | cons x a ih =>
    show nsOf (⟨x.id, addO x.ns (nsOf b x.id)⟩ :: refA a b) q = _
    rw [nsOf, nsOf]
    by_cases h : x.id = q
    · rw [if_pos h, if_pos h]; simp only [h]; rfl
    · rw [if_neg h, if_neg h]; exact ih
/-- the reference's persons -/
def refP (a b : List Psp) : List Psp := b.foldl insP (refA a b)
theorem refP_spec {a b : List Psp} (_ : PsR a) (hb : PsR b) (sa : SrP a) : SrP (refP a b) ∧ ∀ q, nsOf (refP a b) q = comb (nsOf a q) (nsOf b q) := by
  have h0 : SrP (refA a b) := by unfold SrP; rw [refA_ids]; exact sa
  refine ⟨(foldI_ns b _ ⟨#[]⟩ h0 (psR_nodup hb)).1, fun q => ?_⟩
  rw [refP, (foldI_ns b _ q h0 (psR_nodup hb)).2, refA_ns]
  cases nsOf a q with
  | none => cases nsOf b q <;> rfl
  | some l => cases nsOf b q <;> rfl
theorem perm_ns {l m : List Psp} (hl : (l.map Psp.id).Nodup) (hm : (m.map Psp.id).Nodup) (h : ∀ q, nsOf l q = nsOf m q) : l.Perm m := by
  have key : ∀ {l : List Psp}, (l.map Psp.id).Nodup → l.Nodup := fun {l} h => by
    rw [List.nodup_iff_pairwise_ne, List.pairwise_map] at h
    rw [List.nodup_iff_pairwise_ne]
    exact h.imp fun hxy e => hxy (by rw [e])
  refine (List.perm_ext_iff_of_nodup (key hl) (key hm)).2 fun x => ?_
  rw [← nsOf_some hl, ← nsOf_some hm, h]
theorem refP_perm {a b : List Psp} (ha : PsR a) (hb : PsR b) (sa : SrP a) : (refP a b).Perm (joiP a b) := by
  obtain ⟨h1, h2⟩ := refP_spec ha hb sa
  exact perm_ns (sr_nodup h1) (nodup_joiP a b) fun q => by rw [h2, nsOf_joiP (psR_nodup ha) (psR_nodup hb)]
/-- a claim put in -/
def insC : List Clm → Clm → List Clm
  | [], c => [c]
  | d :: l, c => if clLt d c = true then d :: insC l c else if clLt c d = true then c :: d :: l else d :: l
def atC (l : List Clm) (c : Clm) : Nat := l.findIdx fun d => !clLt d c
theorem atC_cons (d : Clm) (l : List Clm) (c : Clm) : atC (d :: l) c = if clLt d c = true then atC l c + 1 else 0 := by
  unfold atC
  rw [List.findIdx_cons]
  cases h : clLt d c <;> simp
theorem atC_le (l : List Clm) (c : Clm) : atC l c ≤ l.length := List.findIdx_le_length
theorem insC_out : ∀ (l : List Clm) (c : Clm), (∀ h : atC l c < l.length, clLt c l[atC l c] = true) → insC l c = l.take (atC l c) ++ c :: l.drop (atC l c)
  | [], x, _ => by simp [insC, atC]
  | y :: l, x, e => by
    have h1 := atC_cons y l x
    rw [insC]
    by_cases h2 : clLt y x = true
    · rw [if_pos h2] at h1 ⊢
      rw [h1, insC_out l x (fun h => by
        have := e (by rw [h1]; simpa using h)
        simp only [h1, List.getElem_cons_succ] at this
        exact this)]
      rfl
    · rw [if_neg h2] at h1 ⊢
      have h3 : clLt x y = true := by
        have := e (by rw [h1]; simp)
        simp only [h1, List.getElem_cons_zero] at this
        exact this
      rw [h1, if_pos h3]; rfl
theorem insC_in : ∀ (l : List Clm) (c : Clm), (h : atC l c < l.length) → clLt c l[atC l c] = false → insC l c = l
  | [], x, h, _ => by simp at h
  | y :: l, x, h, e => by
    have h1 := atC_cons y l x
    rw [insC]
    by_cases h2 : clLt y x = true
    · rw [if_pos h2] at h1 ⊢
      simp only [h1, List.getElem_cons_succ] at e
      rw [insC_in l x (by rw [h1] at h; simpa using h) e]
    · rw [if_neg h2] at h1 ⊢
      simp only [h1, List.getElem_cons_zero] at e
      rw [if_neg (by rw [e]; decide)]
def SrC (l : List Clm) : Prop := l.Pairwise clR
theorem atC_at {l : List Clm} {c : Clm} (h : atC l c < l.length) : clLt l[atC l c] c = false := by
  have h1 := List.findIdx_getElem (w := h)
  cases k : clLt l[atC l c] c
  · rfl
  · unfold atC at k; rw [k] at h1; cases h1
theorem clR_k {c d e : Clm} (h : clR c d) (k : d.k = e.k) : clR c e := by
  simp only [Clm.k, Prod.mk.injEq] at k
  unfold clR clLt at h ⊢
  rw [← k.1, ← k.2]; exact h
theorem clR_k' {c d e : Clm} (h : clR c d) (k : c.k = e.k) : clR e d := by
  simp only [Clm.k, Prod.mk.injEq] at k
  unfold clR clLt at h ⊢
  rw [← k.1, ← k.2]; exact h
theorem insC_keys (l : List Clm) (x d : Clm) (h : d ∈ insC l x) : d ∈ l ∨ d = x := by
  induction l with
  | nil => simp [insC] at h; exact .inr h
  | cons y l ih =>
    rw [insC] at h
    split at h
    · rcases List.mem_cons.1 h with h | h
      · exact .inl (by simp [h])
      · rcases ih h with h | h
        · exact .inl (by simp [h])
        · exact .inr h
    · split at h
      · rcases List.mem_cons.1 h with h | h
        · exact .inr h
        · exact .inl h
      · exact .inl h
theorem insC_sr {l : List Clm} (x : Clm) (h : SrC l) : SrC (insC l x) := by
  induction l with
  | nil => simp [insC, SrC]
  | cons y l ih =>
    obtain ⟨h1, h2⟩ := List.pairwise_cons.1 h
    rw [insC]
    split
    · rename_i h3
      refine List.pairwise_cons.2 ⟨fun d hd => ?_, ih h2⟩
      rcases insC_keys l x d hd with k | k
      · exact h1 d k
      · rw [k]; exact h3
    · split
      · rename_i h4
        refine List.pairwise_cons.2 ⟨fun d hd => ?_, h⟩
        rcases List.mem_cons.1 hd with k | k
        · rw [k]; exact h4
        · exact clR_trans h4 (h1 d k)
      · exact h
theorem sOf_far {l : List Clm} {c : Clm} (h : ∀ d ∈ l, clR c d) : sOf l c.k = none := by
  rw [sOf_none]
  intro hm
  obtain ⟨d, hd, e⟩ := List.mem_map.1 hm
  exact clR_irr c (clR_k (h d hd) e)
theorem insC_s {l : List Clm} (x : Clm) (h : SrC l) (q) : sOf (insC l x) q = if x.k = q then (sOf l q).or (some x.s) else sOf l q := by
  induction l with
  | nil => simp [insC, sOf]
  | cons y l ih =>
    obtain ⟨h1, h2⟩ := List.pairwise_cons.1 h
    rw [insC]
    split
    · rename_i h3
      have hne : ¬ y.k = x.k := fun e => clR_irr x (clR_k' h3 e)
      rw [sOf, sOf, ih h2]
      by_cases e : y.k = q
      · rw [if_pos e, if_pos e, if_neg (fun e2 => hne (e.trans e2.symm))]
      · rw [if_neg e, if_neg e]
    · rename_i h3
      split
      · rename_i h4
        rw [sOf]
        by_cases e : x.k = q
        · rw [if_pos e, if_pos e]
          have : sOf (y :: l) q = none := by
            rw [← e]
            refine sOf_far fun d hd => ?_
            rcases List.mem_cons.1 hd with k | k
            · rw [k]; exact h4
            · exact clR_trans h4 (h1 d k)
          rw [this]; rfl
        · rw [if_neg e, if_neg e]
      · rename_i h4
        have he : y.k = x.k := by
          rcases clR_tri y x with k | k | k
          · exact absurd k h3
          · exact k
          · exact absurd k h4
        by_cases e : x.k = q
        · rw [if_pos e, sOf, if_pos (he.trans e)]; rfl
        · rw [if_neg e]
/-- whether a claim was made otherwise, by place -/
theorem oth_at {l : List Clm} {c : Clm} (hs : SrC l) : oth l c = if h : atC l c < l.length then (!clLt c l[atC l c] && (l[atC l c].s != c.s)) else false := by
  induction l with
  | nil => simp [atC, oth, sOf]
  | cons y l ih =>
    obtain ⟨h1, h2⟩ := List.pairwise_cons.1 hs
    have hat := atC_cons y l c
    by_cases h3 : clLt y c = true
    · rw [if_pos h3] at hat
      have hne : ¬ y.k = c.k := fun e => clR_irr c (clR_k' h3 e)
      have e1 : oth (y :: l) c = oth l c := by unfold oth; rw [sOf, if_neg hne]
      rw [e1, ih h2]
      by_cases h4 : atC l c < l.length
      · rw [dif_pos h4, dif_pos (by rw [hat]; simpa using h4)]
        simp only [hat, List.getElem_cons_succ]
      · rw [dif_neg h4, dif_neg (by rw [hat]; simpa using h4)]
    · rw [if_neg h3] at hat
      rw [dif_pos (by rw [hat]; simp)]
      simp only [hat, List.getElem_cons_zero]
      by_cases h4 : clLt c y = true
      · rw [h4]
        have : sOf (y :: l) c.k = none := sOf_far fun d hd => by
          rcases List.mem_cons.1 hd with k | k
          · rw [k]; exact h4
          · exact clR_trans h4 (h1 d k)
        unfold oth; rw [this]; rfl
      · have he : y.k = c.k := by
          rcases clR_tri y c with k | k | k
          · exact absurd k h3
          · exact k
          · exact absurd k h4
        unfold oth
        rw [sOf, if_pos he]
        have h5 : clLt c y = false := by simpa using h4
        rw [h5]
        generalize y.s = u
        generalize c.s = v
        cases u <;> cases v <;> rfl
def badI : List Clm → List Clm → Bool
  | _, [] => false
  | out, c :: l => oth out c || badI (insC out c) l
theorem badI_eq : ∀ (l out out' : List Clm), SrC out → (∀ q, sOf out q = sOf out' q) → badI out l = badC out' l
  | [], _, _, _, _ => rfl
  | c :: l, out, out', hs, h => by
    rw [badI, badC]
    have e1 : oth out c = oth out' c := by unfold oth; rw [h]
    rw [e1, badI_eq l (insC out c) (putC out' c) (insC_sr c hs) fun q => by rw [insC_s c hs, sOf_put, h]]
theorem badI_all {a b : List Clm} (ha : (a.map Clm.k).Nodup) (sa : SrC a) : badI a b = badC [] (a ++ b) := by
  rw [badC_app, badC_any a [] ha]
  have e1 : (a.any (oth [])) = false := by simp [oth, sOf]
  rw [e1, Bool.false_or]
  exact badI_eq b a _ sa fun q => by rw [sOf_joi a [] q ha]; simp [sOf]
theorem badI_succ (a b : List Clm) (k : Nat) (h : k < b.length) : badI a (b.take (k + 1)) = (badI a (b.take k) || oth ((b.take k).foldl insC a) b[k]) := by
  induction b generalizing a k with
  | nil => simp at h
  | cons c b ih =>
    cases k with
    | zero => simp [badI]
    | succ k =>
      rw [List.take_succ_cons, badI, ih (insC a c) k (by simpa using h), List.take_succ_cons, badI, List.foldl_cons, List.getElem_cons_succ, Bool.or_assoc]
theorem badI_take {a b : List Clm} {k : Nat} (h : badI a (b.take k) = true) : badI a b = true := by
  induction b generalizing a k with
  | nil => simpa using h
  | cons c b ih =>
    cases k with
    | zero => simp [badI] at h
    | succ k =>
      rw [List.take_succ_cons, badI, Bool.or_eq_true] at h
      rw [badI, Bool.or_eq_true]
      rcases h with h | h
      · exact .inl h
      · exact .inr (ih h)
theorem foldI_s : ∀ (b l : List Clm) (q), SrC l → (b.map Clm.k).Nodup → SrC (b.foldl insC l) ∧ sOf (b.foldl insC l) q = (sOf l q).or (sOf b q)
  | [], l, q, h, _ => ⟨h, by simp [sOf]⟩
  | x :: b, l, q, h, hd => by
    rw [List.map_cons, List.nodup_cons] at hd
    obtain ⟨h1, h2⟩ := foldI_s b (insC l x) q (insC_sr x h) hd.2
    rw [List.foldl_cons]
    refine ⟨h1, ?_⟩
    rw [h2, insC_s x h, sOf]
    by_cases e : x.k = q
    · rw [if_pos e, if_pos e]
      have : sOf b q = none := by rw [sOf_none, ← e]; exact hd.1
      rw [this]; simp
    · rw [if_neg e, if_neg e]
theorem srC_nodup {l : List Clm} (h : SrC l) : (l.map Clm.k).Nodup := by
  rw [List.nodup_iff_pairwise_ne, List.pairwise_map]
  exact List.Pairwise.imp (fun {x y} hxy e => clR_irr y (clR_k' hxy e)) h
def refC (a b : List Clm) : List Clm := b.foldl insC a
theorem refC_perm {a b : List Clm} (ha : (a.map Clm.k).Nodup) (hb : (b.map Clm.k).Nodup) (sa : SrC a) : SrC (refC a b) ∧ (refC a b).Perm (joiC a b) := by
  have h1 := fun q => foldI_s b a q sa hb
  have hs : SrC (refC a b) := (h1 (⟨#[]⟩, ⟨#[]⟩)).1
  refine ⟨hs, ?_⟩
  have key : ∀ {l : List Clm}, (l.map Clm.k).Nodup → l.Nodup := fun {l} h => by
    rw [List.nodup_iff_pairwise_ne, List.pairwise_map] at h
    rw [List.nodup_iff_pairwise_ne]
    exact h.imp fun hxy e => hxy (by rw [e])
  refine (List.perm_ext_iff_of_nodup (key (srC_nodup hs)) (key (nodup_joiC a b))).2 fun x => ?_
  rw [← sOf_some (srC_nodup hs), ← sOf_some (nodup_joiC a b), sOf_joiC ha hb]
  show sOf (refC a b) x.k = _ ↔ _
  rw [refC, (h1 x.k).2]
/-- right people are in order -/
theorem PsR.sr {l : List Psp} (h : PsR l) : SrP l := by
  unfold SrP
  have := h.ord
  rw [List.pairwise_map, List.pairwise_iff_getElem]
  intro i j hi hj hij
  have key : ∀ (d i : Nat) (hj : i + d + 1 < l.length), sLt (l[i]'(by omega)).id l[i + d + 1].id := by
    intro d
    induction d with
    | zero => exact fun i hj => this i hj
    | succ d ih => exact fun i hj => sLt_trans (ih i (by omega)) (this (i + d + 1) hj)
  have h2 := key (j - i - 1) i (by omega)
  have e : i + (j - i - 1) + 1 = j := by omega
  simpa only [e] using h2
theorem ClR.sr {ps : List Psp} {cs : List Clm} (h : ClR ps cs) : SrC cs := by
  have hlt : ∀ (d i : Nat) (hj : i + d + 1 < cs.length), clR (cs[i]'(by omega)) cs[i + d + 1] := by
    intro d
    induction d with
    | zero => exact fun i hj => h.ord i hj
    | succ d ih => exact fun i hj => clR_trans (ih i (by omega)) (h.ord (i + d + 1) hj)
  unfold SrC
  rw [List.pairwise_iff_getElem]
  intro i j hi hj hij
  have h1 := hlt (j - i - 1) i (by omega)
  have e2 : i + (j - i - 1) + 1 = j := by omega
  simpa only [e2] using h1
/-- what the reference gives is what Join gives -/
theorem srP_le {P : List Psp} (h : SrP P) : P.Pairwise fun x y => decide (sLt y.id x.id) = false := by
  unfold SrP at h
  rw [List.pairwise_map] at h
  exact h.imp fun hxy => decide_eq_false (sLt_asymm hxy)
theorem srC_le {C : List Clm} (h : SrC C) : C.Pairwise fun x y => clLt y x = false := h.imp fun {x y} hxy => by
  cases k : clLt y x
  · rfl
  · exact absurd (clR_trans hxy k) (clR_irr x)
theorem joi_same {a b : Ppl} {w w' : World} {x y : Peo} {f g : Int} (h : JoiX a b w x f) (k : JoiX a b w' y g) : f = g ∧ (f ≠ 0 → x = nilPeo ∧ y = nilPeo) ∧ (f = 0 → x.x = y.x) := by
  have key : ∀ {P Q : List Psp} {C D : List Clm}, PplR a → PplR b → badC [] (a.cs ++ b.cs) = false → P.Perm (joiP a.ps b.ps) → C.Perm (joiC a.cs b.cs) → (P.Pairwise fun x y => decide (sLt y.id x.id) = false) → (C.Pairwise fun x y => clLt y x = false) →
      Q.Perm (joiP a.ps b.ps) → D.Perm (joiC a.cs b.cs) → (Q.Pairwise fun x y => decide (sLt y.id x.id) = false) → (D.Pairwise fun x y => clLt y x = false) → P = Q ∧ C = D := by
    intro P Q C D ra rb h3 hP hC sP sC hQ hD sQ sD
    have dP : (P.map Psp.id).Nodup := (hP.map Psp.id).symm.nodup (nodup_joiP a.ps b.ps)
    have dQ : (Q.map Psp.id).Nodup := (hQ.map Psp.id).symm.nodup (nodup_joiP a.ps b.ps)
    have dC : (C.map Clm.k).Nodup := (hC.map Clm.k).symm.nodup (nodup_joiC a.cs b.cs)
    have dD : (D.map Clm.k).Nodup := (hD.map Clm.k).symm.nodup (nodup_joiC a.cs b.cs)
    constructor
    · refine same_of_sorted (fun x y : Psp => sLt x.id y.id) (fun x => sLt_irr x.id) (fun h k => sLt_trans h k) _ _ (List.pairwise_map.1 (pw_ids sP dP)) (List.pairwise_map.1 (pw_ids sQ dQ)) fun q => ?_
      rw [hP.mem_iff, hQ.mem_iff]
    · refine same_of_sorted clR clR_irr clR_trans _ _ (pw_cls sC dC) (pw_cls sD dD) fun q => ?_
      rw [hC.mem_iff, hD.mem_iff]
  cases h with
  | badA h =>
    cases k with
    | badA k => exact ⟨rfl, fun _ => ⟨rfl, rfl⟩, fun _ => rfl⟩
    | badB k => exact absurd k h
    | clash k => exact absurd k h
    | badR k => exact absurd k h
    | ok k => exact absurd k h
  | badB h h2 =>
    cases k with
    | badA k => exact absurd h k
    | badB _ k => exact ⟨rfl, fun _ => ⟨rfl, rfl⟩, fun _ => rfl⟩
    | clash _ k => exact absurd k h2
    | badR _ k => exact absurd k h2
    | ok _ k => exact absurd k h2
  | clash h h2 h3 =>
    cases k with
    | badA k => exact absurd h k
    | badB _ k => exact absurd h2 k
    | clash _ _ k3 => exact ⟨rfl, fun _ => ⟨rfl, rfl⟩, fun _ => rfl⟩
    | badR _ _ k3 => rw [k3] at h3; cases h3
    | ok _ _ k3 => rw [k3] at h3; cases h3
  | badR h h2 h3 P C hP hC sP sC h4 =>
    cases k with
    | badA k => exact absurd h k
    | badB _ k => exact absurd h2 k
    | clash _ _ k3 => rw [k3] at h3; cases h3
    | badR _ _ k3 Q D hQ hD sQ sD k4 =>
      obtain ⟨e1, e2⟩ := key (pplR_of h) (pplR_of h2) h3 hP hC sP sC hQ hD sQ sD
      subst e1 e2
      exact ⟨rfl, fun _ => ⟨rfl, rfl⟩, fun _ => rfl⟩
    | ok _ _ k3 y hQ hD sQ sD k4 k5 =>
      obtain ⟨e1, e2⟩ := key (pplR_of h) (pplR_of h2) h3 hP hC sP sC hQ hD sQ sD
      subst e1 e2
      exact absurd k4 h4
  | ok h h2 h3 x hP hC sP sC h4 h5 =>
    cases k with
    | badA k => exact absurd h k
    | badB _ k => exact absurd h2 k
    | clash _ _ k3 => rw [k3] at h3; cases h3
    | badR _ _ k3 Q D hQ hD sQ sD k4 =>
      obtain ⟨e1, e2⟩ := key (pplR_of h) (pplR_of h2) h3 hP hC sP sC hQ hD sQ sD
      subst e1 e2
      exact absurd h4 k4
    | ok _ _ k3 y hQ hD sQ sD k4 k5 =>
      obtain ⟨e1, e2⟩ := key (pplR_of h) (pplR_of h2) h3 hP hC sP sC hQ hD sQ sD
      refine ⟨rfl, fun h => absurd rfl h, fun _ => ?_⟩
      show (⟨x.x.ps, x.x.cs⟩ : Ppl) = ⟨y.x.ps, y.x.cs⟩
      rw [e1, e2]
end Go.Proofs.YtnlnaglaipjlfaaGreatDoor
/- The states of the reference's loops that put people together. -/
namespace Go.Proofs.YtnlnaglaipjlfaaGreatDoor
open Go.RowKit Go.Dw

theorem own_ne {w : World} {B B' k k' n n' : Nat} {e e' : TypeId} {v v' : Value} {xs xs' : List Value} (h : w.ownsRow B e k v n xs) (h' : w.ownsRow B' e' k' v' n' xs') (hne : e ≠ e') : ∀ b, v.ownBlock = some b → v'.ownBlock ≠ some b := by
  intro b hb hb'
  rcases h.2 with ⟨rfl, _⟩ | ⟨g, cap, cur, rfl, _, hg, _⟩
  · cases hb
  · rcases h'.2 with ⟨rfl, _⟩ | ⟨g', cap', cur', rfl, _, hg', _⟩
    · cases hb'
    · injection hb with hb
      injection hb' with hb'
      simp only at hb hb'
      subst hb
      subst hb'
      rw [hg] at hg'
      injection hg' with hg'
      injection hg' with _ h2
      exact hne h2
theorem blk_own_ne {w : World} {B k n g : Nat} {e t : TypeId} {v : Value} {xs cs : List Value} (h : w.ownsRow B e k v n xs) (hb : Blk w g t cs) (hne : e ≠ t) : v.ownBlock ≠ some g := by
  intro hv
  rcases h.2 with ⟨rfl, _⟩ | ⟨g', cap, cur, rfl, _, hg, _⟩
  · cases hv
  · injection hv with hv
    simp only at hv
    subst hv
    have hb' : w.heap[g']? = some (.cells cs.toArray t (0, 0)) := hb
    rw [hg] at hb'
    injection hb' with hb'
    injection hb' with _ h2
    exact hne h2
theorem flat_take {α : Type} (f : α → List Value) (k : Nat) (hk : ∀ x, (f x).length = k) : ∀ (l : List α) (i : Nat), (l.flatMap f).take (i * k) = (l.take i).flatMap f
  | [], i => by simp
  | x :: l, 0 => by simp
  | x :: l, i + 1 => by
    rw [List.flatMap_cons, List.take_succ_cons, List.flatMap_cons, List.take_append, hk, ← flat_take f k hk l i]
    have h1 : (i + 1) * k - k = i * k := by rw [Nat.add_mul, Nat.one_mul]; omega
    rw [h1, List.take_of_length_le (by rw [hk, Nat.add_mul, Nat.one_mul]; omega)]
theorem flat_drop {α : Type} (f : α → List Value) (k : Nat) (hk : ∀ x, (f x).length = k) : ∀ (l : List α) (i : Nat), (l.flatMap f).drop (i * k) = (l.drop i).flatMap f
  | [], i => by simp
  | x :: l, 0 => by simp
  | x :: l, i + 1 => by
    rw [List.flatMap_cons, List.drop_succ_cons, List.drop_append, hk, ← flat_drop f k hk l i]
    have h1 : (i + 1) * k - k = i * k := by rw [Nat.add_mul, Nat.one_mul]; omega
    rw [h1, List.drop_of_length_le (by rw [hk, Nat.add_mul, Nat.one_mul]; omega)]
    rfl
/-- k persons of the first people, with the names of the second -/
def RI (a b : List Psp) (O : Nat) (w5 : World) (k : Nat) (W : World) : Prop := ∃ (R : List Psn) (AO : Option Addr) (cO : Nat), R.length = k ∧ (∀ r ∈ R, r.s.xs.length ≤ 20) ∧ R.map Psn.x = (refA a b).take k ∧
  GP 41 9 W w5.heap.size (.slice AO R.length cO) R ∧ Blk W O 25 [.slice AO R.length cO, .slice none 0 0] ∧ w5.grownBy W (some O)
theorem ri_start {a b : List Psp} {O : Nat} {w5 : World} (h : Blk w5 O 25 [.slice none 0 0, .slice none 0 0]) : RI a b O w5 0 w5 :=
  ⟨[], none, 0, rfl, by simp, by simp, GP.nil _ _ _ _, h, World.grownBy.refl _ _⟩
theorem ri_new {a b : List Psp} {O k : Nat} {w5 wr W w8 : World} {R : List Psn} {AO A7 : Option Addr} {cO c7 g8 cap8 : Nat} {qi : ByteArray} {qs : List ByteArray} {o : Obj}
    (hRk : R.length = k) (hRn : ∀ r ∈ R, r.s.xs.length ≤ 20) (hq : qs.length ≤ 20) (hR : R.map Psn.x = (refA a b).take k) (hk : k < (refA a b).length) (hx : (refA a b)[k] = ⟨qi, qs⟩)
    (hgp : GP 41 9 wr w5.heap.size (.slice AO R.length cO) R) (hO : Blk wr O 25 [.slice AO R.length cO, .slice none 0 0]) (hG : w5.grownBy wr (some O))
    (hO5 : O < w5.heap.size) (h7 : Gq wr W)
    (hown7 : W.ownsRow wr.heap.size 9 1 (.slice A7 qs.length c7) qs.length (sb qs))
    (hown8 : w8.ownsRow w5.heap.size 41 2 (.slice (some ⟨g8, 0, none⟩) (R.length + 1) cap8) (R.length + 1) (R.flatMap Psn.cs ++ [.string qi, .slice A7 qs.length c7]))
    (hgrow : (W.alloc o).grownBy w8 (Value.slice AO R.length cO).ownBlock) (hat : (Value.slice AO R.length cO).ownBlock = some g8 ∨ g8 = W.heap.size + 1) :
    RI a b O w5 (k + 1) (w8.setCell ⟨O, 0, none⟩ (.slice (some ⟨g8, 0, none⟩) (R.length + 1) cap8)) := by
  have h5r : w5.heap.size ≤ wr.heap.size := hG.size
  have hrW : wr.heap.size ≤ W.heap.size := Below.size h7
  have hr7 : Gq wr (W.alloc o) := Below.trans h7 (Below.mono ((Gq.refl _).alloc _) hrW)
  have hrow : ∀ b, (Value.slice AO R.length cO).ownBlock = some b → w5.heap.size ≤ b ∧ b < wr.heap.size := fun b hb => hgp.o.lt b hb
  have hz7 : (W.alloc o).heap.size = W.heap.size + 1 := by simp
  have hg8 := hgp.below hr7
  have hsn : GP 41 9 w8 w5.heap.size (.slice (some ⟨g8, 0, none⟩) (R.length + 1) cap8) (R ++ [⟨qi, ⟨A7, c7, qs⟩⟩]) := by
    refine GP.snoc (m := ⟨qi, ⟨A7, c7, qs⟩⟩) hg8 rfl (own_base (own_belowL hown7 ((Gq.refl _).alloc _)) (by omega)) (fun b hb e => ?_) (fun i hi b hb e => ?_) hown8 hgrow (by rw [hz7]; exact hat)
    · have h1 := hown7.lt b hb
      have h2 := hrow b e
      omega
    · have h1 := hown7.lt b e
      have h2 := (hgp.r i hi).lt b hb
      omega
  have hset := grown_set w8 O 0 (.slice (some ⟨g8, 0, none⟩) (R.length + 1) cap8)
  have hlen : (R ++ [(⟨qi, ⟨A7, c7, qs⟩⟩ : Psn)]).length = R.length + 1 := by simp
  refine ⟨R ++ [⟨qi, ⟨A7, c7, qs⟩⟩], some ⟨g8, 0, none⟩, cap8, by omega, fun r hr => ?_, ?_, ?_, ?_, ?_⟩
  · rcases List.mem_append.1 hr with h | h
    · exact hRn r h
    · simp at h; subst h; exact hq
  · rw [List.map_append, hR, List.take_succ_eq_append_getElem hk, hx]; rfl
  · rw [hlen]
    refine GP.keep hsn hset (fun b hb e => ?_) (fun i hi b hb e => ?_)
    · have h1 := hsn.o.lt b hb
      injection e with e; omega
    · have h1 := (hsn.r i hi).lt b hb
      injection e with e; omega
  · rw [hlen]
    have hb8 : Blk w8 O 25 [.slice AO R.length cO, .slice none 0 0] := blk_grown (blkGqL hO hr7) hgrow (fun e => by have := (hrow _ e.symm).1; omega)
    exact hb8.set_ 0 _
  · exact ((hG.trans (grown_gq hr7 _)).andThen hgrow (fun j hj => .inl (hrow j hj).1)).trans hset
/-- j names are put to a person's names -/
def RJ (qi : ByteArray) (ns m : List ByteArray) (Y : Nat) (wk : World) (j : Nat) (W : World) : Prop := ∃ t : Slc ByteArray, t.xs = addNs ns (m.take j) ∧ t.xs.length ≤ 10 + j ∧
  W.ownsRow wk.heap.size 9 1 t.v t.xs.length (sb t.xs) ∧ Blk W Y 41 [.string qi, t.v] ∧ Gq wk W
theorem rj_skip {qi : ByteArray} {ns m : List ByteArray} {Y j : Nat} {wk W : World} (h : RJ qi ns m Y wk j W) (hj : j < m.length) (hm : memS (addNs ns (m.take j)) m[j] = true) : RJ qi ns m Y wk (j + 1) W := by
  obtain ⟨t, h1, h2, h3, h4, h5⟩ := h
  refine ⟨t, ?_, by omega, h3, h4, h5⟩
  rw [addNs_succ _ _ _ hj, if_pos hm]; exact h1
theorem rj_push {qi : ByteArray} {ns m : List ByteArray} {Y j g' c' : Nat} {wk W w1 : World} {t : Slc ByteArray} {o : Obj} (hj : j < m.length) (hm : memS t.xs m[j] = false)
    (h1 : t.xs = addNs ns (m.take j)) (h2 : t.xs.length ≤ 10 + j) (h3 : W.ownsRow wk.heap.size 9 1 t.v t.xs.length (sb t.xs)) (h4 : Blk W Y 41 [.string qi, t.v]) (h5 : Gq wk W) (hY : wk.heap.size ≤ Y)
    (hown : w1.ownsRow wk.heap.size 9 1 (.slice (some ⟨g', 0, none⟩) (t.xs.length + 1) c') (t.xs.length + 1) (sb t.xs ++ [.string m[j]])) (hgrow : (W.alloc o).grownBy w1 t.v.ownBlock) :
    RJ qi ns m Y wk (j + 1) (w1.setCell ⟨Y, 1, none⟩ (.slice (some ⟨g', 0, none⟩) (t.xs.length + 1) c')) ∧ Blk w1 Y 41 [.string qi, t.v] := by
  have ha : Gq W (W.alloc o) := (Gq.refl _).alloc _
  have hne : t.v.ownBlock ≠ some Y := blk_own_ne h3 h4 (by decide)
  have hb1 : Blk w1 Y 41 [.string qi, t.v] := blk_grown (blkGqL h4 ha) hgrow (fun e => hne e.symm)
  have hne2 := blk_own_ne hown hb1 (by decide)
  have hset := grown_set w1 Y 1 (.slice (some ⟨g', 0, none⟩) (t.xs.length + 1) c')
  refine ⟨⟨⟨some ⟨g', 0, none⟩, c', t.xs ++ [m[j]]⟩, ?_, ?_, ?_, ?_, ?_⟩, hb1⟩
  · show t.xs ++ [m[j]] = _
    rw [addNs_succ _ _ _ hj, ← h1, if_neg (by rw [hm]; decide)]
  · simp only [List.length_append, List.length_cons, List.length_nil]; omega
  · have e1 : (⟨some ⟨g', 0, none⟩, c', t.xs ++ [m[j]]⟩ : Slc ByteArray).v = .slice (some ⟨g', 0, none⟩) (t.xs.length + 1) c' := by simp [Slc.v]
    have e2 : (t.xs ++ [m[j]]).length = t.xs.length + 1 := by simp
    rw [e1]
    simp only [e2]
    have e3 : sb (t.xs ++ [m[j]]) = sb t.xs ++ [.string m[j]] := by simp [sb]
    rw [e3]
    exact own_keep hown hset (fun b hb e => by injection e with e; subst e; exact hne2 hb)
  · have e1 : (⟨some ⟨g', 0, none⟩, c', t.xs ++ [m[j]]⟩ : Slc ByteArray).v = .slice (some ⟨g', 0, none⟩) (t.xs.length + 1) c' := by simp [Slc.v]
    rw [e1]
    exact hb1.set_ 1 _
  · have e1 : Gq wk (W.alloc o) := Below.trans h5 (Below.mono ha (Below.size h5))
    have e2 : Gq wk w1 := Below.grown e1 hgrow (Below.size e1) (fun b hb => (h3.lt b hb).1)
    exact Below.setCell (p := ⟨Y, 1, none⟩) e2 hY _
theorem rj_a {qi : ByteArray} {qs : List ByteArray} {wr w7 : World} {A7 : Option Addr} {c7 B0 : Nat} (hq : qs.length ≤ 10) (hown : w7.ownsRow B0 9 1 (.slice A7 qs.length c7) qs.length (sb qs)) (hB : wr.heap.size ≤ B0) (hg : Gq wr w7) :
    RJ qi qs [] w7.heap.size wr 0 (w7.alloc (.cells #[.string qi, .slice A7 qs.length c7] 41)) :=
  ⟨⟨A7, c7, qs⟩, rfl, by show qs.length ≤ _; omega, own_base (own_belowL hown ((Gq.refl _).alloc _)) hB, Blk.new w7 _ _, Gq.alloc hg _⟩
theorem rj_b {qi : ByteArray} {qs : List ByteArray} {wr w7 : World} {A7 : Option Addr} {c7 B0 Y : Nat} {u v : Value} (hq : qs.length ≤ 10) (hown : w7.ownsRow B0 9 1 (.slice A7 qs.length c7) qs.length (sb qs)) (hB : wr.heap.size ≤ B0) (hg : Gq wr w7)
    (hY : wr.heap.size ≤ Y) (hb : Blk w7 Y 41 [u, v]) :
    RJ qi qs [] Y wr 0 ((w7.setCell ⟨Y, 0, none⟩ (.string qi)).setCell ⟨Y, 1, none⟩ (.slice A7 qs.length c7)) := by
  have hne := blk_own_ne hown hb (by decide)
  have k1 := hb.set_ 0 (.string qi)
  have k2 := k1.set_ 1 (.slice A7 qs.length c7)
  have o1 := own_keep hown (grown_set w7 Y 0 (.string qi)) (fun b hb e => by injection e with e; subst e; exact hne hb)
  have o2 := own_keep o1 (grown_set _ Y 1 (.slice A7 qs.length c7)) (fun b hb e => by injection e with e; subst e; exact hne hb)
  exact ⟨⟨A7, c7, qs⟩, rfl, by show qs.length ≤ _; omega, own_base o2 hB, k2, Gq.set (Gq.set hg (p := ⟨Y, 0, none⟩) hY _) (p := ⟨Y, 1, none⟩) hY _⟩
theorem RJ.gq {qi : ByteArray} {ns m : List ByteArray} {Y j : Nat} {wk W W' : World} (h : RJ qi ns m Y wk j W) (hW : Gq W W') : RJ qi ns m Y wk j W' := by
  obtain ⟨t, h1, h2, h3, h4, h5⟩ := h
  exact ⟨t, h1, h2, own_belowL h3 hW, blkGqL h4 hW, Below.trans h5 (Below.mono hW (Below.size h5))⟩
/-- a person's names are put together -/
def RY (qi : ByteArray) (xs : List ByteArray) (Y : Nat) (wk W : World) : Prop := ∃ t : Slc ByteArray, t.xs = xs ∧ t.xs.length ≤ 20 ∧
  W.ownsRow wk.heap.size 9 1 t.v t.xs.length (sb t.xs) ∧ Blk W Y 41 [.string qi, t.v] ∧ Gq wk W
theorem RJ.done {qi : ByteArray} {ns m : List ByteArray} {Y j : Nat} {wk W : World} (h : RJ qi ns m Y wk j W) (hj : j = m.length) (hm : m.length ≤ 10) : RY qi (addNs ns m) Y wk W := by
  obtain ⟨t, h1, h2, h3, h4, h5⟩ := h
  subst hj
  rw [List.take_length] at h1
  exact ⟨t, h1, by omega, h3, h4, h5⟩
theorem nsOf_ix {l : List Psp} {q : ByteArray} (h : ixP l q < l.length) : nsOf l q = some (l[ixP l q]).ns := by
  induction l with
  | nil => simp at h
  | cons x l ih =>
    have h1 := ixP_cons x l q
    rw [nsOf]
    by_cases e : x.id = q
    · rw [if_pos e] at h1 ⊢
      simp only [h1, List.getElem_cons_zero]
    · rw [if_neg e] at h1 ⊢
      have h2 : ixP l q < l.length := by rw [h1] at h; simpa using h
      rw [ih h2]
      simp only [h1, List.getElem_cons_succ]
theorem nsOf_no {l : List Psp} {q : ByteArray} (h : ¬ ixP l q < l.length) : nsOf l q = none := by
  rw [nsOf_none]
  intro hm
  obtain ⟨y, hy, e⟩ := List.mem_map.1 hm
  exact h (List.findIdx_lt_length_of_exists ⟨y, hy, by simpa using e⟩)
/-- names that came in, or lie in a row of the call's own -/
def Nk (L2 : List Psn) (W : World) (r : Psn) : Prop := r ∈ L2 ∨ ∃ B, W.ownsRow B 9 1 r.s.v r.s.xs.length (sb r.s.xs)
/-- k persons of the second people are put in -/
def RQ (a b : List Psp) (L2 : List Psn) (O : Nat) (w5 : World) (k : Nat) (W : World) : Prop := ∃ (R : List Psn) (AO : Option Addr) (cO : Nat), R.length ≤ a.length + k ∧ (∀ r ∈ R, r.s.xs.length ≤ 20) ∧ R.map Psn.x = (b.take k).foldl insP (refA a b) ∧
  W.ownsRow w5.heap.size 41 2 (.slice AO R.length cO) R.length (R.flatMap Psn.cs) ∧ (∀ r ∈ R, Nk L2 W r) ∧ Blk W O 25 [.slice AO R.length cO, .slice none 0 0] ∧ w5.grownBy W (some O)
theorem rq_start {a b : List Psp} {L2 : List Psn} {O : Nat} {w5 W : World} (h : RI a b O w5 a.length W) : RQ a b L2 O w5 0 W := by
  obtain ⟨R, AO, cO, h1, h2, h3, h4, h5, h6⟩ := h
  refine ⟨R, AO, cO, by omega, h2, ?_, h4.o, fun r hr => ?_, h5, h6⟩
  · rw [h3, List.take_of_length_le (by simp [refA])]; simp
  · obtain ⟨i, hi, rfl⟩ := List.getElem_of_mem hr
    exact .inr ⟨_, h4.r i hi⟩
theorem insP_len (l : List Psp) (x : Psp) : (insP l x).length ≤ l.length + 1 := by
  induction l with
  | nil => simp [insP]
  | cons y l ih =>
    rw [insP]
    split
    · simpa using ih
    · split <;> simp
theorem foldP_succ (a b : List Psp) (k : Nat) (h : k < b.length) : (b.take (k + 1)).foldl insP (refA a b) = insP ((b.take k).foldl insP (refA a b)) b[k] := by
  rw [List.take_succ_eq_append_getElem h, List.foldl_append]; rfl
theorem rq_in {a b : List Psp} {L2 : List Psn} {O k : Nat} {w5 wr W : World} (h : RQ a b L2 O w5 k wr) (hk : k < b.length) (hW : Gq wr W)
    (hi : insP ((b.take k).foldl insP (refA a b)) b[k] = (b.take k).foldl insP (refA a b)) : RQ a b L2 O w5 (k + 1) W := by
  obtain ⟨R, AO, cO, h1, h2, h3, h4, h5, h6, h7⟩ := h
  refine ⟨R, AO, cO, by omega, h2, ?_, own_belowL h4 hW, fun r hr => ?_, blkGqL h6 hW, h7.trans (grown_gq hW _)⟩
  · rw [foldP_succ _ _ _ hk, hi]; exact h3
  · rcases h5 r hr with h | ⟨B, h⟩
    · exact .inl h
    · exact .inr ⟨B, own_belowL h hW⟩
theorem rq_put {a b : List Psp} {L2 : List Psn} {O k i : Nat} {w5 wr W w8 : World} {R : List Psn} {AO A' : Option Addr} {cO c' : Nat} {x : Psn}
    (h1 : R.length ≤ a.length + k) (h2 : ∀ r ∈ R, r.s.xs.length ≤ 20) (h3 : R.map Psn.x = (b.take k).foldl insP (refA a b))
    (h4 : wr.ownsRow w5.heap.size 41 2 (.slice AO R.length cO) R.length (R.flatMap Psn.cs)) (h5 : ∀ r ∈ R, Nk L2 wr r) (h6 : Blk wr O 25 [.slice AO R.length cO, .slice none 0 0]) (h7 : w5.grownBy wr (some O))
    (hk : k < b.length) (hx : x ∈ L2) (hxb : b[k] = x.x) (hxn : x.s.xs.length ≤ 20) (hO5 : O < w5.heap.size) (hW : Gq wr W)
    (hi : insP (R.map Psn.x) b[k] = (R.map Psn.x).take i ++ b[k] :: (R.map Psn.x).drop i)
    (hown : w8.ownsRow w5.heap.size 41 2 (.slice A' (R.length + 1) c') (R.length + 1) ((R.flatMap Psn.cs).take (i * 2) ++ x.cs ++ (R.flatMap Psn.cs).drop (i * 2)))
    (hgrow : W.grownBy w8 (Value.slice AO R.length cO).ownBlock) :
    RQ a b L2 O w5 (k + 1) (w8.setCell ⟨O, 0, none⟩ (.slice A' (R.length + 1) c')) ∧ Blk w8 O 25 [.slice AO R.length cO, .slice none 0 0] := by
  have h4W := own_belowL h4 hW
  have hrow : ∀ b, (Value.slice AO R.length cO).ownBlock = some b → w5.heap.size ≤ b := fun b hb => (h4.lt b hb).1
  have hb8 : Blk w8 O 25 [.slice AO R.length cO, .slice none 0 0] := blk_grown (blkGqL h6 hW) hgrow (fun e => by have := hrow _ e.symm; omega)
  have hset := grown_set w8 O 0 (.slice A' (R.length + 1) c')
  have hl : (R.take i ++ x :: R.drop i).length = R.length + 1 := by
    simp only [List.length_append, List.length_cons, List.length_take, List.length_drop]; omega
  have hmem : ∀ r ∈ R.take i ++ x :: R.drop i, r ∈ R ∨ r = x := fun r hr => by
    rcases List.mem_append.1 hr with h | h
    · exact .inl (List.mem_of_mem_take h)
    · rcases List.mem_cons.1 h with h | h
      · exact .inr h
      · exact .inl (List.mem_of_mem_drop h)
  have hfl : (R.take i ++ x :: R.drop i).flatMap Psn.cs = (R.flatMap Psn.cs).take (i * 2) ++ x.cs ++ (R.flatMap Psn.cs).drop (i * 2) := by
    rw [flat_take Psn.cs 2 (fun _ => rfl), flat_drop Psn.cs 2 (fun _ => rfl), List.flatMap_append, List.flatMap_cons, List.append_assoc]
  refine ⟨⟨R.take i ++ x :: R.drop i, A', c', by omega, fun r hr => ?_, ?_, ?_, fun r hr => ?_, ?_, ?_⟩, hb8⟩
  · rcases hmem r hr with h | h
    · exact h2 r h
    · rw [h]; exact hxn
  · rw [foldP_succ _ _ _ hk, ← h3, hi, List.map_append, List.map_cons, List.map_take, List.map_drop, hxb]
  · rw [hl, hfl]
    exact own_keep hown hset (fun b hb e => by have := (hown.lt b hb).1; injection e with e; omega)
  · rcases hmem r hr with h | h
    · rcases h5 r h with h | ⟨B, h⟩
      · exact .inl h
      · have h9 := own_belowL h hW
        have h8 := own_keep h9 hgrow (fun b hb e => own_ne h4W h9 (by decide) b e hb)
        exact .inr ⟨B, own_keep h8 hset (fun b hb e => by injection e with e; subst e; exact blk_own_ne h8 hb8 (by decide) hb)⟩
    · exact .inl (h ▸ hx)
  · rw [hl]; exact hb8.set_ 0 _
  · exact ((h7.trans (grown_gq hW _)).andThen hgrow (fun j hj => .inl (hrow j hj))).trans hset
/-- k claims of the second people are put in -/
def RC (M1 M2 : List Clm) (v0 : Value) (g : Nat) (wF : World) (k : Nat) (W : World) : Prop := ∃ (C : List Clm) (A : Option Addr) (c : Nat), C.length ≤ M1.length + k ∧ C = (M2.take k).foldl insC M1 ∧ badI M1 (M2.take k) = false ∧
  W.ownsRow wF.heap.size 49 3 (.slice A C.length c) C.length (C.flatMap Clm.cs) ∧ Blk W g 25 [v0, .slice A C.length c] ∧ wF.grownBy W (some g)
theorem foldC2_succ (M1 M2 : List Clm) (k : Nat) (h : k < M2.length) : (M2.take (k + 1)).foldl insC M1 = insC ((M2.take k).foldl insC M1) M2[k] := by
  rw [List.take_succ_eq_append_getElem h, List.foldl_append]; rfl
theorem rc_in {M1 M2 : List Clm} {v0 : Value} {g k : Nat} {wF wr W : World} (h : RC M1 M2 v0 g wF k wr) (hk : k < M2.length) (hW : Gq wr W) (ho : oth ((M2.take k).foldl insC M1) M2[k] = false)
    (hi : insC ((M2.take k).foldl insC M1) M2[k] = (M2.take k).foldl insC M1) : RC M1 M2 v0 g wF (k + 1) W := by
  obtain ⟨C, A, c, h1, h2, h3, h4, h5, h6⟩ := h
  refine ⟨C, A, c, by omega, ?_, ?_, own_belowL h4 hW, blkGqL h5 hW, h6.trans (grown_gq hW _)⟩
  · rw [foldC2_succ _ _ _ hk, hi]; exact h2
  · rw [badI_succ _ _ _ hk, h3, ho]; rfl
theorem rc_put {M1 M2 : List Clm} {v0 : Value} {g k i : Nat} {wF wr W w8 : World} {C : List Clm} {A A' : Option Addr} {c c' : Nat} {x : Clm}
    (h1 : C.length ≤ M1.length + k) (h2 : C = (M2.take k).foldl insC M1) (h3 : badI M1 (M2.take k) = false)
    (h4 : wr.ownsRow wF.heap.size 49 3 (.slice A C.length c) C.length (C.flatMap Clm.cs)) (h5 : Blk wr g 25 [v0, .slice A C.length c]) (h6 : wF.grownBy wr (some g))
    (hk : k < M2.length) (hx : M2[k] = x) (ho : oth C x = false) (hgF : g < wF.heap.size) (hW : Gq wr W)
    (hi : insC C x = C.take i ++ x :: C.drop i)
    (hown : w8.ownsRow wF.heap.size 49 3 (.slice A' (C.length + 1) c') (C.length + 1) ((C.flatMap Clm.cs).take (i * 3) ++ x.cs ++ (C.flatMap Clm.cs).drop (i * 3)))
    (hgrow : W.grownBy w8 (Value.slice A C.length c).ownBlock) :
    RC M1 M2 v0 g wF (k + 1) (w8.setCell ⟨g, 1, none⟩ (.slice A' (C.length + 1) c')) ∧ Blk w8 g 25 [v0, .slice A C.length c] := by
  subst hx
  have hrow : ∀ b, (Value.slice A C.length c).ownBlock = some b → wF.heap.size ≤ b := fun b hb => (h4.lt b hb).1
  have hb8 : Blk w8 g 25 [v0, .slice A C.length c] := blk_grown (blkGqL h5 hW) hgrow (fun e => by have := hrow _ e.symm; omega)
  have hset := grown_set w8 g 1 (.slice A' (C.length + 1) c')
  have hl : (C.take i ++ M2[k] :: C.drop i).length = C.length + 1 := by
    simp only [List.length_append, List.length_cons, List.length_take, List.length_drop]; omega
  have hfl : (C.take i ++ M2[k] :: C.drop i).flatMap Clm.cs = (C.flatMap Clm.cs).take (i * 3) ++ M2[k].cs ++ (C.flatMap Clm.cs).drop (i * 3) := by
    rw [flat_take Clm.cs 3 (fun _ => rfl), flat_drop Clm.cs 3 (fun _ => rfl), List.flatMap_append, List.flatMap_cons, List.append_assoc]
  refine ⟨⟨C.take i ++ M2[k] :: C.drop i, A', c', by omega, ?_, ?_, ?_, ?_, ?_⟩, hb8⟩
  · rw [foldC2_succ _ _ _ hk, ← h2, hi]
  · rw [badI_succ _ _ _ hk, h3, ← h2, ho]; rfl
  · rw [hl, hfl]
    exact own_keep hown hset (fun b hb e => by have := (hown.lt b hb).1; injection e with e; omega)
  · rw [hl]; exact hb8.set_ 1 _
  · exact ((h6.trans (grown_gq hW _)).andThen hgrow (fun j hj => .inl (hrow j hj))).trans hset
theorem srC_fold : ∀ (L l : List Clm), SrC l → SrC (L.foldl insC l)
  | [], _, h => h
  | x :: L, _, h => srC_fold L _ (insC_sr x h)
theorem rc_start {M1 M2 : List Clm} {v0 : Value} {g : Nat} {wF w8 : World} {A : Option Addr} {c : Nat} (ho : w8.ownsRow wF.heap.size 49 3 (.slice A M1.length c) M1.length (M1.flatMap Clm.cs)) (hb : Blk w8 g 25 [v0, .slice none 0 0]) (hg : Gq wF w8) (hgF : g < wF.heap.size) :
    RC M1 M2 v0 g wF 0 (w8.setCell ⟨g, 1, none⟩ (.slice A M1.length c)) := by
  have hset := grown_set w8 g 1 (.slice A M1.length c)
  exact ⟨M1, A, c, by omega, rfl, rfl, own_keep ho hset (fun b hb e => by have := (ho.lt b hb).1; injection e with e; omega), hb.set_ 1 _, (grown_gq hg _).trans hset⟩
theorem addO_sz {ns : List ByteArray} {o : Option (List ByteArray)} {n : Nat} (h : ∀ s ∈ ns, s.size ≤ n) (k : ∀ m, o = some m → ∀ s ∈ m, s.size ≤ n) : ∀ s ∈ addO ns o, s.size ≤ n := by
  cases o with
  | none => exact h
  | some m =>
    intro s hs
    rcases (mem_addNs _ _ _).1 hs with h1 | h1
    · exact h s h1
    · exact k m rfl s h1
theorem insC_mem : ∀ (l : List Clm) (L : List Clm) (d : Clm), d ∈ L.foldl insC l → d ∈ l ∨ d ∈ L
  | _, [], _, h => .inl h
  | l, x :: L, d, h => by
    rcases insC_mem _ L d h with h | h
    · rcases insC_keys l x d h with h | h
      · exact .inl h
      · exact .inr (by simp [h])
    · exact .inr (by simp [h])
theorem insP_sz : ∀ (l : List Psp) (x : Psp), (∀ y ∈ l, Sz y) → Sz x → ∀ y ∈ insP l x, Sz y
  | [], x, _, hx, y, hy => by simp [insP] at hy; subst hy; exact hx
  | z :: l, x, hl, hx, y, hy => by
    rw [insP] at hy
    split at hy
    · rcases List.mem_cons.1 hy with rfl | hy
      · exact hl y (by simp)
      · exact insP_sz l x (fun q hq => hl q (by simp [hq])) hx y hy
    · split at hy
      · exact hl y hy
      · rcases List.mem_cons.1 hy with rfl | hy
        · exact hx
        · exact hl y hy
theorem foldP_sz : ∀ (b l : List Psp), (∀ y ∈ l, Sz y) → (∀ y ∈ b, Sz y) → ∀ y ∈ b.foldl insP l, Sz y
  | [], _, hl, _ => hl
  | x :: b, l, hl, hb => foldP_sz b _ (insP_sz l x hl (hb x (by simp))) fun y hy => hb y (by simp [hy])
theorem nsOf_mem : ∀ {l : List Psp} {q : ByteArray} {m : List ByteArray}, nsOf l q = some m → ∃ x ∈ l, x.ns = m
  | [], q, m, h => by cases h
  | x :: l, q, m, h => by
    rw [nsOf] at h
    split at h
    · injection h with h; exact ⟨x, by simp, h⟩
    · obtain ⟨y, hy, e⟩ := nsOf_mem h
      exact ⟨y, by simp [hy], e⟩
theorem refA_sz {a b : List Psp} (ha : ∀ y ∈ a, Sz y) (hb : ∀ y ∈ b, Sz y) : ∀ y ∈ refA a b, Sz y := by
  intro y hy
  unfold refA at hy
  obtain ⟨x, hx, rfl⟩ := List.mem_map.1 hy
  refine ⟨(ha x hx).1, addO_sz (ha x hx).2 fun m hm s hs => ?_⟩
  obtain ⟨z, hz, e⟩ := nsOf_mem hm
  exact (hb z hz).2 s (e ▸ hs)
theorem atP_eq : ∀ {l : List Psp} {q : ByteArray} {i : Nat}, i ≤ l.length → (∀ j (hj : j < l.length), j < i → sLt l[j].id q) → (∀ h : i < l.length, ¬ sLt l[i].id q) → atP l q = i
  | [], q, i, h, _, _ => by simp at h; subst h; rfl
  | y :: l, q, 0, _, _, h2 => by
    have h3 : ¬ sLt y.id q := h2 (by simp)
    rw [atP_cons, if_neg h3]
  | y :: l, q, i + 1, h, h1, h2 => by
    have h3 : sLt y.id q := h1 0 (by simp) (by omega)
    rw [atP_cons, if_pos h3, atP_eq (l := l) (i := i) (by simpa using h) (fun j hj hji => h1 (j + 1) (by simpa using hj) (by omega)) (fun hh => h2 (by simpa using hh))]
theorem atP_eqN {R : List Psn} {q : ByteArray} {i : Nat} (hi : i ≤ R.length) (h1 : ∀ j (hj : j < R.length), j < i → sLt R[j].id q) (h2 : ∀ h : i < R.length, ¬ sLt R[i].id q) : atP (R.map Psn.x) q = i :=
  atP_eq (by simpa using hi) (fun j hj hji => by simpa [Psn.x] using h1 j (by simpa using hj) hji) (fun h => by simpa [Psn.x] using h2 (by simpa using h))
theorem atC_eq : ∀ {l : List Clm} {c : Clm} {i : Nat}, i ≤ l.length → (∀ j (hj : j < l.length), j < i → clLt l[j] c = true) → (∀ h : i < l.length, clLt l[i] c = false) → atC l c = i
  | [], c, i, h, _, _ => by simp at h; subst h; rfl
  | y :: l, c, 0, _, _, h2 => by
    have h3 : clLt y c = false := h2 (by simp)
    rw [atC_cons, if_neg (by rw [h3]; decide)]
  | y :: l, c, i + 1, h, h1, h2 => by
    have h3 : clLt y c = true := h1 0 (by simp) (by omega)
    rw [atC_cons, if_pos h3, atC_eq (l := l) (i := i) (by simpa using h) (fun j hj hji => h1 (j + 1) (by simpa using hj) (by omega)) (fun hh => h2 (by simpa using hh))]
theorem ins_grown {w w' : World} {row : Option Nat} (h : Below 0 w w') (k : ∀ j, j < w.heap.size → row ≠ some j → w'.heap[j]? = w.heap[j]?) : w.grownBy w' row :=
  ⟨h.os, h.tape, h.output, h.size, fun j hj hne => k j hj (fun e => hne e.symm)⟩
/-- the end of the people that the reference put together -/
theorem ref_end {a b : List Psp} {M1 M2 : List Clm} {L2 : List Psn} {w w5 wF W W3 : World} {O gg : Nat} {R : List Psn} {C : List Clm} {AO A : Option Addr} {cO c : Nat}
    (hRl : R.length ≤ 1000) (hRn : ∀ r ∈ R, r.s.xs.length ≤ 20) (hR : R.map Psn.x = b.foldl insP (refA a b))
    (hown : wF.ownsRow w5.heap.size 41 2 (.slice AO R.length cO) R.length (R.flatMap Psn.cs)) (hnk : ∀ r ∈ R, Nk L2 wF r) (hOO : Blk wF O 25 [.slice AO R.length cO, .slice none 0 0])
    (hO5 : O < w5.heap.size) (hw5 : w.heap.size ≤ O) (hwF : Below w.heap.size w wF) (h5F : w5.heap.size ≤ wF.heap.size)
    (hL2 : ∀ y ∈ L2, PsnOk w y) (ha : ∀ y ∈ a, Sz y) (hb : ∀ y ∈ b, Sz y) (hM : ∀ y ∈ M1, ClmOk y) (hM2 : ∀ y ∈ M2, ClmOk y)
    (hCl : C.length ≤ 1000000) (hC : C = M2.foldl insC M1) (hcl : W.ownsRow wF.heap.size 49 3 (.slice A C.length c) C.length (C.flatMap Clm.cs)) (hgr : wF.grownBy W (some O))
    (g3 : W.grownBy W3 (some gg)) (hgg : gg < w5.heap.size) (hgw : w.heap.size ≤ gg) (hgO : ∀ r ∈ R, ∀ B, wF.ownsRow B 9 1 r.s.v r.s.xs.length (sb r.s.xs) → r.s.v.ownBlock ≠ some gg) :
    PeoOk W3 ⟨⟨AO, cO, R⟩, ⟨A, c, C⟩⟩ := by
  have hsz : ∀ y ∈ R, Sz y.x := fun y hy => foldP_sz b _ (refA_sz ha hb) hb y.x (by rw [← hR]; exact List.mem_map.2 ⟨y, hy, rfl⟩)
  have hrow : ∀ b, (Value.slice AO R.length cO).ownBlock = some b → w5.heap.size ≤ b := fun b hb => (hown.lt b hb).1
  have hW3 : Below w.heap.size w W3 := by
    have h1 := Below.grown hwF hgr hwF.size (fun b hb => by injection hb with hb; omega)
    exact Below.grown h1 g3 h1.size (fun b hb => by injection hb with hb; omega)
  refine ⟨by show R.length ≤ _; omega, own_cap hown, ?_, fun y hy => ?_, by show C.length ≤ _; omega, ?_, fun y hy => ?_⟩
  · have h1 := own_keep hown hgr (fun b hb e => by have := hrow b hb; injection e with e; omega)
    have h2 := own_keep h1 g3 (fun b hb e => by have := hrow b hb; injection e with e; omega)
    exact Rd.of_own h2
  · have hn := hRn y hy
    rcases hnk y hy with h | ⟨B, h⟩
    · exact (hL2 y h).below hW3
    · have h1 := own_keep h hgr (fun b hb e => by injection e with e; subst e; exact blk_own_ne h hOO (by decide) hb)
      have h2 := own_keep h1 g3 (fun b hb e => by injection e with e; subst e; exact hgO y hy B h hb)
      exact ⟨⟨(hsz y hy).1, own_cap h⟩, by omega, Rd.of_own h2, (hsz y hy).2⟩
  · have h2 := own_keep hcl g3 (fun b hb e => by have := (hcl.lt b hb).1; injection e with e; omega)
    exact Rd.of_own h2
  · have : y ∈ C := hy
    rw [hC] at this
    rcases insC_mem M1 M2 y this with h | h
    · exact hM y h
    · exact hM2 y h
end Go.Proofs.YtnlnaglaipjlfaaGreatDoor
/- Plain: what both Joins give, and what was together stays together. -/
namespace Go.Proofs.YtnlnaglaipjlfaaGreatDoor
open Go.RowKit Go.Dw

theorem nilPeo_ok (w : World) : PeoOk w nilPeo := ⟨by simp [nilPeo], by simp [nilPeo], .inl rfl, by simp [nilPeo], by simp [nilPeo], .inl rfl, by simp [nilPeo]⟩
theorem joiX_ok {a b : Ppl} {w : World} {x : Peo} {f : Int} (h : JoiX a b w x f) : PeoOk w x := by
  cases h with
  | badA => exact nilPeo_ok w
  | badB => exact nilPeo_ok w
  | clash => exact nilPeo_ok w
  | badR => exact nilPeo_ok w
  | ok _ _ _ _ _ _ _ _ _ h5 => exact h5
theorem joiX_tog {a b : Ppl} {w : World} {x : Peo} {f : Int} (h : JoiX a b w x f) (hf : f = 0) : peoF a = 0 ∧ peoF b = 0 ∧ (∀ l ∈ grpsF a a.ps.length, Tog x.x l) ∧ ∀ l ∈ grpsF b b.ps.length, Tog x.x l := by
  cases h with
  | badA h => exact absurd hf h
  | badB _ h => exact absurd hf h
  | clash => exact absurd hf (by decide)
  | badR _ _ _ _ _ _ _ _ _ h4 => exact absurd hf h4
  | ok h1 h2 h3 _ hP hC _ _ h4 _ =>
    have ra := pplR_of h1
    have rb := pplR_of h2
    obtain ⟨⟨i1, c1⟩, i2, c2⟩ := joi_has ra rb h3 hP hC
    exact ⟨h1, h2, together ra h4 i1 c1, together rb h4 i2 c2⟩
theorem joi_full {a b : Ppl} {w w' : World} {x y : Peo} {f g : Int} (h : JoiX a b w x f) (k : JoiX a b w' y g) : f = g ∧ PeoOk w x ∧ PeoOk w' y ∧ x.x = y.x := by
  obtain ⟨h1, h2, h3⟩ := joi_same h k
  refine ⟨h1, joiX_ok h, joiX_ok k, ?_⟩
  by_cases hf : f = 0
  · exact h3 hf
  · obtain ⟨e1, e2⟩ := h2 hf
    rw [e1, e2]
theorem grps_sz {p : Ppl} {N : Nat} (h : ∀ y ∈ p.ps, y.id.size ≤ N) : ∀ l ∈ grpsF p p.ps.length, ∀ q ∈ l, q.size ≤ N := by
  intro l hl q hq
  unfold grpsF at hl
  obtain ⟨m, _, rfl⟩ := List.mem_map.1 hl
  unfold grpF at hq
  obtain ⟨k, hk, rfl⟩ := List.mem_map.1 hq
  have hk1 := List.mem_range.1 (List.mem_filter.1 hk).1
  unfold idAt
  rw [getD_at _ _ _ hk1]
  exact h _ (List.getElem_mem hk1)
/-- one of both people, in a row of the call's own -/
structure Either (x : Ppl) (W : World) (g i : Nat) (p : Peo) : Prop where
  c0 : W.cell? ⟨g, i * 2, none⟩ = some p.p.v
  c1 : W.cell? ⟨g, i * 2 + 1, none⟩ = some p.c.v
  ok : PeoOk W p
  f : peoF p.x = 0
  tog : ∀ l ∈ grpsF p.x p.x.ps.length, Tog x l
end Go.Proofs.YtnlnaglaipjlfaaGreatDoor
/- How people that came in read: nil slices too. -/
namespace Go.Proofs.YtnlnaglaipjlfaaGreatDoor
open Go.RowKit Go.Dw

theorem sb_flat (l : List ByteArray) : l.flatMap (fun s => [Value.string s]) = sb l := by
  induction l with
  | nil => rfl
  | cons x t ih => rw [List.flatMap_cons, ih]; rfl
def NamOk (w : World) (l : Slc ByteArray) : Prop := (l.xs.length ≤ maxLen ∧ Rd w l.a (l.xs.flatMap fun s => [Value.string s]) ∧ ∀ s ∈ l.xs, s.size ≤ maxLen) ∧ l.xs.length ≤ l.c ∧ l.c ≤ maxLen
theorem decNames {H : Type} {enc : TypeId × Value → H} {w : World} :
    Dec enc Tryz.prog w 35 (fun l : Slc ByteArray => [l.v]) (NamOk w) :=
  Dec.sliceC 1 Tryz.underlying35 (by kernel_rfl) (fun _ => rfl) (by omega) (Dec.string Tryz.underlying9)
theorem decPerson {H : Type} {enc : TypeId × Value → H} {w : World} :
    Dec enc Tryz.prog w 41 Psn.cs (fun x => PsnOk w x) :=
  (Dec.struct (tot := 2) (fl := [(9, 0, 1), (35, 1, 1)]) Tryz.underlying41 (by kernel_rfl) (by kernel_rfl)
    (DecS.cons (Dec.string Tryz.underlying9) (DecS.cons (tot := 0) decNames DecS.nil))).map
    (fun p => (⟨p.1, p.2.1⟩ : Psn)) (fun _ => rfl) (fun p h => by
      obtain ⟨h1, ⟨⟨h2, h3, h4⟩, h5, _⟩, _⟩ := h
      rw [sb_flat] at h3
      exact ⟨⟨by simpa [maxLen] using h1, h5⟩, by simpa [maxLen] using h2, h3, fun s hs => by simpa [maxLen] using h4 s hs⟩)
theorem decClaim {H : Type} {enc : TypeId × Value → H} {w : World} :
    Dec enc Tryz.prog w 49 Clm.cs ClmOk :=
  (Dec.struct (tot := 3) (fl := [(9, 0, 1), (9, 1, 1), (4, 2, 1)]) Tryz.underlying49 (by kernel_rfl) (by kernel_rfl)
    (DecS.cons (Dec.string Tryz.underlying9) (DecS.cons (Dec.string Tryz.underlying9) (DecS.cons (tot := 0) (Dec.bool Tryz.underlying4) DecS.nil)))).map
    (fun p => (⟨p.1, p.2.1, p.2.2.1⟩ : Clm)) (fun _ => rfl) (fun p h => ⟨by simpa [maxLen] using h.1, by simpa [maxLen] using h.2.1⟩)
def Peo.cells (x : Peo) : List Value := [x.p.v, x.c.v]
theorem decPeopleN {H : Type} {enc : TypeId × Value → H} {w : World} :
    Dec enc Tryz.prog w 25 Peo.cells (fun x => PeoOk w x ∧ NilOk x) :=
  (Dec.struct (tot := 2) (fl := [(22, 0, 1), (23, 1, 1)]) Tryz.underlying25 (by kernel_rfl) (by kernel_rfl)
    (DecS.cons (Dec.sliceN 2 Tryz.underlying22 (by kernel_rfl) (fun _ => rfl) (by omega) decPerson)
      (DecS.cons (tot := 0) (Dec.sliceN 3 Tryz.underlying23 (by kernel_rfl) (fun _ => rfl) (by omega) decClaim) DecS.nil))).map
    (fun p => (⟨p.1, p.2.1⟩ : Peo)) (fun _ => rfl) (fun p h => by
      obtain ⟨⟨⟨h1, h2, h3⟩, h4, _, h8⟩, ⟨⟨h5, h6, h7⟩, _, _, h9⟩, _⟩ := h
      exact ⟨⟨by simpa [maxLen] using h1, h4, h2, h3, by simpa [maxLen] using h5, h6, h7⟩, h8, h9⟩)
end Go.Proofs.YtnlnaglaipjlfaaGreatDoor
/- Rows of rows of strings; slices.Equal at strings that read alike. -/
namespace Go.Proofs.YtnlnaglaipjlfaaGreatDoor
open Go.RowKit Go.Dw

theorem sameStr_any (A B : Option Addr) (c d : Nat) (xs : List ByteArray) (w : World) (ha : Rd w A (sb xs)) (hb : Rd w B (sb xs)) (hn : xs.length ≤ 9223372036854775807) :
    Calls Tryz.prog 31 #[.slice A xs.length c, .slice B xs.length d] w fun e w' => e = .returned (.bool true) ∧ ∃ n, w' = w.drewN n :=
  (equalS_any A B c d xs xs w ha hb hn).mono fun e w' h => ⟨by rw [h.1]; simp, h.2⟩
/-- rows of rows of strings -/
def Grs (w : World) (A : Option Addr) (G : List Rw) (R : List (List ByteArray)) : Prop := Rd w A (G.map Rw.v) ∧ (∀ s ∈ G, Rd w s.a s.cs) ∧ G.map Rw.cs = R.map sb
theorem Grs.below {w w' : World} {A : Option Addr} {G : List Rw} {R : List (List ByteArray)} (h : Grs w A G R) (hb : Below w.heap.size w w') : Grs w' A G R :=
  ⟨h.1.below hb, fun s hs => (h.2.1 s hs).below hb, h.2.2⟩
theorem Grs.len {w : World} {A : Option Addr} {G : List Rw} {R : List (List ByteArray)} (h : Grs w A G R) : G.length = R.length := by
  have := congrArg List.length h.2.2; simpa using this
theorem Grs.at_ {w : World} {A : Option Addr} {G : List Rw} {R : List (List ByteArray)} (h : Grs w A G R) {k : Nat} (hk : k < R.length) :
    ∃ b off a c, A = some ⟨b, off, none⟩ ∧ b < w.heap.size ∧ w.cell? ⟨b, off + k, none⟩ = some (.slice a R[k].length c) ∧ Rd w a (sb R[k]) := by
  have hl := h.len
  obtain ⟨b, off, e, hb, hc⟩ := h.1.at_ (by simp; omega)
  have hkg : k < G.length := by omega
  have hcs : G[k].cs = sb R[k] := by
    have := congrArg (fun l => l[k]?) h.2.2
    simpa [hkg, hk] using this
  refine ⟨b, off, G[k].a, G[k].c, e, hb, ?_, ?_⟩
  · have := hc k G[k].v (by simp [hkg])
    rw [this]; unfold Rw.v; rw [hcs, sb_len]
  · rw [← hcs]; exact h.2.1 _ (List.getElem_mem hkg)
/-- a row of values of the call's own, as a row -/
def rwOf (x : Value × List ByteArray) : Rw := match x.1 with
  | .slice a _ c => ⟨a, c, sb x.2⟩
  | _ => ⟨none, 0, []⟩
theorem GI.grs {T S : TypeId} {w : World} {B : Nat} {A : Option Addr} {n c : Nat} {R : List (Value × List ByteArray)} (h : GI T S w B (.slice A n c) R) : Grs w A (R.map rwOf) (R.map Prod.snd) := by
  have h1 : ∀ i (hi : i < R.length), ∃ a c, R[i].1 = .slice a R[i].2.length c := fun i hi => slice_of_own (h.r i hi)
  refine ⟨?_, fun s hs => ?_, ?_⟩
  · have e : (R.map rwOf).map Rw.v = R.map Prod.fst := by
      apply List.ext_getElem
      · simp
      · intro i p1 p2
        simp only [List.getElem_map]
        obtain ⟨a, c, e⟩ := h1 i (by simpa using p2)
        unfold rwOf
        rw [e]
        simp only [Rw.v, sb_len]
    rw [e]
    have h2 := h.o
    have hv : (Value.slice A n c) = .slice A R.length c := by
      obtain ⟨a2, c2, e2⟩ := slice_of_own h2
      injection e2 with e3 e4 e5
      rw [e4]
    rw [hv] at h2
    exact Rd.of_own h2
  · obtain ⟨i, hi, rfl⟩ := List.getElem_of_mem hs
    simp only [List.getElem_map]
    have hi' : i < R.length := by simpa using hi
    obtain ⟨a, c, e⟩ := h1 i hi'
    have h2 := h.r i hi'
    rw [e] at h2
    unfold rwOf
    rw [e]
    exact Rd.of_own h2
  · apply List.ext_getElem
    · simp
    · intro i p1 p2
      simp only [List.getElem_map]
      obtain ⟨a, c, e⟩ := h1 i (by simpa using p2)
      unfold rwOf
      rw [e]
end Go.Proofs.YtnlnaglaipjlfaaGreatDoor
/- The contract of slices.Equal at []api.Claim, and of the reference's SamePeople, where both read alike. -/
namespace Go.Proofs.YtnlnaglaipjlfaaGreatDoor
open Go.RowKit Go.Dw

theorem neqClm (s t : ByteArray) (b : Bool) (w : World) : Sem.run Tryz.prog (binOp .neq 49 (.agg #[.string s, .string t, .bool b]) (.agg #[.string s, .string t, .bool b])) w = .ok (.bool false) w := by
  go_simp
set_option maxHeartbeats 400000 in
theorem sameClm_any (A B : Option Addr) (c d : Nat) (xs : List Clm) (w : World) (ha : Rd w A (xs.flatMap Clm.cs)) (hb : Rd w B (xs.flatMap Clm.cs)) (hn : xs.length ≤ 9223372036854775807) :
    Calls Tryz.prog 30 #[.slice A xs.length c, .slice B xs.length d] w fun e w' => e = .returned (.bool true) ∧ ∃ n, w' = w.drewN n := by
  have hl1 : ((xs.length : Int) != (xs.length : Int)) = false := by simp
  go_enter Tryz.func30, Tryz.ntmps30
  go_wp2
  go_loopw [13] (fun i wr => ∃ k : Nat, k ≤ xs.length ∧ i = .int .i64 k ∧ ∃ n, wr = w.drewN n) (fun i _ => xs.length - (intOf i).toNat)
  case atStart => exact ⟨0, Nat.zero_le _, rfl, 0, rfl⟩
  case round =>
    obtain ⟨k, hk, rfl, n, rfl⟩ := hrel
    by_cases hlt : k < xs.length
    · obtain ⟨b, off, rfl, hbb, hc⟩ := clm_at ha (by omega)
      obtain ⟨b2, off2, rfl, hbb2, hc2⟩ := clm_at hb (by omega)
      obtain ⟨c0, c1, c2⟩ := hc k hlt
      obtain ⟨d0, d1, d2⟩ := hc2 k hlt
      clear hc hc2 ha hb
      generalize xs[k] = h at *
      obtain ⟨pn, po, pb⟩ := h
      simp only at c0 c1 c2 d0 d1 d2
      have hne := neqClm pn po pb
      go_wp2
      go_quiet (fail)
      go_wp2
      go_roundw
      case rel => exact ⟨k + 1, by omega, by go_num, _, rfl⟩
      case measure => simp [intOf]; omega
    · go_wp2
      go_ret
      exact ⟨rfl, _, rfl⟩
end Go.Proofs.YtnlnaglaipjlfaaGreatDoor
/- The contract of the reference's SamePeople, where both read alike. -/
namespace Go.Proofs.YtnlnaglaipjlfaaGreatDoor
open Go.RowKit Go.Dw

set_option maxRecDepth 100000 in
set_option maxHeartbeats 2000000 in
theorem samePpl_any (x y : Peo) (w : World) (hx : PeoOk w x) (hy : PeoOk w y) (he : x.x = y.x) :
    Calls Tryz.prog 6 #[x.v, y.v] w fun e w' => e = .returned (.bool true) ∧ Below w.heap.size w w' := by
  obtain ⟨⟨XA, Xc, XL⟩, ⟨XB, Xd, XC⟩⟩ := x
  obtain ⟨⟨YA, Yc, YL⟩, ⟨YB, Yd, YC⟩⟩ := y
  have hps : XL.map Psn.x = YL.map Psn.x := congrArg Ppl.ps he
  have hcs : XC = YC := congrArg Ppl.cs he
  subst hcs
  have hlen : XL.length = YL.length := by have := congrArg List.length hps; simpa using this
  have HPS := Lib.hid hps
  have HX := Lib.hid hx
  have HY := Lib.hid hy
  have hpl : XL.length ≤ 9223372036854775807 := hx.pl
  have hcl : XC.length ≤ 9223372036854775807 := hx.cl
  unfold Peo.v
  simp only [Slc.v]
  rw [← hlen]
  have HLEN := Lib.hid hlen
  clear hps hx hy he hlen
  obtain ⟨w0, hw0⟩ : ∃ w0, w0 = (w.alloc (.cells #[.slice XA XL.length Xc, .slice XB XC.length Xd] 25)).alloc (.cells #[.slice YA XL.length Yc, .slice YB XC.length Yd] 25) := ⟨_, rfl⟩
  have HB0 : Hid (Below w.heap.size w w0) := by rw [hw0]; exact ((Below.refl _ _).alloc (Nat.le_refl _) _).alloc (by simp) _
  have HK : Hid (Blk w0 w.heap.size 25 [.slice XA XL.length Xc, .slice XB XC.length Xd] ∧ Blk w0 (w.heap.size + 1) 25 [.slice YA XL.length Yc, .slice YB XC.length Yd]) := by
    have k1 := Blk.new w 25 [.slice XA XL.length Xc, .slice XB XC.length Xd]
    have k2 := Blk.new (w.alloc (.cells #[.slice XA XL.length Xc, .slice XB XC.length Xd] 25)) 25 [.slice YA XL.length Yc, .slice YB XC.length Yd]
    have e2 : (w.alloc (.cells #[.slice XA XL.length Xc, .slice XB XC.length Xd] 25)).heap.size = w.heap.size + 1 := by simp
    rw [e2] at k2
    rw [hw0]
    exact ⟨k1.same (Same.of_below (S := fun _ => True) ((Gq.refl _).alloc _)) trivial, k2⟩
  have x0 : w0.cell? ⟨w.heap.size, 0, none⟩ = some (.slice XA XL.length Xc) := HK.out.1.cell 0
  have x1 : w0.cell? ⟨w.heap.size, 1, none⟩ = some (.slice XB XC.length Xd) := HK.out.1.cell 1
  have y0 : w0.cell? ⟨w.heap.size + 1, 0, none⟩ = some (.slice YA XL.length Yc) := HK.out.2.cell 0
  have y1 : w0.cell? ⟨w.heap.size + 1, 1, none⟩ = some (.slice YB XC.length Yd) := HK.out.2.cell 1
  have hl1 : ((XL.length : Int) != (XL.length : Int)) = false := by simp
  have HSC := Lib.hid (sameClm_any XB YB Xd Yd XC w0 (HX.out.cr.below HB0.out) (HY.out.cr.below HB0.out) hcl)
  have HXL : Hid (Rd w0 XA (XL.flatMap Psn.cs)) := HX.out.pr.below HB0.out
  have HYL : Hid (Rd w0 YA (YL.flatMap Psn.cs)) := HY.out.pr.below HB0.out
  have HW0 := Lib.hid hw0
  clear hw0
  go_enter Tryz.func6, Tryz.ntmps6
  go_upto_region 1 with (fail)
  rw [← HW0.out]
  go_wp2_with fail
  refine HSC.out.mono ?_
  rintro e w1 ⟨rfl, n1, rfl⟩
  go_wp2_with fail
  clear x0 x1 y0 y1
  go_loopw [24] (fun i wr => ∃ k : Nat, k ≤ XL.length ∧ i = .int .i64 k ∧ Hid (∃ n, wr = w0.drewN n)) (fun i _ => XL.length - (intOf i).toNat)
  case atStart => exact ⟨0, Nat.zero_le _, rfl, ⟨n1, rfl⟩⟩
  case round =>
    obtain ⟨k, hk, rfl, HW⟩ := hrel
    have HBB : Hid (Gq w0 wr) := by obtain ⟨n, hn⟩ := HW.out; show Gq _ _; rw [hn]; exact below_drewN (Gq.refl _) n
    have HNX : Hid (∀ m, ∃ n, wr.drewN m = w0.drewN n) := fun m => by obtain ⟨n, hn⟩ := HW.out; exact ⟨n + m, by rw [hn, World.drewN_drewN]⟩
    by_cases hlt : k < XL.length
    · have hd1 : decide (k < XL.length) = true := by simpa using hlt
      have hlt2 : k < YL.length := by rw [← HLEN.out]; exact hlt
      obtain ⟨b, off, rfl, hbb, hc⟩ := psn_at (HXL.out.below HBB.out) (by omega)
      obtain ⟨b2, off2, rfl, hbb2, hc2⟩ := psn_at (HYL.out.below HBB.out) (by omega)
      obtain ⟨c0, c1⟩ := hc k hlt
      obtain ⟨d0, d1⟩ := hc2 k hlt2
      have hxe : (⟨XL[k].id, XL[k].s.xs⟩ : Psp) = ⟨YL[k].id, YL[k].s.xs⟩ := by
        have := congrArg (fun l => l[k]?) HPS.out
        simpa [hlt, hlt2, Psn.x] using this
      injection hxe with hid hns
      have hr1 := (HX.out.po _ (List.getElem_mem hlt)).2
      have hr2 := (HY.out.po _ (List.getElem_mem hlt2)).2
      have hbw : Below w.heap.size w wr := HB0.out.trans (Below.mono HBB.out HB0.out.size)
      rw [← hns] at d1 hr2
      rw [← hid] at d0
      have HSM := Lib.hid (fun (m : Nat) => sameStr_any XL[k].s.a YL[k].s.a XL[k].s.c YL[k].s.c XL[k].s.xs (wr.drewN m) ((hr1.2.1.below hbw).below (below_drewN (Below.refl _ _) m)) ((hr2.2.1.below hbw).below (below_drewN (Below.refl _ _) m)) hr1.1)
      have x0 : wr.cell? ⟨w.heap.size, 0, none⟩ = some (.slice (some ⟨b, off, none⟩) XL.length Xc) := (HK.out.1.same (Same.of_below (S := fun _ => True) HBB.out) trivial).cell 0
      have y0 : wr.cell? ⟨w.heap.size + 1, 0, none⟩ = some (.slice (some ⟨b2, off2, none⟩) XL.length Yc) := (HK.out.2.same (Same.of_below (S := fun _ => True) HBB.out) trivial).cell 0
      clear hc hc2 hr1 hr2 hbw hns hid hbb hbb2
      generalize XL[k].id = qi at *
      generalize XL[k].s.xs = l at *
      generalize XL[k].s.a = sa at *
      generalize XL[k].s.c = sc at *
      generalize YL[k].s.a = ta at *
      generalize YL[k].s.c = tc at *
      have e1 : (qi.toList == qi.toList) = true := seq_t rfl
      have j0 : (0 : Int) ≤ (k : Int) := by omega
      have j1 : (k : Int) < (XL.length : Int) := by omega
      go_wp2_with fail
      go_quiet ((go_at_call 31; exact Calls.quiet_of (HSM.out _)))
      go_wp2
      go_roundw
      case rel => exact ⟨k + 1, by omega, by go_num, HNX.out _⟩
      case measure => simp [intOf]; omega
    · have hd1 : decide (k < XL.length) = false := by simpa using hlt
      have HBE : Hid (Below w.heap.size w wr) := HB0.out.trans (Below.mono HBB.out HB0.out.size)
      go_wp2_with fail
      go_ret
      exact ⟨rfl, HBE.out⟩
end Go.Proofs.YtnlnaglaipjlfaaGreatDoor
