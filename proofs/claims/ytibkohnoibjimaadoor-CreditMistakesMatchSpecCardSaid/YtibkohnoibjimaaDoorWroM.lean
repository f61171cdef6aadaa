/- The maps of credit.Wrong, as functions; the contracts of whoOf and mistake. -/
import Derived.Test.YtibkohnoibjimaaDoorCat
import Derived.Test.YtibkohnoibjimaaDoorMap
namespace Go.Proofs.YtibkohnoibjimaaDoor
open Go.RowKit Go.Dw Go.Maps

theorem laidOut5 : laidOutB Tryd.prog = true := by kernel_rfl
theorem rowWho : (40 : TypeId) < Tryd.prog.types.size := of_decide_eq_true (by kernel_rfl)
theorem wideWho : (match Tryd.prog.underlying 40 with | some (.array _ _) | some (.struct _) => true | _ => false) = true := by kernel_rfl
theorem whoKeyed : Keyed Tryd.prog 40 := Keyed.of_law (deep_law_laid laidOut5 (m := 2) (by omega) rowWho (by kernel_rfl) wideWho)
def kv (r p : ByteArray) : Value := .agg #[.string r, .string p]
theorem zeroBool (w : World) : (zeroValue 4).run Tryd.prog w = .ok (.bool false) w := by kernel_rfl
theorem zeroCredit (w : World) : (zeroValue 38).run Tryd.prog w = .ok (.agg #[.string ⟨#[]⟩, .string ⟨#[]⟩, .string ⟨#[]⟩, .slice none 0 0, .int .i64 0]) w := by kernel_rfl
theorem keyWho (r p : ByteArray) (h1 : r.size ≤ maxLen) (h2 : p.size ≤ maxLen) : ∃ kl, keyOf Tryd.prog 40 (kv r p) = some kl := by
  have hkt : Tryd.prog.keyType 40 = true := by kernel_rfl
  have hc : Tryd.prog.cellsOf 40 = 2 := by kernel_rfl
  have hc9 : Tryd.prog.cellsOf 9 = 1 := by kernel_rfl
  have hrow : (40 : Nat) < Tryd.prog.types.size := rowWho
  obtain ⟨d, hd⟩ : ∃ d, Tryd.prog.types.size + 1 = d + 1 + 1 := ⟨Tryd.prog.types.size - 1, by omega⟩
  unfold keyOf
  rw [Tryd.underlying40]
  simp only [hkt, hd]
  simp [Value.formed, Tryd.underlying40, Tryd.underlying9, hc, hc9, kv, Value.cells, Program.keyLits, h1, h2]
def Gq (w W : World) : Prop := Below w.heap.size w W
theorem Gq.alloc {a b : World} (h : Gq a b) (o : Obj) : Gq a (b.alloc o) := Below.alloc h (Below.size h) o
theorem Gq.set {a b : World} (h : Gq a b) {p : Addr} (hp : a.heap.size ≤ p.block) (v : Value) : Gq a (b.setCell p v) := Below.setCell h hp v
theorem Gq.drew {a b : World} (h : Gq a b) : Gq a b.drew := Below.drew h
theorem Gq.refl (a : World) : Gq a a := Below.refl _ _
def keyS (v : Value) : Option (ByteArray × ByteArray) := match v with
  | .agg a => match a.toList with
    | [.string r, .string p] => some (r, p)
    | _ => none
  | _ => none
theorem keyS_inv {v : Value} {r p : ByteArray} (h : keyS v = some (r, p)) : v = kv r p := by
  unfold keyS at h
  split at h
  · rename_i a
    split at h
    · rename_i r' p' he
      simp only [Option.some.injEq, Prod.mk.injEq] at h
      obtain ⟨rfl, rfl⟩ := h
      unfold kv
      congr 1
      apply Array.ext'
      rw [he]
    · cases h
  · cases h
def cK (r p : ByteArray) : Crp := ⟨r, p, ⟨#[]⟩, [], 0⟩
def dueF (W : List Crp) (j : Nat) (key : Value) : Option Value := match keyS key with
  | some (r, p) => if (fstK W (cK r p) j).isSome = true then some (Value.bool true) else none
  | none => none
def dCrd : Crd := ⟨⟨#[]⟩, ⟨#[]⟩, ⟨#[]⟩, ⟨none, 0, []⟩, 0⟩
def Crd.v (c : Crd) : Value := .agg c.cs.toArray
def thereF (H : List Crd) (j : Nat) (key : Value) : Option Value := match keyS key with
  | some (r, p) => (match fstK (H.map Crd.x) (cK r p) j with | some i => some (H.getD i dCrd).v | none => none)
  | none => none
theorem dueF_at (W : List Crp) (j : Nat) (c : Crp) : dueF W j (kv c.r c.p) = if (fstK W c j).isSome = true then some (Value.bool true) else none := by
  show (if (fstK W (cK c.r c.p) j).isSome = true then some (Value.bool true) else none) = _
  rw [fstK_congr (l := W) (c := cK c.r c.p) (c' := c) rfl rfl j]
theorem thereF_at (H : List Crd) (j : Nat) (c : Crp) : thereF H j (kv c.r c.p) = match fstK (H.map Crd.x) c j with | some i => some (H.getD i dCrd).v | none => none := by
  show (match fstK (H.map Crd.x) (cK c.r c.p) j with | some i => some (H.getD i dCrd).v | none => none) = _
  rw [fstK_congr (l := H.map Crd.x) (c := cK c.r c.p) (c' := c) rfl rfl j]
theorem same_kv {c : Crp} {r p : ByteArray} (h : sameK c (cK r p) = true) : kv r p = kv c.r c.p := by
  obtain ⟨h1, h2⟩ := sameK_t.1 h
  show kv r p = kv c.r c.p
  rw [h1, h2]; rfl
theorem dueF_new {W : List Crp} {j : Nat} (h : fstK W (W.getD j dCrp) j = none) : dueF W (j + 1) (kv (W.getD j dCrp).r (W.getD j dCrp).p) = some (.bool true) ∧ ∀ x, x ≠ kv (W.getD j dCrp).r (W.getD j dCrp).p → dueF W (j + 1) x = dueF W j x := by
  refine ⟨by rw [dueF_at, fstK_hit h (sameK_self _)]; rfl, fun x hx => ?_⟩
  unfold dueF
  cases hk : keyS x with
  | none => rfl
  | some rp =>
    obtain ⟨r, p⟩ := rp
    simp only
    cases hf : fstK W (cK r p) j with
    | some i => rw [fstK_more hf (j + 1) (by omega)]
    | none =>
      cases hs : sameK (W.getD j dCrp) (cK r p) with
      | true => exact absurd ((keyS_inv hk).trans (same_kv hs)) hx
      | false => rw [fstK_miss hf hs]
theorem thereF_new {H : List Crd} {j : Nat} (hj : j < H.length) (h : fstK (H.map Crd.x) H[j].x j = none) : thereF H (j + 1) (kv H[j].r H[j].p) = some H[j].v ∧ ∀ x, x ≠ kv H[j].r H[j].p → thereF H (j + 1) x = thereF H j x := by
  have e : (H.map Crd.x).getD j dCrp = H[j].x := map_at H j hj
  refine ⟨?_, fun x hx => ?_⟩
  · have := thereF_at H (j + 1) H[j].x
    rw [fstK_hit h (by rw [e]; exact sameK_self _)] at this
    simp only at this
    rw [getD_at H dCrd j hj] at this
    exact this
  · unfold thereF
    cases hk : keyS x with
    | none => rfl
    | some rp =>
      obtain ⟨r, p⟩ := rp
      simp only
      cases hf : fstK (H.map Crd.x) (cK r p) j with
      | some i => rw [fstK_more hf (j + 1) (by omega)]
      | none =>
        cases hs : sameK ((H.map Crd.x).getD j dCrp) (cK r p) with
        | true => rw [e] at hs; exact absurd ((keyS_inv hk).trans (same_kv hs)) hx
        | false => rw [fstK_miss hf hs]
theorem thereF_old {H : List Crd} {j i : Nat} (hj : j < H.length) (h : fstK (H.map Crd.x) H[j].x j = some i) (x : Value) : thereF H (j + 1) x = thereF H j x := by
  have e : (H.map Crd.x).getD j dCrp = H[j].x := map_at H j hj
  unfold thereF
  cases hk : keyS x with
  | none => rfl
  | some rp =>
    obtain ⟨r, p⟩ := rp
    simp only
    cases hf : fstK (H.map Crd.x) (cK r p) j with
    | some i => rw [fstK_more hf (j + 1) (by omega)]
    | none =>
      cases hs : sameK ((H.map Crd.x).getD j dCrp) (cK r p) with
      | true =>
        obtain ⟨h1, h2⟩ := sameK_t.1 hs
        rw [e] at h1 h2
        rw [fstK_congr (l := H.map Crd.x) (c := cK r p) (c' := H[j].x) h1.symm h2.symm j, h] at hf
        cases hf
      | false => rw [fstK_miss hf hs]
set_option maxHeartbeats 1000000 in
theorem whoOf_any (c : Crd) (w : World) : Calls Tryd.prog 10 #[.agg c.cs.toArray] w fun e w' => e = .returned (kv c.r c.p) ∧ Below w.heap.size w w' := by
  obtain ⟨r, p, nm, ⟨sa, sc, sl⟩, m⟩ := c
  simp only [Crd.cs, Slc.v]
  go_enter Tryd.func10, Tryd.ntmps10
  go_wp2_with fail
  refine bodyPost_ret (v := kv r p) (by simp [results, Tryd.results10, go_sem, kv]) rfl ⟨rfl, ?_⟩
  show Gq _ _
  repeat (first | exact Gq.refl _ | refine Gq.alloc ?_ _ | refine Gq.drew ?_ | refine Gq.set ?_ (by first | omega | (simp; done) | (simp; omega)) _)
set_option maxHeartbeats 1000000 in
theorem mistake_any (k : Int) (c : Crd) (w : World) : Calls Tryd.prog 11 #[.int .i64 k, .agg c.cs.toArray] w fun e w' => e = .returned (.agg #[.int .i64 k, .string c.r, .string c.p]) ∧ Below w.heap.size w w' := by
  obtain ⟨r, p, nm, ⟨sa, sc, sl⟩, m⟩ := c
  simp only [Crd.cs, Slc.v]
  go_enter Tryd.func11, Tryd.ntmps11
  go_wp2_with fail
  refine bodyPost_ret (v := .agg #[.int .i64 k, .string r, .string p]) (by simp [results, Tryd.results11, go_sem]) rfl ⟨rfl, ?_⟩
  show Gq _ _
  repeat (first | exact Gq.refl _ | refine Gq.alloc ?_ _ | refine Gq.drew ?_ | refine Gq.set ?_ (by first | omega | (simp; done) | (simp; omega)) _)
end Go.Proofs.YtibkohnoibjimaaDoor
