/- Several texts laid into one: Words for slices of slices that the call itself made: whatever program; A world that lies over another one; Strings that are equal, as Go compares them; Plain words for numbers as words and as limbs, and for texts of ratios (no function of a program); The contracts of num.Nat's trim, natOf, One, small; The contracts of num.natOf, One, small, Cmp; The contract of (num.Nat).Cmp; Rows of words under way; The contracts of clock.digits and of the reference's number: whole numbers without a needless 0; -/
import Derived.Test.YtmppccnioiodgaaGreatDoorBase
import Derived.Laws.Rows
import Derived.Laws.MakeOwn
import Derived.Deep.RegionHeld3
import Derived.Test.YtmppccnioiodgaaGreatDoorPlnA
import Derived.Laws.NewBlocks
import Derived.Test.YtmppccnioiodgaaGreatDoorProg
/- Words for slices of slices that the call itself made: whatever program. -/
namespace Go.Dw
open Go.RowKit

/-- as Rd, and the block meets S -/
def RdS (S : Nat → Prop) (w : World) (A : Option Addr) (vs : List Value) : Prop :=
  vs = [] ∨ ∃ b off, A = some ⟨b, off, none⟩ ∧ S b ∧ b < w.heap.size ∧ ∀ j u, vs[j]? = some u → w.cell? ⟨b, off + j, none⟩ = some u
/-- what is at the blocks that meet S has stayed -/
def Same (S : Nat → Prop) (w w' : World) : Prop := w.heap.size ≤ w'.heap.size ∧ ∀ b, S b → b < w.heap.size → w'.heap[b]? = w.heap[b]?
theorem Same.refl (S : Nat → Prop) (w : World) : Same S w w := ⟨Nat.le_refl _, fun _ _ _ => rfl⟩
theorem Same.trans {S : Nat → Prop} {a b c : World} (h : Same S a b) (k : Same S b c) : Same S a c :=
  ⟨Nat.le_trans h.1 k.1, fun i hs hi => (k.2 i hs (Nat.lt_of_lt_of_le hi h.1)).trans (h.2 i hs hi)⟩
theorem Same.mono {S S' : Nat → Prop} {w w' : World} (h : Same S w w') (hs : ∀ b, b < w.heap.size → S' b → S b) : Same S' w w' := ⟨h.1, fun b hb hl => h.2 b (hs b hl hb) hl⟩
theorem Same.of_below {S : Nat → Prop} {w w' : World} (h : Below w.heap.size w w') : Same S w w' := ⟨h.size, fun b _ hb => h.block b hb⟩
theorem Same.alloc {S : Nat → Prop} (w : World) (o : Obj) : Same S w (w.alloc o) := ⟨by simp, fun b _ hb => Below.heap_alloc w o b hb⟩
theorem Same.set {S : Nat → Prop} (w : World) (p : Addr) (u : Value) (hp : ¬ S p.block) : Same S w (w.setCell p u) :=
  ⟨by simp [World.setCell], fun b hb _ => Below.heap_setCell w p u b (fun e => hp (e ▸ hb))⟩
theorem Same.drewN {S : Nat → Prop} (w : World) (n : Nat) : Same S w (w.drewN n) := ⟨Nat.le_refl _, fun _ _ _ => rfl⟩
theorem Same.drew {S : Nat → Prop} (w : World) : Same S w w.drew := ⟨Nat.le_refl _, fun _ _ _ => rfl⟩
theorem RdS.same {S : Nat → Prop} {w w' : World} {A : Option Addr} {vs : List Value} (h : RdS S w A vs) (hs : Same S w w') : RdS S w' A vs := by
  rcases h with h | ⟨b, off, e, hb, hl, hc⟩
  · exact .inl h
  · exact .inr ⟨b, off, e, hb, Nat.lt_of_lt_of_le hl hs.1, fun j u hu => (World.cell?_of_block (hs.2 b hb hl)).trans (hc j u hu)⟩
theorem RdS.mono {S S' : Nat → Prop} {w : World} {A : Option Addr} {vs : List Value} (h : RdS S w A vs) (hs : ∀ b, b < w.heap.size → S b → S' b) : RdS S' w A vs := by
  rcases h with h | ⟨b, off, e, hb, hl, hc⟩
  · exact .inl h
  · exact .inr ⟨b, off, e, hs b hl hb, hl, hc⟩
theorem RdS.rd {S : Nat → Prop} {w : World} {A : Option Addr} {vs : List Value} (h : RdS S w A vs) : Rd w A vs := by
  rcases h with h | ⟨b, off, e, hb, hl, hc⟩
  · exact .inl h
  · exact .inr ⟨b, off, e, hl, hc⟩
theorem Rd.rds {w : World} {A : Option Addr} {vs : List Value} (h : Rd w A vs) : RdS (fun b => b < w.heap.size) w A vs := by
  rcases h with h | ⟨b, off, e, hl, hc⟩
  · exact .inl h
  · exact .inr ⟨b, off, e, hl, hl, hc⟩
theorem RdS.at_ {S : Nat → Prop} {w : World} {A : Option Addr} {vs : List Value} (h : RdS S w A vs) (hn : 0 < vs.length) :
    ∃ b off, A = some ⟨b, off, none⟩ ∧ S b ∧ b < w.heap.size ∧ ∀ j u, vs[j]? = some u → w.cell? ⟨b, off + j, none⟩ = some u := by
  rcases h with rfl | h
  · simp at hn
  · exact h

/-- the value is a slice of the integers xs, at blocks that meet S -/
def RdIs (S : Nat → Prop) (w : World) (v : Value) (xs : List Int) : Prop := ∃ A c, v = .slice A xs.length c ∧ RdS S w A (ic xs)
theorem RdIs.same {S : Nat → Prop} {w w' : World} {v : Value} {xs : List Int} (h : RdIs S w v xs) (hs : Same S w w') : RdIs S w' v xs := by
  obtain ⟨A, c, e, h⟩ := h
  exact ⟨A, c, e, h.same hs⟩
theorem RdIs.mono {S S' : Nat → Prop} {w : World} {v : Value} {xs : List Int} (h : RdIs S w v xs) (hs : ∀ b, b < w.heap.size → S b → S' b) : RdIs S' w v xs := by
  obtain ⟨A, c, e, h⟩ := h
  exact ⟨A, c, e, h.mono hs⟩
/-- the value is a slice of such slices -/
def RdIIs (S : Nat → Prop) (w : World) (v : Value) (xss : List (List Int)) : Prop :=
  ∃ A c vs, v = .slice A xss.length c ∧ vs.length = xss.length ∧ RdS S w A vs ∧ ∀ i (h1 : i < vs.length) (h2 : i < xss.length), RdIs S w vs[i] xss[i]
theorem RdIIs.same {S : Nat → Prop} {w w' : World} {v : Value} {xss : List (List Int)} (h : RdIIs S w v xss) (hs : Same S w w') : RdIIs S w' v xss := by
  obtain ⟨A, c, vs, e, hl, h, hi⟩ := h
  exact ⟨A, c, vs, e, hl, h.same hs, fun i h1 h2 => (hi i h1 h2).same hs⟩
theorem RdIIs.mono {S S' : Nat → Prop} {w : World} {v : Value} {xss : List (List Int)} (h : RdIIs S w v xss) (hs : ∀ b, b < w.heap.size → S b → S' b) : RdIIs S' w v xss := by
  obtain ⟨A, c, vs, e, hl, h, hi⟩ := h
  exact ⟨A, c, vs, e, hl, h.mono hs, fun i h1 h2 => (hi i h1 h2).mono hs⟩
/-- the cell of row i, and of its element k -/
theorem RdIIs.at_ {S : Nat → Prop} {w : World} {v : Value} {xss : List (List Int)} (h : RdIIs S w v xss) {i k : Nat} (hi : i < xss.length) (hk : k < xss[i].length) :
    ∃ b off c b2 off2 c2, v = .slice (some ⟨b, off, none⟩) xss.length c ∧ w.cell? ⟨b, off + i, none⟩ = some (.slice (some ⟨b2, off2, none⟩) xss[i].length c2) ∧ w.cell? ⟨b2, off2 + k, none⟩ = some (.int .i64 xss[i][k]) := by
  obtain ⟨A, c, vs, rfl, hl, h, hr⟩ := h
  obtain ⟨b, off, rfl, _, _, hc⟩ := h.at_ (by omega)
  obtain ⟨A2, c2, e2, h2⟩ := hr i (by omega) hi
  obtain ⟨b2, off2, rfl, _, _, hc2⟩ := h2.at_ (by rw [ic_length]; omega)
  refine ⟨b, off, c, b2, off2, c2, rfl, ?_, hc2 k _ (ic_at _ k hk)⟩
  rw [← e2]
  exact hc i _ (List.getElem?_eq_getElem (by omega))

/-- a block that is known whole, nothing of it frozen -/
def Blk (w : World) (g : Nat) (t : TypeId) (cs : List Value) : Prop := w.heap[g]? = some (.cells cs.toArray t (0, 0))
section
variable {w w' : World} {g : Nat} {t : TypeId} {cs : List Value}
theorem Blk.lt (h : Blk w g t cs) : g < w.heap.size := by
  rcases Nat.lt_or_ge g w.heap.size with hlt | hge
  · exact hlt
  · unfold Blk at h; rw [Array.getElem?_eq_none hge] at h; cases h
theorem Blk.cell (h : Blk w g t cs) (i : Nat) : w.cell? ⟨g, i, none⟩ = cs[i]? := by
  rw [cell_of_row w g i cs.toArray t (0, 0) h]; simp
theorem Blk.frozen (h : Blk w g t cs) (i : Nat) : w.frozen? ⟨g, i, none⟩ = false := by
  unfold Blk at h
  simp [World.frozen?, h]
theorem Blk.new (w : World) (t : TypeId) (cs : List Value) : Blk (w.alloc (.cells cs.toArray t)) w.heap.size t cs := heap_alloc_new w _
theorem Blk.same {S : Nat → Prop} (h : Blk w g t cs) (hs : Same S w w') (hg : S g) : Blk w' g t cs := (hs.2 g hg h.lt).trans h
theorem Blk.set_ (h : Blk w g t cs) (i : Nat) (u : Value) : Blk (w.setCell ⟨g, i, none⟩ u) g t (cs.set i u) := by
  unfold Blk at h ⊢
  simp [World.setCell, Array.getElem?_modify, h]
theorem Blk.rds {S : Nat → Prop} (h : Blk w g t cs) (hg : S g) : RdS S w (some ⟨g, 0, none⟩) cs :=
  .inr ⟨g, 0, rfl, hg, h.lt, fun j u hu => by rw [Nat.zero_add, h.cell j]; exact hu⟩
end
/-- n times the value z -/
def zs (n : Nat) (z : Value) : List Value := List.replicate n z
theorem zs_length (n : Nat) (z : Value) : (zs n z).length = n := by simp [zs]
theorem zs_at (n : Nat) (z : Value) (k : Nat) (h : k < n) : (zs n z)[k]? = some z := by simp [zs, h]
theorem run_mk {P : Program} (t e : TypeId) (i : TypeInfo) (z : Value) (bytes : Nat) (ht : P.underlying t = some (.slice e)) (hi : P.info? e = some i) (hz : i.zero = some z) (hz1 : i.size = 1) (hz2 : i.bytes = bytes) (hzc : z.cells = #[z])
    (n : Int) (k : Nat) (hn : n = k) (hb : bytes * k ≤ 281474976710656) (hk : k ≤ 9223372036854775807) (w : World) :
    (Instr.makeSlice t (.int .i64 n) (.int .i64 n)).run P w = .ok (.slice (some ⟨w.heap.size, 0, none⟩) k k) (w.alloc (.cells (zs k z).toArray e)) := by
  subst hn
  have hbb : (i.bytes : Int) * (k : Int) ≤ 281474976710656 := by
    rw [hz2]
    have h : ((bytes * k : Nat) : Int) ≤ 281474976710656 := by omega
    rwa [Int.natCast_mul] at h
  have hr := run_make (P := P) w t e i z ht hi hz .i64 .i64 k k (by omega) (by omega) hbb (by omega)
  simp only [Int.toNat_natCast] at hr
  rw [hr, hz1, hzc, Nat.mul_one]
  have : madeCells #[z] k = (zs k z).toArray := by
    apply Array.ext'
    rw [toList_madeCells_one]; simp [zs]
  rw [this]
theorem new_cell {W : World} {cs : List Value} {t : TypeId} {i b : Nat} {v : Value} (hb : b = W.heap.size) (hv : cs[i]? = some v) : (W.alloc (.cells cs.toArray t)).cell? ⟨b, i, none⟩ = some v := by
  subst hb; rw [(Blk.new W t cs).cell i, hv]
end Go.Dw
/- A world that lies over another one. -/
namespace Go.Dw
open Go.RowKit
def Gq (w W : World) : Prop := Below w.heap.size w W
theorem Gq.alloc {a b : World} (h : Gq a b) (o : Obj) : Gq a (b.alloc o) := Below.alloc h (Below.size h) o
theorem Gq.set {a b : World} (h : Gq a b) {p : Addr} (hp : a.heap.size ≤ p.block) (v : Value) : Gq a (b.setCell p v) := Below.setCell h hp v
theorem Gq.drew {a b : World} (h : Gq a b) : Gq a b.drew := Below.drew h
theorem Gq.refl (a : World) : Gq a a := Below.refl _ _
theorem Gq.trans {a b c : World} (h : Gq a b) (g : Gq b c) : Gq a c := Below.trans h (Below.mono g (Below.size h))
theorem Gq.rd {a b : World} (h : Gq a b) {A : Option Addr} {vs : List Value} (g : Rd a A vs) : Rd b A vs := g.below h
end Go.Dw
/- Strings that are equal, as Go compares them. -/
namespace Go.Proofs.YtmppccnioiodgaaGreatDoor
open Go.RowKit Go.Dw

theorem seq_t {a b : ByteArray} (h : a = b) : (a.toList == b.toList) = true := by rw [h]; simp
theorem seq_f {a b : ByteArray} (h : ¬ a = b) : (a.toList == b.toList) = false := by
  rw [ByteArray.toList_eq, ByteArray.toList_eq, beq_eq_false_iff_ne]; exact fun e => h (ba_ext e)
end Go.Proofs.YtmppccnioiodgaaGreatDoor
/- Plain words for numbers as words and as limbs, and for texts of ratios (no function of a program). -/
namespace Go.Proofs.YtmppccnioiodgaaGreatDoor
open Go.RowKit Go.Dw

theorem uc_cell {w : World} {A : Option Addr} {l : List Nat} (h : Rd w A (uc l)) (h0 : 0 < l.length) :
    ∃ b off, A = some ⟨b, off, none⟩ ∧ b < w.heap.size ∧ ∀ k, k < l.length → w.cell? ⟨b, off + k, none⟩ = some (.int .u32 (l.getD k 0 : Nat)) := by
  obtain ⟨b, off, e, hb, hc⟩ := h.at_ (by rw [uc_length]; exact h0)
  exact ⟨b, off, e, hb, fun k hk => hc k _ (uc_at l k hk)⟩
theorem trim_stop {l : List Nat} {k : Nat} (hk : k < l.length) (h : l.getD k 0 ≠ 0) : trimL (l.take (k + 1)) = l.take (k + 1) := by
  have e : l.take (k + 1) = l.take k ++ [l.getD k 0] := by
    rw [List.take_succ_eq_append_getElem hk, List.getD_eq_getElem?_getD, List.getElem?_eq_getElem hk]; rfl
  rw [e]; exact trimL_nonzero _ _ h
theorem trim_go {l : List Nat} {k : Nat} (hk : k < l.length) (h : l.getD k 0 = 0) : trimL (l.take (k + 1)) = trimL (l.take k) := by
  have e : l.take (k + 1) = l.take k ++ [l.getD k 0] := by
    rw [List.take_succ_eq_append_getElem hk, List.getD_eq_getElem?_getD, List.getElem?_eq_getElem hk]; rfl
  rw [e, h]; exact trimL_snoc0 _
/-- only draws -/
def Qd (w w' : World) : Prop := ∃ n, w' = w.drewN n
theorem Qd.refl (w : World) : Qd w w := ⟨0, rfl⟩
theorem Qd.below {w w' : World} (h : Qd w w') : Below w.heap.size w w' := by
  obtain ⟨n, rfl⟩ := h
  exact below_drewN (Below.refl _ _) n
theorem nat_of_trim {w : World} {A : Option Addr} {c : Nat} {l : List Nat} (h : Rd w A (uc l)) (hd : Ds W32 l) : NatV w (.slice A (trimL l).length c) (val W32 l) := by
  refine ⟨A, c, trimL l, rfl, ?_, trimL_nm hd, trimL_val l⟩
  rw [trimL_prefix l]
  rcases h with h | ⟨b, off, e, hb, hc⟩
  · have : l = [] := by simpa [uc] using h
    subst this; exact .inl rfl
  · refine .inr ⟨b, off, e, hb, fun j u hu => hc j u ?_⟩
    rw [← hu]
    have hj := (List.getElem?_eq_some_iff.1 hu).1
    simp only [uc, List.length_map, List.length_take] at hj
    simp only [uc, List.getElem?_map]
    rw [List.getElem?_take_of_lt (by omega)]
/-- what small says -/
def smN (n : Nat) : Nat := if n < 18446744073709551616 then n else 0
def smB (n : Nat) : Bool := decide (n < 18446744073709551616)
theorem sm_lt {n : Nat} (h : n < 18446744073709551616) : smN n = n ∧ smB n = true := ⟨by unfold smN; rw [if_pos h], by unfold smB; exact decide_eq_true h⟩
theorem sm_ge {n : Nat} (h : 18446744073709551616 ≤ n) : smN n = 0 ∧ smB n = false := ⟨by unfold smN; rw [if_neg (by omega)], by unfold smB; exact decide_eq_false (by omega)⟩
theorem or_nat (a b : Nat) (ha : a < 4294967296) (hb : b < 4294967296) : bits .or .u64 (a : Int) ((b : Int) * 4294967296) = ((a + b * 4294967296 : Nat) : Int) := by
  unfold bits
  show IntKind.u64.wrap (((BitVec.ofInt 64 (a : Int) ||| BitVec.ofInt 64 ((b : Int) * 4294967296)).toNat : Nat) : Int) = _
  have e : ((b : Int) * 4294967296) = ((b * 4294967296 : Nat) : Int) := by omega
  rw [e, BitVec.ofInt_natCast, BitVec.ofInt_natCast, BitVec.toNat_or, BitVec.toNat_ofNat, BitVec.toNat_ofNat, Nat.mod_eq_of_lt (by omega), Nat.mod_eq_of_lt (by omega)]
  have h1 : a ||| b * 4294967296 = a + b * 4294967296 := by
    rw [Nat.or_comm, Nat.mul_comm b, Nat.add_comm]
    exact (Nat.two_pow_add_eq_or_of_lt (i := 32) (by simpa using ha) b).symm
  rw [h1]
  exact IntWalk.u64_in _ (by omega)
theorem nat_len {l : List Nat} (h : Nm W32 l) : (l.length = 0 → val W32 l = 0) ∧ (l.length = 1 → val W32 l = l.getD 0 0) ∧ (l.length = 2 → val W32 l = l.getD 0 0 + l.getD 1 0 * 4294967296) ∧ (2 < l.length → 18446744073709551616 ≤ val W32 l) := by
  refine ⟨fun e => ?_, fun e => ?_, fun e => ?_, fun e => ?_⟩
  · rw [List.eq_nil_of_length_eq_zero e]; rfl
  · match l, e with
    | [a], _ => show a + W32 * 0 = a; omega
  · match l, e with
    | [a, b], _ => show a + 4294967296 * (b + 4294967296 * 0) = a + b * 4294967296; omega
  · have h1 := val_ge h (by omega)
    have h2 : W32 ^ 2 ≤ W32 ^ (l.length - 1) := Nat.pow_le_pow_right (by decide) (by omega)
    have h3 : W32 ^ 2 = 18446744073709551616 := by decide
    omega
def cmpN (a b : Nat) : Int := if a < b then -1 else if a = b then 0 else 1
theorem cmpN_lt {a b : Nat} (h : a < b) : cmpN a b = -1 := by unfold cmpN; rw [if_pos h]
theorem cmpN_gt {a b : Nat} (h : b < a) : cmpN a b = 1 := by unfold cmpN; rw [if_neg (by omega), if_neg (by omega)]
theorem cmpN_eq (a : Nat) : cmpN a a = 0 := by unfold cmpN; rw [if_neg (by omega), if_pos rfl]
def CmpRes (a b : Nat) (w : World) (e : Ending) (w' : World) : Prop := e = .returned (.int .i64 (cmpN a b)) ∧ Qd w w'
theorem Qd.more {w w' : World} (h : Qd w w') (n : Nat) : Qd w (w'.drewN n) := by
  obtain ⟨m, rfl⟩ := h
  exact ⟨m + n, by simp [World.drewN, Nat.add_assoc]⟩
theorem Blk.rd {w : World} {g : Nat} {t : TypeId} {cs : List Value} (h : Blk w g t cs) : Rd w (some ⟨g, 0, none⟩) cs := (h.rds (S := fun _ => True) trivial).rd
theorem mod32 (n : Nat) : ((n : Int) % 4294967296) = ((n % W32 : Nat) : Int) := by show _ = ((n % 4294967296 : Nat) : Int); omega
theorem div32 (n : Nat) : ((n : Int) / 4294967296) = ((n / W32 : Nat) : Int) := by show _ = ((n / 4294967296 : Nat) : Int); omega
theorem int_dig (s : Int) (h1 : -4294967297 ≤ s) (h2 : s < 4294967296) : ∃ d o : Nat, s % 4294967296 = (d : Int) ∧ s / 4294967296 = -(o : Int) ∧ d < W32 ∧ (s = (d : Int) - 4294967296 * o) ∧ o ≤ 2 := by
  refine ⟨(s % 4294967296).toNat, (-(s / 4294967296)).toNat, ?_, ?_, ?_, ?_, ?_⟩
  · omega
  · omega
  · show _ < 4294967296; omega
  · omega
  · omega
theorem getD_set_ne {l : List Nat} {i k d : Nat} (h : i ≠ k) : (l.set i d).getD k 0 = l.getD k 0 := by
  rw [List.getD_eq_getElem?_getD, List.getD_eq_getElem?_getD, List.getElem?_set_ne h]
theorem s0_of {s : ByteArray} (h : s.size = 0) : s = ⟨#[]⟩ := by
  apply ba_ext
  have : s.data.toList.length = 0 := by rw [Array.length_toList]; exact h
  rw [List.eq_nil_of_length_eq_zero this]
theorem s1_of {s : ByteArray} (h : s.size = 1) (h0 : ∀ h : 0 < s.size, s[0] = 48) : s = ⟨#[48]⟩ := by
  apply ba_ext
  have h1 : s.data.toList.length = 1 := by rw [Array.length_toList]; exact h
  obtain ⟨x, hx⟩ := List.length_eq_one_iff.1 h1
  have h2 := h0 (by omega)
  have h3 : s.data.toList[0]'(by omega) = 48 := by rw [Array.getElem_toList]; exact h2
  rw [hx]
  simp only [hx, List.getElem_cons_zero] at h3
  rw [h3]
theorem head_of {s : ByteArray} (h : 0 < s.size) : s.data.toList.head? = some s[0] := by
  rw [List.head?_eq_getElem?, List.getElem?_eq_getElem (by rw [Array.length_toList]; exact h), Array.getElem_toList]; rfl
theorem u8_48 (b : UInt8) : b = 48 ↔ b.toNat = 48 := by
  constructor
  · intro h; rw [h]; rfl
  · intro h; exact UInt8.toNat_inj.1 (by rw [h]; rfl)
theorem ratF_bad {s d : ByteArray} (h : rFrm s d = false) : ratF s d = 3 := by unfold ratF; rw [if_pos h]
theorem ratF_big {s d : ByteArray} (h : rFrm s d = true) (k : 2000 < (boT s).length ∨ 2000 < d.data.toList.length) : ratF s d = 2 := by
  unfold ratF; rw [if_neg (by rw [h]; decide), if_pos k]
theorem ratF_val {s d : ByteArray} (h : rFrm s d = true) (k : ¬ (2000 < (boT s).length ∨ 2000 < d.data.toList.length)) : ratF s d = if Nat.gcd (valD (boT s)) (valD d.data.toList) = 1 then 0 else 3 := by
  unfold ratF; rw [if_neg (by rw [h]; decide), if_neg k]
theorem lim_valD {l : List UInt8} (h : l.all isD = true) {n : Nat} (hn : l.length ≤ n) : Lim n (valD l) := by
  have h1 : Lim l.length (valD l) := Nat.lt_of_lt_of_le (valD_lt _ l rfl h) (Nat.pow_le_pow_left (by decide) _)
  exact h1.mono hn
end Go.Proofs.YtmppccnioiodgaaGreatDoor
/- The contracts of num.Nat's trim, natOf, One, small. -/
namespace Go.Proofs.YtmppccnioiodgaaGreatDoor
open Go.RowKit Go.Dw

set_option maxRecDepth 100000 in
set_option maxHeartbeats 2000000 in
theorem trimNt_any (A : Option Addr) (c : Nat) (l : List Nat) (w : World) (h : Rd w A (uc l)) (hl : l.length ≤ 1099511627776) (hc : l.length ≤ c) (hc2 : c ≤ 1099511627776) :
    Calls Tryz.prog 107 #[.slice A l.length c] w fun e w' => e = .returned (.slice A (trimL l).length c) ∧ w = w' := by
  have HR := Lib.hid h
  clear h
  go_enter Tryz.func107, Tryz.ntmps107
  go_wp2
  go_loop [0] (fun v => ∃ k : Nat, k ≤ l.length ∧ v = .slice A k c ∧ Hid (trimL (l.take k) = trimL l)) (fun v => match v with | .slice _ n _ => n | _ => 0)
  case atStart => exact ⟨l.length, Nat.le_refl _, rfl, by show _ = _; rw [List.take_length]⟩
  case round =>
    obtain ⟨k, hk, rfl, HT⟩ := hrel
    cases k with
    | zero =>
      have HE : Hid ((trimL l).length = 0) := by show _ = _; rw [← HT.out]; simp [trimL]
      go_wp2
      go_ret
      exact ⟨by rw [HE.out]; rfl, rfl⟩
    | succ k =>
      obtain ⟨b, off, rfl, hb, hcs⟩ := uc_cell HR.out (by omega)
      have d0 := hcs k (by omega)
      have H1 := Lib.hid (fun h => trim_stop (l := l) (k := k) (by omega) h)
      have H2 := Lib.hid (fun h => trim_go (l := l) (k := k) (by omega) h)
      clear hcs
      generalize l.getD k 0 = d at *
      by_cases hd : d = 0
      · subst hd
        go_wp2
        go_round
        case rel => exact ⟨k, by omega, by simp, by show _ = _; rw [← H2.out rfl]; exact HT.out⟩
        case measure => simp
      · have hd0 : ((d : Int) == 0) = false := by simpa using hd
        have HE : Hid ((trimL l).length = k + 1) := by show _ = _; rw [← HT.out, H1.out hd, List.length_take]; omega
        go_wp2
        go_ret
        exact ⟨by rw [HE.out]; rfl, rfl⟩
end Go.Proofs.YtmppccnioiodgaaGreatDoor
/- The contracts of num.natOf, One, small, Cmp. -/
namespace Go.Proofs.YtmppccnioiodgaaGreatDoor
open Go.RowKit Go.Dw

set_option maxRecDepth 100000 in
set_option maxHeartbeats 2000000 in
theorem natOf_any (n : Nat) (w : World) (hn : n < 18446744073709551616) :
    Calls Tryz.prog 102 #[.int .u64 (n : Int)] w fun e w' => ∃ v, e = .returned v ∧ NatV w' v n ∧ Below w.heap.size w w' := by
  have hD : Ds W32 [n % 4294967296, n / 4294967296] := by
    intro d hd
    simp at hd
    have : W32 = 4294967296 := rfl
    rcases hd with rfl | rfl <;> omega
  have HV : Hid (val W32 [n % 4294967296, n / 4294967296] = n) := by
    show n % 4294967296 + 4294967296 * (n / 4294967296 + 4294967296 * 0) = n
    omega
  have HD := Lib.hid hD
  have HW : Hid (Rd (w.alloc (.cells #[.int .u32 ((n : Int) % 4294967296), .int .u32 ((n : Int) / 4294967296)] 130)) (some ⟨w.heap.size, 0, none⟩) (uc [n % 4294967296, n / 4294967296])) := by
    show Rd _ _ _
    have := (Blk.new w 130 (uc [n % 4294967296, n / 4294967296])).rds (S := fun _ => True) trivial
    have := this.rd
    simpa [uc] using this
  clear hD
  go_enter Tryz.func102, Tryz.ntmps102
  go_wp2_with (go_at_call 107; refine (trimNt_any _ 2 [n % 4294967296, n / 4294967296] _ HW.out (by simp) (by simp) (by omega)).mono ?_; rintro e w' ⟨rfl, rfl⟩)
  go_ret
  refine ⟨_, rfl, ?_, (Below.refl _ _).alloc (Nat.le_refl _) _⟩
  have := nat_of_trim (c := 2) HW.out HD.out
  rw [HV.out] at this
  exact this
set_option maxRecDepth 100000 in
set_option maxHeartbeats 2000000 in
theorem one_any (w : World) :
    Calls Tryz.prog 88 #[] w fun e w' => ∃ v, e = .returned v ∧ NatV w' v 1 ∧ Below w.heap.size w w' := by
  go_enter Tryz.func88, Tryz.ntmps88
  go_wp2
  go_ret
  refine ⟨_, rfl, ⟨_, _, [1], rfl, ?_, ⟨by intro d hd; simp at hd; subst hd; decide, by simp⟩, rfl⟩, (Below.refl _ _).alloc (Nat.le_refl _) _⟩
  have := ((Blk.new w 130 (uc [1])).rds (S := fun _ => True) trivial).rd
  simpa [uc] using this
set_option maxRecDepth 100000 in
set_option maxHeartbeats 2000000 in
theorem small_any (v : Value) (n : Nat) (w : World) (h : NatV w v n) :
    Calls Tryz.prog 101 #[v] w fun e w' => e = .returned (.tuple #[.int .u64 (smN n : Nat), .bool (smB n)]) ∧ Qd w w' := by
  obtain ⟨A, c, l, rfl, hr, hn, rfl⟩ := h
  have HR := Lib.hid hr
  obtain ⟨n0, n1, n2, n3⟩ := nat_len hn
  have HN0 := Lib.hid n0
  have HN1 := Lib.hid n1
  have HN2 := Lib.hid n2
  have HN3 := Lib.hid n3
  have g0 := hn.1.getD (by decide) 0
  have g1 := hn.1.getD (by decide) 1
  have hw : W32 = 4294967296 := rfl
  rw [hw] at g0 g1
  clear hr hn hw n0 n1 n2 n3
  generalize hV : val W32 l = V at *
  clear hV
  by_cases c0 : l.length = 0
  · have e : l = [] := List.eq_nil_of_length_eq_zero c0
    subst e
    have e0 := HN0.out rfl
    subst e0
    clear HN0 HN1 HN2 HN3 HR g0 g1 c0
    go_enter Tryz.func101, Tryz.ntmps101
    go_wp2
    go_ret2
    exact ⟨rfl, Qd.refl _⟩
  · obtain ⟨b, off, rfl, hb, hcs⟩ := uc_cell HR.out (by omega)
    have d0 := hcs 0 (by omega)
    have d1 := fun h => hcs 1 h
    clear hcs HR HN0
    simp only [Nat.add_zero] at d0
    generalize l.getD 0 0 = x0 at *
    generalize l.getD 1 0 = x1 at *
    generalize hL : l.length = L at *
    clear hL
    by_cases c1 : L = 1
    · subst c1
      have e0 := HN1.out rfl
      subst e0
      have HS : Hid (smN V = V ∧ smB V = true) := sm_lt (by omega)
      clear HN1 HN2 HN3 d1 c0
      go_enter Tryz.func101, Tryz.ntmps101
      go_wp2
      go_ret2
      exact ⟨by rw [HS.out.1, HS.out.2]; rfl, Qd.refl _⟩
    · by_cases c2 : L = 2
      · subst c2
        have e0 := HN2.out rfl
        subst e0
        have d2 := d1 (by omega)
        have HS : Hid (smN (x0 + x1 * 4294967296) = x0 + x1 * 4294967296 ∧ smB (x0 + x1 * 4294967296) = true) := sm_lt (by omega)
        have HO := Lib.hid (or_nat x0 x1 g0 g1)
        clear HN1 HN2 HN3 d1 c0 c1
        go_enter Tryz.func101, Tryz.ntmps101
        go_wp2
        go_quiet (fail)
        go_wp2
        go_ret2
        exact ⟨by rw [HS.out.1, HS.out.2, ← HO.out]; rfl, _, rfl⟩
      · have e0 := HN3.out (by omega)
        have HS : Hid (smN V = 0 ∧ smB V = false) := sm_ge (by omega)
        clear HN1 HN2 HN3 d1 e0
        have t0 : ((L : Int) == 0) = false := by simp; omega
        have t1 : ((L : Int) == 1) = false := by simp; omega
        have t2 : ((L : Int) == 2) = false := by simp; omega
        go_enter Tryz.func101, Tryz.ntmps101
        go_wp2
        go_ret2
        exact ⟨by rw [HS.out.1, HS.out.2]; rfl, Qd.refl _⟩
end Go.Proofs.YtmppccnioiodgaaGreatDoor
/- The contract of (num.Nat).Cmp. -/
namespace Go.Proofs.YtmppccnioiodgaaGreatDoor
open Go.RowKit Go.Dw

set_option maxRecDepth 100000 in
set_option maxHeartbeats 2000000 in
theorem cmpN_any (va vb : Value) (a b : Nat) (w : World) (h : NatV w va a) (g : NatV w vb b) (k : Nat) (hk : Lim k a) (gk : Lim k b) (hk2 : k ≤ 1099511627776) :
    Calls Tryz.prog 78 #[va, vb] w (CmpRes a b w) := by
  obtain ⟨A, c, l, rfl, hr, hn, rfl⟩ := h
  obtain ⟨B, d, m, rfl, gr, gn, rfl⟩ := g
  have hL := Lim.len hn hk
  have gL := Lim.len gn gk
  have HR := Lib.hid hr
  have GR := Lib.hid gr
  have HLT : Hid (l.length < m.length → cmpN (val W32 l) (val W32 m) = -1) := fun e => cmpN_lt (Nm.lt_of_len (by decide) hn.1 gn e)
  have HGT : Hid (m.length < l.length → cmpN (val W32 l) (val W32 m) = 1) := fun e => cmpN_gt (Nm.lt_of_len (by decide) gn.1 hn e)
  have HAT : Hid (∀ k, m.length = l.length → k < l.length → l.drop (k + 1) = m.drop (k + 1) → (l.getD k 0 < m.getD k 0 → cmpN (val W32 l) (val W32 m) = -1) ∧ (m.getD k 0 < l.getD k 0 → cmpN (val W32 l) (val W32 m) = 1)) :=
    fun k hlm hkl hd => ⟨fun e => cmpN_lt (val_lt_at (by decide) hlm.symm hn.1 hkl hd e), fun e => cmpN_gt (val_lt_at (by decide) hlm gn.1 (by omega) hd.symm e)⟩
  have HEQ : Hid (l = m → cmpN (val W32 l) (val W32 m) = 0) := fun e => by rw [e]; exact cmpN_eq _
  clear hr gr hn gn hk gk
  unfold CmpRes
  generalize cmpN (val W32 l) (val W32 m) = r at *
  by_cases hlm : m.length = l.length
  case neg =>
    have ht : ((l.length : Int) != (m.length : Int)) = true := by simp; omega
    by_cases hlt : l.length < m.length
    · have e := HLT.out hlt
      subst e
      clear HLT HGT HAT HEQ
      go_enter Tryz.func78, Tryz.ntmps78
      go_wp2
      go_ret
      exact ⟨rfl, Qd.refl _⟩
    · have e := HGT.out (by omega)
      subst e
      clear HLT HGT HAT HEQ
      go_enter Tryz.func78, Tryz.ntmps78
      go_wp2
      go_ret
      exact ⟨rfl, Qd.refl _⟩
  case pos =>
    have HLM := Lib.hid hlm
    rw [hlm]
    generalize hLL : l.length = L at *
    clear hlm HLT HGT
    have HLL := Lib.hid hLL
    clear hLL
    go_enter Tryz.func78, Tryz.ntmps78
    go_wp2
    go_loopw [5] (fun v wr => ((∃ k : Nat, k < L ∧ v = .int .i64 (k : Int) ∧ Hid (l.drop (k + 1) = m.drop (k + 1))) ∨ (v = .int .i64 (-1) ∧ Hid (l = m))) ∧ Qd w wr) (fun v _ => (intOf v + 1).toNat)
    case atStart =>
      refine ⟨?_, Qd.refl _⟩
      cases L with
      | zero =>
        refine .inr ⟨by simp, ?_⟩
        show _ = _
        rw [List.eq_nil_of_length_eq_zero HLL.out, List.eq_nil_of_length_eq_zero HLM.out]
      | succ K =>
        refine .inl ⟨K, by omega, by go_num, ?_⟩
        show _ = _
        rw [List.drop_of_length_le (by have := HLL.out; omega), List.drop_of_length_le (by have := HLM.out; omega)]
    case round =>
      obtain ⟨hrel, q, rfl⟩ := hrel
      rcases hrel with ⟨k, hk, rfl, HD⟩ | ⟨rfl, HE⟩
      · obtain ⟨b1, o1, rfl, hb1, hc1⟩ := uc_cell HR.out (by have := HLL.out; omega)
        obtain ⟨b2, o2, rfl, hb2, hc2⟩ := uc_cell GR.out (by have := HLM.out; omega)
        have d1 := hc1 k (by have := HLL.out; omega)
        have d2 := hc2 k (by have := HLM.out; omega)
        have HA := Lib.hid (HAT.out k (by have := HLM.out; have := HLL.out; omega) (by have := HLL.out; omega) HD.out)
        have HN : Hid (l.getD k 0 = m.getD k 0 → l.drop k = m.drop k) := fun e => by
          have q1 := HLL.out
          have q2 := HLM.out
          have h1 : k < l.length := by omega
          have h2 : k < m.length := by omega
          rw [List.getD_eq_getElem?_getD, List.getD_eq_getElem?_getD, List.getElem?_eq_getElem h1, List.getElem?_eq_getElem h2] at e
          rw [List.drop_eq_getElem_cons h1, List.drop_eq_getElem_cons h2, HD.out]
          simp only [Option.getD_some] at e
          rw [e]
        clear hc1 hc2
        generalize l.getD k 0 = x at *
        generalize m.getD k 0 = y at *
        have z0 : (0 : Int) ≤ (k : Int) := by omega
        have z1 : (k : Int) < (L : Int) := by omega
        rcases Nat.lt_trichotomy x y with hxy | hxy | hxy
        · have e := HA.out.1 hxy
          subst e
          have t1 : ((x : Int) != (y : Int)) = true := by simp; omega
          clear HA HN HAT HEQ
          go_wp2
          go_quiet (fail)
          go_wp2
          go_quiet (fail)
          go_wp2
          go_ret
          exact ⟨rfl, Qd.more (Qd.more ⟨_, rfl⟩ _) _⟩
        · subst hxy
          have HM := Lib.hid (HN.out rfl)
          clear HA HN
          go_wp2
          go_quiet (fail)
          go_wp2
          go_roundw
          case rel =>
            refine ⟨?_, _, rfl⟩
            cases k with
            | zero => exact .inr ⟨by simp, by show _ = _; have := HM.out; simpa using this⟩
            | succ j => exact .inl ⟨j, by omega, by go_num, HM.out⟩
          case measure => simp [intOf]
        · have e := HA.out.2 hxy
          subst e
          have t1 : ((x : Int) != (y : Int)) = true := by simp; omega
          clear HA HN HAT HEQ
          go_wp2
          go_quiet (fail)
          go_wp2
          go_quiet (fail)
          go_wp2
          go_ret
          exact ⟨rfl, Qd.more (Qd.more ⟨_, rfl⟩ _) _⟩
      · have e := HEQ.out HE.out
        subst e
        go_wp2
        go_ret
        exact ⟨rfl, _, rfl⟩
end Go.Proofs.YtmppccnioiodgaaGreatDoor
/- Rows of words under way. -/
namespace Go.Proofs.YtmppccnioiodgaaGreatDoor
open Go.RowKit Go.Dw

/-- a row of words under way: p is done, n zeros are to come -/
def FillU (w : World) (g : Nat) (p : List Nat) (n : Nat) : Prop := Blk w g 130 (uc (p ++ List.replicate n 0))
theorem FillU.cell {w : World} {g n : Nat} {p : List Nat} (h : FillU w g p (n + 1)) : w.cell? ⟨g, p.length, none⟩ = some (.int .u32 0) ∧ w.frozen? ⟨g, p.length, none⟩ = false := by
  refine ⟨?_, Blk.frozen h _⟩
  rw [Blk.cell h, uc_at _ _ (by simp)]
  simp [List.getD_eq_getElem?_getD]
theorem FillU.set {w : World} {g n : Nat} {p : List Nat} (h : FillU w g p (n + 1)) (d : Nat) : FillU (w.setCell ⟨g, p.length, none⟩ (.int .u32 (d : Nat))) g (p ++ [d]) n := by
  have := Blk.set_ h p.length (.int .u32 (d : Nat))
  unfold FillU
  rw [← fill_set, uc_set]
  exact this
theorem FillU.start (w : World) (n : Nat) : FillU (w.alloc (.cells (zs n (.int .u32 0)).toArray 130)) w.heap.size [] n := by
  have := Blk.new w 130 (zs n (.int .u32 0))
  unfold FillU
  have e : uc ([] ++ List.replicate n 0) = zs n (.int .u32 0) := by simp [uc, zs]
  rw [e]; exact this
theorem infoU : (Tryz.prog.info? 130).map (fun i => (i.zero, i.size, i.bytes)) = some (some (.int .u32 0), 1, 4) := by kernel_rfl
theorem run_mkU (n : Int) (k : Nat) (hn : n = k) (hk : k ≤ 35184372088832) (w : World) :
    (Instr.makeSlice 102 (.int .i64 n) (.int .i64 n)).run Tryz.prog w = .ok (.slice (some ⟨w.heap.size, 0, none⟩) k k) (w.alloc (.cells (zs k (.int .u32 0)).toArray 130)) := by
  obtain ⟨i0, hi, hz0, hz1, hz2⟩ := info_parts infoU
  exact run_mk (P := Tryz.prog) 102 130 i0 (.int .u32 0) 4 Tryz.underlying102 hi hz0 hz1 hz2 rfl n k hn (by omega) (by omega) w
theorem lim_cap {k n : Nat} (h : Lim k n) (hk : k ≤ 1099511627776) : Lim 1099511627776 n := h.mono hk
end Go.Proofs.YtmppccnioiodgaaGreatDoor
/- The contracts of clock.digits and of the reference's number: whole numbers without a needless 0. -/
namespace Go.Proofs.YtmppccnioiodgaaGreatDoor
open Go.RowKit Go.Dw

set_option maxRecDepth 100000 in
set_option maxHeartbeats 2000000 in
theorem digits_any (s : ByteArray) (w : World) (hs : s.size ≤ 9223372036854775807) :
    Calls Tryz.prog 61 #[.string s] w fun e w' => e = .returned (.bool (noZ s.data.toList)) ∧ w = w' := by
  go_enter Tryz.func61, Tryz.ntmps61
  go_wp2_with fail
  go_loop [6] (fun i => ∃ k : Nat, k ≤ s.size ∧ i = .int .i64 k ∧ Hid ((s.data.toList.take k).all isD = true)) (fun i => s.size - (intOf i).toNat)
  case atStart => exact ⟨0, Nat.zero_le _, rfl, by simp [Hid]⟩
  case round =>
    obtain ⟨k, hk, rfl, HALL⟩ := hrel
    by_cases hlt : k < s.size
    case neg =>
      have hd : decide (k < s.size) = false := by simpa using hlt
      have HA : Hid (s.data.toList.all isD = true) := by
        show _ = _
        have := HALL.out
        rwa [List.take_of_length_le (by rw [Array.length_toList]; show s.size ≤ k; omega)] at this
      clear HALL
      by_cases h0 : s = ⟨#[48]⟩
      · have e1 : (s.toList == [48]) = true := by rw [ByteArray.toList_eq, h0]; rfl
        have HE : Hid (noZ s.data.toList = true) := by show _ = _; rw [h0]; rfl
        clear h0
        go_wp2_with fail
        go_ret
        exact ⟨ret_bool HE.out.symm, rfl⟩
      · have e1 : (s.toList == [48]) = false := by rw [ByteArray.toList_eq, beq_eq_false_iff_ne]; exact fun e => h0 (ba_ext e)
        by_cases hz : s.size = 0
        · have e2 : (s.toList == []) = true := by rw [ByteArray.toList_eq, s0_of hz]; rfl
          have HE : Hid (noZ s.data.toList = false) := by show _ = _; rw [s0_of hz]; rfl
          clear h0
          go_wp2_with fail
          go_ret
          exact ⟨ret_bool HE.out.symm, rfl⟩
        · have hp : 0 < s.size := by omega
          have e2 : (s.toList == []) = false := by rw [ByteArray.toList_eq, beq_eq_false_iff_ne]; exact fun e => hz (by rw [ba_ext (a := s) (b := ⟨#[]⟩) e]; rfl)
          have hne : s.data.toList ≠ [] := fun e => by have := congrArg List.length e; rw [Array.length_toList] at this; exact hz this
          by_cases h48 : (s[0]'hp).toNat = 48
          · have e3 : (((s[0]'hp).toNat : Int) != 48) = false := by simp [h48]
            have HE : Hid (noZ s.data.toList = false) := noZ_head (by rw [head_of hp, (u8_48 _).2 h48]) (fun e => h0 (ba_ext e))
            clear h0 h48
            go_wp2_with fail
            go_ret
            exact ⟨ret_bool HE.out.symm, rfl⟩
          · have e3 : (((s[0]'hp).toNat : Int) != 48) = true := by simp; omega
            have HE : Hid (noZ s.data.toList = true) := noZ_ok HA.out hne (by rw [head_of hp]; intro e; injection e with e; exact h48 ((u8_48 _).1 e))
            clear h0 h48
            go_wp2_with fail
            go_ret
            exact ⟨ret_bool HE.out.symm, rfl⟩
    have hd : decide (k < s.size) = true := by simpa using hlt
    have HS := Lib.hid (dgt_succ s k hlt)
    cases hv : isD s[k] with
    | true =>
      have HV : Hid ((s.data.toList.take (k + 1)).all isD = true) := by show _ = _; rw [HS.out, HALL.out, hv]; rfl
      obtain ⟨g1, g2⟩ := isD_bd hv
      clear hv
      have g1' : (48 : Int) ≤ (s[k].toNat : Int) := by omega
      have g2' : (s[k].toNat : Int) ≤ 57 := by omega
      go_wp2_with fail
      go_round
      case rel => exact ⟨k + 1, by omega, by go_num, HV⟩
      case measure => simp [intOf]; omega
    | false =>
      have HE : Hid (noZ s.data.toList = false) := noZ_bad (dgt_false s k hlt hv)
      have hcs : s[k].toNat < 48 ∨ 57 < s[k].toNat := by
        unfold isD at hv; simp at hv; omega
      clear hv
      rcases hcs with g1 | g1
      · have g1' : (s[k].toNat : Int) < 48 := by omega
        go_wp2_with fail
        go_ret
        exact ⟨ret_bool HE.out.symm, rfl⟩
      · have g1' : (57 : Int) < (s[k].toNat : Int) := by omega
        have g2' : (48 : Int) ≤ (s[k].toNat : Int) := by omega
        go_wp2_with fail
        go_ret
        exact ⟨ret_bool HE.out.symm, rfl⟩
end Go.Proofs.YtmppccnioiodgaaGreatDoor
