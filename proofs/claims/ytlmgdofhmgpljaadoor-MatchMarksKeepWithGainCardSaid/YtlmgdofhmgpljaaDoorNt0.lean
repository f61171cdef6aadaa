/- Plain words for numbers as words and as limbs, and for texts of ratios (no function of a program). -/
import Derived.Test.YtlmgdofhmgpljaaDoorRatP
import Derived.Test.YtlmgdofhmgpljaaDoorNatT
import Derived.Test.YtlmgdofhmgpljaaDoorRtoP
import Derived.Test.YtlmgdofhmgpljaaDoorStP
import Derived.Test.YtlmgdofhmgpljaaDoorTab
import Derived.Laws.NewBlocks
namespace Go.Proofs.YtlmgdofhmgpljaaDoor
open Go.RowKit Go.Dw

theorem uc_cell {w : World} {A : Option Addr} {l : List Nat} (h : Rd w A (uc l)) (h0 : 0 < l.length) :
    ∃ b off, A = some ⟨b, off, none⟩ ∧ b < w.heap.size ∧ ∀ k, k < l.length → w.cell? ⟨b, off + k, none⟩ = some (.int .u32 (l.getD k 0 : Nat)) := by
  obtain ⟨b, off, e, hb, hc⟩ := h.at_ (by rw [uc_length]; exact h0)
  exact ⟨b, off, e, hb, fun k hk => hc k _ (uc_at l k hk)⟩
theorem trim_stop {l : List Nat} {k : Nat} (hk : k < l.length) (h : l.getD k 0 ≠ 0) : trimL (l.take (k + 1)) = l.take (k + 1) := by
  have e : l.take (k + 1) = l.take k ++ [l.getD k 0] := by
    rw [List.take_succ_eq_append_getElem hk, List.getD_eq_getElem?_getD, List.getElem?_eq_getElem hk]; rfl
  rw [e]; exact trimL_nonzero _ _ h
theorem trim_go {l : List Nat} {k : Nat} (hk : k < l.length) (h : l.getD k 0 = 0) : trimL (l.take (k + 1)) = trimL (l.take k) := by
  have e : l.take (k + 1) = l.take k ++ [l.getD k 0] := by
    rw [List.take_succ_eq_append_getElem hk, List.getD_eq_getElem?_getD, List.getElem?_eq_getElem hk]; rfl
  rw [e, h]; exact trimL_snoc0 _
/-- only draws -/
def Qd (w w' : World) : Prop := ∃ n, w' = w.drewN n
theorem Qd.refl (w : World) : Qd w w := ⟨0, rfl⟩
theorem Qd.below {w w' : World} (h : Qd w w') : Below w.heap.size w w' := by
  obtain ⟨n, rfl⟩ := h
  exact below_drewN (Below.refl _ _) n
theorem nat_of_trim {w : World} {A : Option Addr} {c : Nat} {l : List Nat} (h : Rd w A (uc l)) (hd : Ds W32 l) : NatV w (.slice A (trimL l).length c) (val W32 l) := by
  refine ⟨A, c, trimL l, rfl, ?_, trimL_nm hd, trimL_val l⟩
  rw [trimL_prefix l]
  rcases h with h | ⟨b, off, e, hb, hc⟩
  · have : l = [] := by simpa [uc] using h
    subst this; exact .inl rfl
  · refine .inr ⟨b, off, e, hb, fun j u hu => hc j u ?_⟩
    rw [← hu]
    have hj := (List.getElem?_eq_some_iff.1 hu).1
    simp only [uc, List.length_map, List.length_take] at hj
    simp only [uc, List.getElem?_map]
    rw [List.getElem?_take_of_lt (by omega)]
/-- what small says -/
def smN (n : Nat) : Nat := if n < 18446744073709551616 then n else 0
def smB (n : Nat) : Bool := decide (n < 18446744073709551616)
theorem sm_lt {n : Nat} (h : n < 18446744073709551616) : smN n = n ∧ smB n = true := ⟨by unfold smN; rw [if_pos h], by unfold smB; exact decide_eq_true h⟩
theorem sm_ge {n : Nat} (h : 18446744073709551616 ≤ n) : smN n = 0 ∧ smB n = false := ⟨by unfold smN; rw [if_neg (by omega)], by unfold smB; exact decide_eq_false (by omega)⟩
theorem or_nat (a b : Nat) (ha : a < 4294967296) (hb : b < 4294967296) : bits .or .u64 (a : Int) ((b : Int) * 4294967296) = ((a + b * 4294967296 : Nat) : Int) := by
  unfold bits
  show IntKind.u64.wrap (((BitVec.ofInt 64 (a : Int) ||| BitVec.ofInt 64 ((b : Int) * 4294967296)).toNat : Nat) : Int) = _
  have e : ((b : Int) * 4294967296) = ((b * 4294967296 : Nat) : Int) := by omega
  rw [e, BitVec.ofInt_natCast, BitVec.ofInt_natCast, BitVec.toNat_or, BitVec.toNat_ofNat, BitVec.toNat_ofNat, Nat.mod_eq_of_lt (by omega), Nat.mod_eq_of_lt (by omega)]
  have h1 : a ||| b * 4294967296 = a + b * 4294967296 := by
    rw [Nat.or_comm, Nat.mul_comm b, Nat.add_comm]
    exact (Nat.two_pow_add_eq_or_of_lt (i := 32) (by simpa using ha) b).symm
  rw [h1]
  exact IntWalk.u64_in _ (by omega)
theorem nat_len {l : List Nat} (h : Nm W32 l) : (l.length = 0 → val W32 l = 0) ∧ (l.length = 1 → val W32 l = l.getD 0 0) ∧ (l.length = 2 → val W32 l = l.getD 0 0 + l.getD 1 0 * 4294967296) ∧ (2 < l.length → 18446744073709551616 ≤ val W32 l) := by
  refine ⟨fun e => ?_, fun e => ?_, fun e => ?_, fun e => ?_⟩
  · rw [List.eq_nil_of_length_eq_zero e]; rfl
  · match l, e with
    | [a], _ => show a + W32 * 0 = a; omega
  · match l, e with
    | [a, b], _ => show a + 4294967296 * (b + 4294967296 * 0) = a + b * 4294967296; omega
  · have h1 := val_ge h (by omega)
    have h2 : W32 ^ 2 ≤ W32 ^ (l.length - 1) := Nat.pow_le_pow_right (by decide) (by omega)
    have h3 : W32 ^ 2 = 18446744073709551616 := by decide
    omega
def cmpN (a b : Nat) : Int := if a < b then -1 else if a = b then 0 else 1
theorem cmpN_lt {a b : Nat} (h : a < b) : cmpN a b = -1 := by unfold cmpN; rw [if_pos h]
theorem cmpN_gt {a b : Nat} (h : b < a) : cmpN a b = 1 := by unfold cmpN; rw [if_neg (by omega), if_neg (by omega)]
theorem cmpN_eq (a : Nat) : cmpN a a = 0 := by unfold cmpN; rw [if_neg (by omega), if_pos rfl]
def CmpRes (a b : Nat) (w : World) (e : Ending) (w' : World) : Prop := e = .returned (.int .i64 (cmpN a b)) ∧ Qd w w'
theorem Qd.more {w w' : World} (h : Qd w w') (n : Nat) : Qd w (w'.drewN n) := by
  obtain ⟨m, rfl⟩ := h
  exact ⟨m + n, by simp [World.drewN, Nat.add_assoc]⟩
theorem Blk.rd {w : World} {g : Nat} {t : TypeId} {cs : List Value} (h : Blk w g t cs) : Rd w (some ⟨g, 0, none⟩) cs := (h.rds (S := fun _ => True) trivial).rd
theorem mod32 (n : Nat) : ((n : Int) % 4294967296) = ((n % W32 : Nat) : Int) := by show _ = ((n % 4294967296 : Nat) : Int); omega
theorem div32 (n : Nat) : ((n : Int) / 4294967296) = ((n / W32 : Nat) : Int) := by show _ = ((n / 4294967296 : Nat) : Int); omega
theorem int_dig (s : Int) (h1 : -4294967297 ≤ s) (h2 : s < 4294967296) : ∃ d o : Nat, s % 4294967296 = (d : Int) ∧ s / 4294967296 = -(o : Int) ∧ d < W32 ∧ (s = (d : Int) - 4294967296 * o) ∧ o ≤ 2 := by
  refine ⟨(s % 4294967296).toNat, (-(s / 4294967296)).toNat, ?_, ?_, ?_, ?_, ?_⟩
  · omega
  · omega
  · show _ < 4294967296; omega
  · omega
  · omega
theorem getD_set_ne {l : List Nat} {i k d : Nat} (h : i ≠ k) : (l.set i d).getD k 0 = l.getD k 0 := by
  rw [List.getD_eq_getElem?_getD, List.getD_eq_getElem?_getD, List.getElem?_set_ne h]
theorem s0_of {s : ByteArray} (h : s.size = 0) : s = ⟨#[]⟩ := by
  apply ba_ext
  have : s.data.toList.length = 0 := by rw [Array.length_toList]; exact h
  rw [List.eq_nil_of_length_eq_zero this]
theorem s1_of {s : ByteArray} (h : s.size = 1) (h0 : ∀ h : 0 < s.size, s[0] = 48) : s = ⟨#[48]⟩ := by
  apply ba_ext
  have h1 : s.data.toList.length = 1 := by rw [Array.length_toList]; exact h
  obtain ⟨x, hx⟩ := List.length_eq_one_iff.1 h1
  have h2 := h0 (by omega)
  have h3 : s.data.toList[0]'(by omega) = 48 := by rw [Array.getElem_toList]; exact h2
  rw [hx]
  simp only [hx, List.getElem_cons_zero] at h3
  rw [h3]
theorem head_of {s : ByteArray} (h : 0 < s.size) : s.data.toList.head? = some s[0] := by
  rw [List.head?_eq_getElem?, List.getElem?_eq_getElem (by rw [Array.length_toList]; exact h), Array.getElem_toList]; rfl
theorem u8_48 (b : UInt8) : b = 48 ↔ b.toNat = 48 := by
  constructor
  · intro h; rw [h]; rfl
  · intro h; exact UInt8.toNat_inj.1 (by rw [h]; rfl)
theorem ratF_bad {s d : ByteArray} (h : rFrm s d = false) : ratF s d = 3 := by unfold ratF; rw [if_pos h]
theorem ratF_big {s d : ByteArray} (h : rFrm s d = true) (k : 2000 < (boT s).length ∨ 2000 < d.data.toList.length) : ratF s d = 2 := by
  unfold ratF; rw [if_neg (by rw [h]; decide), if_pos k]
theorem ratF_val {s d : ByteArray} (h : rFrm s d = true) (k : ¬ (2000 < (boT s).length ∨ 2000 < d.data.toList.length)) : ratF s d = if Nat.gcd (valD (boT s)) (valD d.data.toList) = 1 then 0 else 3 := by
  unfold ratF; rw [if_neg (by rw [h]; decide), if_neg k]
theorem lim_valD {l : List UInt8} (h : l.all isD = true) {n : Nat} (hn : l.length ≤ n) : Lim n (valD l) := by
  have h1 : Lim l.length (valD l) := Nat.lt_of_lt_of_le (valD_lt _ l rfl h) (Nat.pow_le_pow_left (by decide) _)
  exact h1.mono hn
end Go.Proofs.YtlmgdofhmgpljaaDoor
