/- The contract of the reference's digits. -/
import Derived.Test.YtlmgdofhmgpljaaDoorLmbI
import Derived.Test.YtlmgdofhmgpljaaDoorPow
import Derived.Test.YtlmgdofhmgpljaaDoorShRep
namespace Go.Proofs.YtlmgdofhmgpljaaDoor
open Go.RowKit Go.Dw

theorem txt4_top {l : List Nat} {k : Nat} (h : l.length = k + 1) : txt4 (l.drop k) = Lib.decDigits (l.getD k 0) := by
  rw [List.drop_eq_getElem_cons (by omega), List.drop_of_length_le (by omega), List.getD_eq_getElem?_getD, List.getElem?_eq_getElem (by omega)]
  simp [txt4]
theorem txt4_drop {l : List Nat} {i : Nat} (h : i + 1 < l.length) : txt4 (l.drop i) = txt4 (l.drop (i + 1)) ++ pad4 (l.getD i 0) := by
  rw [List.drop_eq_getElem_cons (by omega : i < l.length), List.getD_eq_getElem?_getD, List.getElem?_eq_getElem (by omega)]
  have hne : (l.drop (i + 1)).reverse ≠ [] := by
    intro e
    have := congrArg List.length e
    simp at this
    omega
  unfold txt4
  rw [List.reverse_cons]
  cases hr : (l.drop (i + 1)).reverse with
  | nil => exact absurd hr hne
  | cons t r => simp [List.flatMap_append]
theorem txt4_len : ∀ (l : List Nat), Ds L4 l → (txt4 l).length ≤ 4 * l.length + 1 := fun l h => by
  unfold txt4
  cases hr : l.reverse with
  | nil => simp
  | cons t r =>
    have hl : l = r.reverse ++ [t] := by rw [← List.reverse_reverse l, hr]; simp
    obtain ⟨f1, _⟩ := flat4 r (fun x hx => h x (by rw [hl]; simp [hx]))
    have ht : t < L4 := h t (by rw [hl]; simp)
    have := dec_len 4 t (by omega) ht
    simp only [List.length_append, f1]
    rw [hl]; simp; omega
theorem rep48 : ∀ c, Lib.repeatL [48] c = List.replicate c 48
  | 0 => rfl
  | c + 1 => by rw [Lib.repeatL, rep48 c]; rfl
set_option maxRecDepth 100000 in
theorem ext105 : Builder.Extra Tryd.prog Tryd.lays105_ren where
  sizeBuilder := by kernel_rfl
  liesBuilder := by kernel_rfl
  t5 := Tryd.underlying5
  a5 := Tryd.isAgg5
  z5 := Tryd.sizeOf5
  v5 := Tryd.zeroValue5
  infoByte := by kernel_rfl
  cellsByte := by kernel_rfl
  sizeByte := by kernel_rfl
  neB5 := by decide
theorem rep_any (c : Nat) (w : World) (hc : c ≤ 10000000) :
    Calls Tryd.prog 50 #[.string ⟨#[48]⟩, .int .i64 (c : Int)] w fun e w' => e = .returned (.string ⟨(List.replicate c (48 : UInt8)).toArray⟩) ∧ Below w.heap.size w w' := by
  have := Any.strings_Repeat Tryd.lays105 ext105 ⟨#[48]⟩ c w (by omega) (by show 1 * c ≤ _; omega)
  rw [show Lib.repeatL (⟨#[48]⟩ : ByteArray).data.toList c = List.replicate c 48 from rep48 c] at this
  exact this
def StrRes (l : List UInt8) (w : World) (e : Ending) (w' : World) : Prop := e = .returned (.string ⟨l.toArray⟩) ∧ Below w.heap.size w w'
theorem str_app (x y : List UInt8) : (⟨x.toArray⟩ : ByteArray) ++ ⟨y.toArray⟩ = ⟨(x ++ y).toArray⟩ := by
  apply ba_ext; simp
theorem str_size (x : List UInt8) : (⟨x.toArray⟩ : ByteArray).size = x.length := by
  show x.toArray.size = _; simp
set_option maxRecDepth 100000 in
set_option maxHeartbeats 8000000 in
theorem digitsR_any (v : Value) (n : Nat) (w : World) (h : LimV w v n) (k : Nat) (hk : Lim k n) (hk2 : k ≤ 1000000) (hp : HasPow w) :
    Calls Tryd.prog 42 #[v] w (StrRes (Lib.decDigits n) w) := by
  obtain ⟨A, c, l, rfl, hr, hn, rfl⟩ := h
  have hL := Lim.len4 hn hk
  have HT := Lib.hid (txt4_dec hn)
  rw [← HT.out]
  have HR := Lib.hid hr
  have HDl := Lib.hid hn.1
  have HP := Lib.hid hp
  clear hr hn hk hp HT
  by_cases h0 : l.length = 0
  · have hl : l = [] := List.eq_nil_of_length_eq_zero h0
    subst hl
    go_enter Tryd.func42, Tryd.ntmps42
    go_wp2_with fail
    go_ret
    exact ⟨rfl, Below.refl _ _⟩
  obtain ⟨K, hK⟩ : ∃ K, l.length = K + 1 := ⟨l.length - 1, by omega⟩
  have HK := Lib.hid hK
  obtain ⟨b1, o1, rfl, hb1, hc1⟩ := nc_cell HR.out (by omega)
  have d1 := hc1 K (by omega)
  have hz : ((l.length : Int) == 0) = false := by rw [beq_eq_false_iff_ne]; omega
  have t0 := txt4_top hK
  have i0 : IntKind.i64.wrap ((l.length : Int) - 1) = (K : Int) := by rw [hK, show (((K + 1 : Nat) : Int) - 1) = (K : Int) by omega]; exact IntWalk.i64_in _ (by omega)
  have i1 : IntKind.i64.wrap ((l.length : Int) - 2) = (K : Int) - 1 := by rw [hK, show (((K + 1 : Nat) : Int) - 2) = (K : Int) - 1 by omega]; exact IntWalk.i64_in _ (by omega)
  have i2 : (K : Int) < (l.length : Int) := by omega
  have i3 : (0 : Int) ≤ (K : Int) := by omega
  have HIT : Hid (∀ W j, Below w.heap.size w W → Calls Tryd.prog 20 #[.int .i64 (l.getD j 0 : Nat)] W fun e w' => e = .returned (.string ⟨(Lib.decDigits (l.getD j 0)).toArray⟩) ∧ Below W.heap.size W w') := fun W j hW => by
    have q1 := HDl.out.getD (by decide) j
    have q2 : L4 = 10000 := rfl
    rw [q2] at q1
    exact itoaN_any _ W (by omega) (HP.out.below hW)
  have HI0 := Lib.hid (HIT.out w K (Below.refl _ _))
  have HC1 := Lib.hid hc1
  have HT0 : Hid (Lib.decDigits (l.getD K 0) = txt4 (l.drop K)) := t0.symm
  clear hc1 t0
  generalize l.getD K 0 = dK at *
  clear hK h0
  go_enter Tryd.func42, Tryd.ntmps42
  go_wp2_with fail
  refine HI0.out.mono ?_
  rintro e w2 ⟨rfl, hb2⟩
  rw [HT0.out]
  have HB2 := Lib.hid hb2
  clear hb2 HI0
  go_wp2_with fail
  go_loopw [3, 4, 5] (fun sv iv _ wr => ∃ i : Nat, i ≤ K ∧ iv = .int .i64 ((i : Int) - 1) ∧ sv = .string ⟨(txt4 (l.drop i)).toArray⟩ ∧ Hid (Below w.heap.size w wr)) (fun _ iv _ _ => (intOf iv + 1).toNat)
  case atStart => exact ⟨K, Nat.le_refl _, by go_num, rfl, HB2⟩
  case round =>
    clear HB2
    obtain ⟨i, hi, rfl, rfl, HB⟩ := hrel
    cases i with
    | zero =>
      rw [List.drop_zero]
      go_wp2_with fail
      go_ret
      exact ⟨rfl, HB.out⟩
    | succ i =>
      have x1 := HDl.out.getD (by decide) i
      have HST := Lib.hid (txt4_drop (l := l) (i := i) (by have := HK.out; omega))
      obtain ⟨x, hx⟩ : ∃ x, l.getD i 0 = x := ⟨_, rfl⟩
      have d2 : wr.cell? ⟨b1, o1 + i, none⟩ = some (.int .i64 (x : Int)) := by rw [← hx, HB.out.cell (by exact hb1)]; exact HC1.out i (by have := HK.out; omega)
      have HIX := Lib.hid (HIT.out wr i HB.out)
      rw [hx] at x1 HST HIX
      clear hx
      have hxl := dec_len 4 x (by omega) x1
      obtain ⟨P, hP⟩ : ∃ P, P = Lib.decDigits x := ⟨_, rfl⟩
      have HPD : Hid (pad4 x = List.replicate (4 - P.length) 48 ++ P) := by show _ = _; rw [hP]; rfl
      have hTL := txt4_len (l.drop (i + 1)) (fun d hd => HDl.out d (List.drop_subset _ _ hd))
      rw [List.length_drop] at hTL
      rw [← hP] at HIX hxl
      obtain ⟨r, hr⟩ : ∃ r : Nat, r = 4 - P.length := ⟨_, rfl⟩
      rw [← hr] at HPD
      have W0 : ((⟨P.toArray⟩ : ByteArray).size : Int) = (P.length : Int) := by rw [str_size]
      have W1 : IntKind.i64.wrap (4 - (P.length : Int)) = (r : Int) := by rw [show (4 : Int) - (P.length : Int) = (r : Int) by omega]; exact IntWalk.i64_in _ (by omega)
      have j0 : decide ((0 : Int) ≤ (i : Int) + 1 - 1) = true := decide_eq_true (by omega)
      have j1 : (i : Int) + 1 - 1 = (i : Int) := by omega
      have j2 : (i : Int) < (l.length : Int) := by have := HK.out; omega
      have j3 : (0 : Int) ≤ (i : Int) := by omega
      have hr4 : r ≤ 4 := by omega
      clear hP hr x1
      go_wp2_with fail
      refine HIX.out.mono ?_
      rintro e w3 ⟨rfl, hb3⟩
      have HB3 := Lib.hid (HB.out.trans (hb3.mono HB.out.size))
      clear hb3 HIX HB d2
      go_wp2_with fail
      refine (rep_any r w3 (by omega)).mono ?_
      rintro e w4 ⟨rfl, hb4⟩
      have HB4 := Lib.hid (HB3.out.trans (hb4.mono HB3.out.size))
      have e3 : ((⟨(txt4 (l.drop (i + 1))).toArray⟩ : ByteArray) ++ ((⟨Array.replicate r 48⟩ : ByteArray) ++ ⟨P.toArray⟩)) = ⟨(txt4 (l.drop i)).toArray⟩ := by rw [HST.out, HPD.out]; apply ba_ext; simp
      clear hb4 HB3
      go_wp2_with fail
      go_roundw
      case rel => exact ⟨i, by omega, by go_num, rfl, HB4⟩
      case measure => simp [intOf]
end Go.Proofs.YtlmgdofhmgpljaaDoor
