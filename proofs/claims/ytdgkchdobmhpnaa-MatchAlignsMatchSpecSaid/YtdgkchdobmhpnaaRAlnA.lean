/- The reference's table: plain; the contracts of both and lists. -/
import Derived.Test.YtdgkchdobmhpnaaAlnG
namespace Go.Proofs.Ytdgkchdobmhpnaa
open Go.RowKit Go.Dw
attribute [local go_sem ↓] Go.wp_at_zero Go.wp_at_succ

/-- a score as one number -/
def enc1 (s : Scr) : Int := 1000 * s.1 - s.2
theorem enc_sel {s t : Scr} (h1 : 0 ≤ s.2) (h2 : s.2 ≤ 900) (h3 : 0 ≤ t.2) (h4 : t.2 ≤ 900) : enc1 (sel s t) = min (enc1 s) (enc1 t) := by
  unfold sel enc1
  split
  · rename_i h; rw [bfr_iff] at h; omega
  · rename_i h; rw [bfr_iff] at h; omega
theorem sel_fit {s t : Scr} (h1 : 0 ≤ s.2) (h2 : s.2 ≤ 900) (h3 : 0 ≤ t.2) (h4 : t.2 ≤ 900) : 0 ≤ (sel s t).2 ∧ (sel s t).2 ≤ 900 := by
  rcases sel_or s t with h | h <;> rw [h] <;> omega
theorem enc_inj {s t : Scr} (h1 : 0 ≤ s.2) (h2 : s.2 ≤ 900) (h3 : 0 ≤ t.2) (h4 : t.2 ≤ 900) : enc1 s = enc1 t ↔ s.1 = t.1 ∧ s.2 = t.2 := by
  unfold enc1; omega
/-- an entry of the reference's table -/
def te (x : Two) (i j : Nat) : Int := enc1 (bst x.g x.a x.b i j)
def rc0 (x : Two) (i j : Nat) : Int := x.g * 1000 * ((x.a.length : Int) - i + x.b.length - j)
def rc1 (x : Two) (i j : Nat) : Int := if i < x.a.length then min (rc0 x i j) (te x (i + 1) j + x.g * 1000) else rc0 x i j
def rc2 (x : Two) (i j : Nat) : Int := if j < x.b.length then min (rc1 x i j) (te x i (j + 1) + x.g * 1000) else rc1 x i j
def rc3 (x : Two) (i j : Nat) : Int := if i < x.a.length ∧ j < x.b.length then min (rc2 x i j) (te x (i + 1) (j + 1) + bd (x.a.getD i 0) (x.b.getD j 0) * 1000 - 1) else rc2 x i j
theorem mul_1000 (g n : Int) : g * 1000 * n = 1000 * (g * n) := by rw [Int.mul_comm g 1000, Int.mul_assoc]
theorem rc_eq {x : Two} (hf : x.Fine) (i j : Nat) (hi : i ≤ x.a.length) (hj : j ≤ x.b.length) : rc3 x i j = te x i j := by
  have hb := hf.bd
  have e0 : enc1 (ce0 x i j) = rc0 x i j := by unfold enc1 ce0 rc0; simp only; rw [mul_1000]; omega
  have eD : enc1 (skp (bst x.g x.a x.b (i + 1) j) x.g) = te x (i + 1) j + x.g * 1000 := by unfold te enc1 skp; simp only; omega
  have eR : enc1 (skp (bst x.g x.a x.b i (j + 1)) x.g) = te x i (j + 1) + x.g * 1000 := by unfold te enc1 skp; simp only; omega
  have eL : enc1 (lkS x.g x.a x.b i j) = te x (i + 1) (j + 1) + bd (x.a.getD i 0) (x.b.getD j 0) * 1000 - 1 := by unfold te enc1 lkS; simp only; omega
  have f0 : 0 ≤ (ce0 x i j).2 ∧ (ce0 x i j).2 ≤ 900 := by unfold ce0; simp
  have fD : 0 ≤ (skp (bst x.g x.a x.b (i + 1) j) x.g).2 ∧ (skp (bst x.g x.a x.b (i + 1) j) x.g).2 ≤ 900 := by have := hb (i + 1) j; unfold skp; simp only; omega
  have fR : 0 ≤ (skp (bst x.g x.a x.b i (j + 1)) x.g).2 ∧ (skp (bst x.g x.a x.b i (j + 1)) x.g).2 ≤ 900 := by have := hb i (j + 1); unfold skp; simp only; omega
  have fL : 0 ≤ (lkS x.g x.a x.b i j).2 ∧ (lkS x.g x.a x.b i j).2 ≤ 900 := by have := hb (i + 1) (j + 1); unfold lkS; simp only; omega
  have k1 : enc1 (ce1 x i j) = (if i < x.a.length ∧ j < x.b.length then min (rc0 x i j) (te x (i + 1) (j + 1) + bd (x.a.getD i 0) (x.b.getD j 0) * 1000 - 1) else rc0 x i j) ∧ 0 ≤ (ce1 x i j).2 ∧ (ce1 x i j).2 ≤ 900 := by
    unfold ce1
    split
    · rw [enc_sel f0.1 f0.2 fL.1 fL.2, e0, eL]; exact ⟨rfl, sel_fit f0.1 f0.2 fL.1 fL.2⟩
    · exact ⟨e0, f0⟩
  have k2 : enc1 (ce2 x i j) = (if i < x.a.length then min (enc1 (ce1 x i j)) (te x (i + 1) j + x.g * 1000) else enc1 (ce1 x i j)) ∧ 0 ≤ (ce2 x i j).2 ∧ (ce2 x i j).2 ≤ 900 := by
    unfold ce2
    split
    · rw [enc_sel k1.2.1 k1.2.2 fD.1 fD.2, eD]; exact ⟨rfl, sel_fit k1.2.1 k1.2.2 fD.1 fD.2⟩
    · exact ⟨rfl, k1.2⟩
  have k3 : enc1 (ce3 x i j) = (if j < x.b.length then min (enc1 (ce2 x i j)) (te x i (j + 1) + x.g * 1000) else enc1 (ce2 x i j)) := by
    unfold ce3
    split
    · rw [enc_sel k2.2.1 k2.2.2 fR.1 fR.2, eR]
    · rfl
  have kk : te x i j = enc1 (ce3 x i j) := by unfold te; rw [ce_eq x i j hi hj]
  rw [kk, k3, k2.1, k1.1]
  unfold rc3 rc2 rc1
  by_cases h1 : i < x.a.length <;> by_cases h2 : j < x.b.length <;> simp [h1, h2] <;> omega
theorem te_bd {x : Two} (hf : x.Fine) (i j : Nat) : -300 ≤ te x i j ∧ te x i j ≤ 60000000 := by
  have := hf.bd i j
  unfold te enc1; omega
theorem rc0_bd {x : Two} (hf : x.Fine) (i j : Nat) (hi : i ≤ x.a.length) (hj : j ≤ x.b.length) : 0 ≤ rc0 x i j ∧ rc0 x i j ≤ 60000000 := by
  obtain ⟨h1, h2, h3, h4, _⟩ := hf
  unfold rc0
  rw [mul_1000]
  have : x.g * ((x.a.length : Int) - i + x.b.length - j) ≤ 100 * 600 := Int.mul_le_mul h4 (by omega) (by omega) (by omega)
  have : 0 ≤ x.g * ((x.a.length : Int) - i + x.b.length - j) := Int.mul_nonneg h3 (by omega)
  omega
/-- no further link -/
theorem te_none {x : Two} (hf : x.Fine) (i j : Nat) (hi : i ≤ x.a.length) (hj : j ≤ x.b.length) : te x i j = rc0 x i j ↔ (bst x.g x.a x.b i j).2 = 0 := by
  have h1 := hf.bd i j
  have h2 := (bst_fit (a := x.a) (b := x.b) hf.2.2.1 i j)
  have e0 : enc1 (ce0 x i j) = rc0 x i j := by unfold enc1 ce0 rc0; simp only; rw [mul_1000]; omega
  have e1 : x.g * ((x.a.length : Int) - i + x.b.length - j) = x.g * (((x.a.length - i : Nat) : Int) + ((x.b.length - j : Nat) : Int)) := by congr 1; omega
  unfold te
  rw [← e0, enc_inj h1.2.2.1 (by omega) (by simp [ce0]) (by simp [ce0])]
  constructor
  · intro h; exact h.2
  · intro h
    refine ⟨?_, h⟩
    rw [h2.2.2.2.2.2 h, ← e1]; rfl
theorem te_hit {x : Two} (hf : x.Fine) (i j p q : Nat) : hitB x.g x.a x.b i j p q = decide (x.g * 1000 * ((p : Int) - i + q - j) + bd (x.a.getD p 0) (x.b.getD q 0) * 1000 - 1 + te x (p + 1) (q + 1) = te x i j) := by
  have h1 := hf.bd i j
  have h2 := hf.bd (p + 1) (q + 1)
  have e1 : x.g * 1000 * ((p : Int) - i + q - j) + bd (x.a.getD p 0) (x.b.getD q 0) * 1000 - 1 + te x (p + 1) (q + 1) = enc1 ((lkS x.g x.a x.b p q).1 + x.g * ((p : Int) - i + q - j), (lkS x.g x.a x.b p q).2) := by
    unfold enc1 te enc1 lkS
    simp only
    rw [mul_1000]; omega
  unfold hitB
  rw [e1]
  unfold te
  rw [decide_eq_decide]
  exact (enc_inj (s := ((lkS x.g x.a x.b p q).1 + x.g * ((p : Int) - i + q - j), (lkS x.g x.a x.b p q).2)) (by unfold lkS; simp only; omega) (by unfold lkS; simp only; omega) h1.2.2.1 (by omega)).symm

def bothF (a b : List Int) : Int := if chk a ≠ 0 then chk a else chk b
theorem rboth_any (Aa Ab : Option Addr) (ca cb : Nat) (a b : List Int) (w : World) (ha : Rd w Aa (ic a)) (hb : Rd w Ab (ic b)) (hna : a.length ≤ 9223372036854775807) (hnb : b.length ≤ 9223372036854775807) :
    Calls Try.prog 55 #[.slice Aa a.length ca, .slice Ab b.length cb] w fun e w' => e = .returned (.int .i64 (bothF a b)) ∧ w = w' := by
  have HA := Lib.hid (check_any Aa ca a w ha hna)
  have HB := Lib.hid (check_any Ab cb b w hb hnb)
  clear ha hb
  by_cases hz : chk a = 0
  · have HE : Hid (bothF a b = chk b) := by show _ = _; unfold bothF; rw [if_neg (fun h => h hz)]
    rw [hz] at HA
    clear hz
    go_enter Try.func55, Try.ntmps55
    go_wp2_with fail
    refine HA.out.mono ?_
    rintro e w' ⟨rfl, rfl⟩
    go_wp2_with fail
    refine HB.out.mono ?_
    rintro e w' ⟨rfl, rfl⟩
    go_wp2_with fail
    go_ret
    exact ⟨ret_int HE.out.symm, rfl⟩
  · have HE : Hid (bothF a b = chk a) := by show _ = _; unfold bothF; rw [if_pos hz]
    have hzb : (chk a != 0) = true := by simpa using hz
    clear hz
    go_enter Try.func55, Try.ntmps55
    go_wp2_with fail
    refine HA.out.mono ?_
    rintro e w' ⟨rfl, rfl⟩
    go_wp2_with fail
    go_ret
    exact ⟨ret_int HE.out.symm, rfl⟩
set_option maxHeartbeats 1000000 in
theorem rlists_any (Aa Ab : Option Addr) (ca cb : Nat) (a b : List Int) (g : Int) (w : World) (ha : Rd w Aa (ic a)) (hb : Rd w Ab (ic b)) (hna : a.length ≤ 9223372036854775807) (hnb : b.length ≤ 9223372036854775807) :
    Calls Try.prog 43 #[.slice Aa a.length ca, .slice Ab b.length cb, .int .i64 g] w fun e w' => e = .returned (.int .i64 (chA a b g)) ∧ w = w' := by
  have HBO := Lib.hid (rboth_any Aa Ab ca cb a b w ha hb hna hnb)
  clear ha hb
  obtain ⟨f, hf⟩ : ∃ f, bothF a b = f := ⟨_, rfl⟩
  rw [hf] at HBO
  unfold bothF at hf
  by_cases hz : f = 0
  case neg =>
    have HR : Hid (chA a b g = f) := by
      show _ = _
      rw [← hf] at hz ⊢
      unfold chA
      by_cases h1 : chk a = 0
      · rw [if_neg (fun h => h h1)] at hz ⊢
        rw [if_pos hz, if_neg (fun h => h h1)]
      · rw [if_pos h1, if_pos h1]
    have hzb : (f != 0) = true := by simpa using hz
    clear hz hf
    go_enter Try.func43, Try.ntmps43
    go_wp2_with fail
    refine HBO.out.mono ?_
    rintro e w' ⟨rfl, rfl⟩
    go_wp2_with fail
    go_ret
    exact ⟨ret_int HR.out.symm, rfl⟩
  have hz1 : chk a = 0 ∧ chk b = 0 := by
    rw [← hf] at hz
    by_cases h1 : chk a = 0
    · rw [if_neg (fun h => h h1)] at hz; exact ⟨h1, hz⟩
    · rw [if_pos h1] at hz; exact absurd hz h1
  have HR : Hid (chA a b g = if 300 < a.length ∨ 300 < b.length then 2 else if g < 0 ∨ 100 < g then 1 else 0) := by
    show _ = _
    unfold chA
    rw [if_neg (fun h => h hz1.1), if_neg (fun h => h hz1.2)]
  subst hz
  clear hz1 hf
  go_enter Try.func43, Try.ntmps43
  go_wp2_with fail
  refine HBO.out.mono ?_
  rintro e w' ⟨rfl, rfl⟩
  by_cases h1 : 300 < a.length
  · go_wp2_with fail
    go_ret
    exact ⟨ret_int (by rw [HR.out, if_pos (.inl h1)]), rfl⟩
  by_cases h2 : 300 < b.length
  · go_wp2_with fail
    go_ret
    exact ⟨ret_int (by rw [HR.out, if_pos (.inr h2)]), rfl⟩
  by_cases h3 : 0 ≤ g ∧ g ≤ 100
  · go_wp2_with fail
    refine (within_t _ _ _ _ h3).mono ?_
    rintro e w' ⟨rfl, rfl⟩
    go_wp2_with fail
    go_ret
    exact ⟨ret_int (by rw [HR.out, if_neg (by omega), if_neg (by omega)]), rfl⟩
  · go_wp2_with fail
    refine (within_f _ _ _ _ h3).mono ?_
    rintro e w' ⟨rfl, rfl⟩
    go_wp2_with fail
    go_ret
    exact ⟨ret_int (by rw [HR.out, if_neg (by omega), if_pos (by omega)]), rfl⟩
end Go.Proofs.Ytdgkchdobmhpnaa
