/- The law MatchAlignsWithTheLeast returns true, whatever the lists, the links and the gap. -/
import Derived.Test.YtdgkchdobmhpnaaAlnG
import Derived.Test.YtdgkchdobmhpnaaMatchH
import Derived.Test.YtdgkchdobmhpnaaDecMatch
namespace Go.Proofs.Ytdgkchdobmhpnaa
open Go.RowKit Go.Dw

section
variable {a b : List Int} {g : Int}
theorem chA_mk (h1 : chk a = 0) (h2 : chk b = 0) (h3 : a.length ≤ 300) (h4 : b.length ≤ 300) (h5 : 0 ≤ g) (h6 : g ≤ 100) : chA a b g = 0 := by
  unfold chA
  rw [if_neg (fun h => h h1), if_neg (fun h => h h2), if_neg (by omega), if_neg (by omega)]
theorem chA_swap (h : chA a b g = 0) : chA b a g = 0 := by
  obtain ⟨h1, h2, h3, h4, h5, h6⟩ := chA_zero h
  exact chA_mk h2 h1 h4 h3 h5 h6
theorem chA_self (h : chA a b g = 0) : chA a a g = 0 := by
  obtain ⟨h1, h2, h3, h4, h5, h6⟩ := chA_zero h
  exact chA_mk h1 h1 h3 h3 h5 h6
theorem bst_swap : (bst g b a 0 0).1 = (bst g a b 0 0).1 := bs_swap (fun n m => DD_swap a b n m) _ _
theorem bst_self (h : 0 ≤ g) : (bst g a a 0 0).1 = 0 := bs_diag h (DD_nn a a) (DD_self a) _
theorem coR_path {l : List (Int × Int)} (hz : chA a b g = 0) (h : Path g a b 0 0 l) : coR a b l g = ((bst g a b 0 0).1, 0) := by
  unfold coR
  rw [if_neg (fun hh => hh hz), co_path l none _ h (chA_zero hz).2.2.2.2.1 (fun p hp => by cases hp)]
  simp only [frm, Nat.sub_zero]
  congr 1; omega
theorem coR_ge {l : List (Int × Int)} {m : Int} (hz : chA a b g = 0) (h : coR a b l g = (m, 0)) : (bst g a b 0 0).1 ≤ m := by
  unfold coR at h
  rw [if_neg (fun hh => hh hz)] at h
  have := co_ge l none _ m h (fun p hp => by cases hp)
  simp only [frm, Nat.sub_zero] at this
  omega
end
set_option maxRecDepth 100000 in
set_option maxHeartbeats 1600000 in
theorem aligns_walk (xa xb : Slc Int) (xl : Slc (Int × Int)) (g : Int) (w : World) (h0 : xa.xs.length ≤ maxLen ∧ Rd w xa.a (xa.xs.flatMap fun n => [Value.int .i64 n]) ∧ ∀ n ∈ xa.xs, inI64 n) (h1 : xb.xs.length ≤ maxLen ∧ Rd w xb.a (xb.xs.flatMap fun n => [Value.int .i64 n]) ∧ ∀ n ∈ xb.xs, inI64 n)
    (h2 : xl.xs.length ≤ maxLen ∧ Rd w xl.a (pc xl.xs) ∧ ∀ p ∈ xl.xs, inI64 p.1 ∧ inI64 p.2) (_ : inI64 g) :
    Calls Try.prog 6 #[xa.v, xb.v, xl.v, .int .i64 g] w fun e w' => e = .returned (.bool true) ∧ Below w.heap.size w w' := by
  obtain ⟨Aa, ca, a⟩ := xa
  obtain ⟨Ab, cb, b⟩ := xb
  obtain ⟨Al, cl, l⟩ := xl
  obtain ⟨hna, ha, _⟩ := h0
  obtain ⟨hnb, hb, _⟩ := h1
  obtain ⟨hnl, hl, _⟩ := h2
  simp only [maxLen, ic_flat, Slc.v] at *
  have HAL := Lib.hid (fun (W : World) (hW : Below w.heap.size w W) => align_any Aa Ab ca cb a b g W (ha.below hW) (hb.below hW) hna hnb)
  have HAS := Lib.hid (fun (W : World) (hW : Below w.heap.size w W) => align_any Ab Aa cb ca b a g W (hb.below hW) (ha.below hW) hnb hna)
  have HAA := Lib.hid (fun (W : World) (hW : Below w.heap.size w W) => align_any Aa Aa ca ca a a g W (ha.below hW) (ha.below hW) hna hna)
  have HCO := Lib.hid (fun (A : Option Addr) (c : Nat) (k : List (Int × Int)) (W : World) (hW : Below w.heap.size w W) (hk : Rd W A (pc k)) (hn : k.length ≤ 9223372036854775807) => cost_any Aa Ab A ca cb c a b k g W (ha.below hW) (hb.below hW) hk hna hnb hn)
  have HL := Lib.hid hl
  clear ha hb hl
  go_enter Try.func6, Try.ntmps6
  go_wp2_with fail
  refine (HAL.out _ (Below.refl _ _)).mono ?_
  rintro e w1 ⟨A1, c1, out, n, f, hal, rfl, hr1, hb1⟩
  have HB1 := Lib.hid hb1
  rcases hal with ⟨hz, rfl, rfl, rfl⟩ | ⟨hz, hp, rfl, rfl⟩
  · have hzb : (chA a b g != 0) = true := by simpa using hz
    clear hz hb1 hr1
    go_wp2_with fail
    refine (awake4 _).mono ?_
    rintro e w8 ⟨rfl, hb8⟩
    have HB8 := Lib.hid (HB1.out.trans (hb8.mono HB1.out.size))
    clear hb8
    go_wp2_with fail
    go_ret
    exact ⟨rfl, HB8.out⟩
  have hol : out.length ≤ 9223372036854775807 := by
    have := hp.len
    have := (bst_fit (a := a) (b := b) (chA_zero hz).2.2.2.2.1 0 0).2.2.2.1
    have := (chA_zero hz).2.2.1
    omega
  have HCP := Lib.hid (coR_path hz hp)
  have HGE : Hid (∀ m, coR a b l g = (m, 0) → (bst g a b 0 0).1 ≤ m) := fun m h => coR_ge hz h
  have HZ1 := Lib.hid (chA_swap hz)
  have HZ2 := Lib.hid (chA_self hz)
  have HSW := Lib.hid (bst_swap (a := a) (b := b) (g := g))
  have HSE := Lib.hid (bst_self (a := a) (chA_zero hz).2.2.2.2.1)
  generalize (bst g a b 0 0).1 = n at *
  clear hz hp
  go_wp2_with fail
  refine (HCO.out A1 c1 out w1 hb1 hr1 hol).mono ?_
  rintro e w2 ⟨rfl, hb2⟩
  rw [HCP.out]
  have HB2 := Lib.hid (HB1.out.trans (hb2.mono HB1.out.size))
  have hn1 : (n != n) = false := by simp
  clear hb1 hb2 hr1
  go_wp2_with fail
  refine (awake4 _).mono ?_
  rintro e w3 ⟨rfl, hb3⟩
  have HB3 := Lib.hid (HB2.out.trans (hb3.mono HB2.out.size))
  clear hb3
  go_wp2_with fail
  refine (HCO.out Al cl l w3 HB3.out (HL.out.below HB3.out) hnl).mono ?_
  rintro e w4 ⟨rfl, hb4⟩
  have HB4 := Lib.hid (HB3.out.trans (hb4.mono HB3.out.size))
  clear hb4
  have hgo : ((coR a b l g).2 == 0) = true ∧ ¬ (coR a b l g).1 < n ∨ ((coR a b l g).2 == 0) = false := by
    by_cases hf : (coR a b l g).2 = 0
    · left
      have := HGE.out (coR a b l g).1 (by rw [← hf])
      exact ⟨by simp [hf], by omega⟩
    · right; simpa using hf
  rcases hgo with ⟨hg1, hg2⟩ | hg1
  all_goals
    go_wp2_with fail
    refine (HAS.out w4 HB4.out).mono ?_
    rintro e w5 ⟨A5, c5, out5, n5, f5, hal5, rfl, hr5, hb5⟩
    rcases hal5 with ⟨hz5, _, _, _⟩ | ⟨_, _, hn5, hf5⟩
    · exact absurd HZ1.out hz5
    rw [HSW.out] at hn5
    subst hn5
    subst hf5
    have HB5 := Lib.hid (HB4.out.trans (hb5.mono HB4.out.size))
    clear hb5 hr5
    go_wp2_with fail
    refine (HAA.out w5 HB5.out).mono ?_
    rintro e w6 ⟨A6, c6, out6, n6, f6, hal6, rfl, hr6, hb6⟩
    rcases hal6 with ⟨hz6, _, _, _⟩ | ⟨_, _, hn6, hf6⟩
    · exact absurd HZ2.out hz6
    rw [HSE.out] at hn6
    subst hn6
    subst hf6
    have HB6 := Lib.hid (HB5.out.trans (hb6.mono HB5.out.size))
    have hq1 : (n5 == n5) = true := by simp
    clear hb6 hr6
    go_wp2_with fail
    go_ret
    exact ⟨rfl, HB6.out⟩
end Go.Proofs.Ytdgkchdobmhpnaa
