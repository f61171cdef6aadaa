/- The contracts of match.checkPart, Levels, Marks. -/
import Derived.Test.YtlmgdofhmgpljaaLevA
namespace Go.Proofs.Ytlmgdofhmgpljaa
open Go.RowKit Go.Dw
attribute [local go_sem ↓] Go.wp_at_zero Go.wp_at_succ

def prtF (rate : Int) (T : List (List Int)) (part : Int) : Int := if chkS rate T ≠ 0 then chkS rate T else if 1 ≤ part ∧ part ≤ 100000 then 0 else 1
set_option maxHeartbeats 1000000 in
theorem checkPart_any (x : Snd) (part : Int) (w : World) (h : x.Ok w) :
    Calls Try.prog 13 #[x.v, .int .i64 part] w fun e w' => e = .returned (.int .i64 (prtF x.rate x.rows part)) ∧ Below w.heap.size w w' := by
  have hb0 : Below w.heap.size w (w.alloc (.cells #[.int .i64 x.rate, x.p.v] 24)) := (Below.refl _ _).alloc (Nat.le_refl _) _
  have HCK := Lib.hid (sndCheck_any x _ (h.below hb0))
  have HB0 := Lib.hid hb0
  have HE : Hid (prtF x.rate x.rows part = if chkS x.rate x.rows ≠ 0 then chkS x.rate x.rows else if 1 ≤ part ∧ part ≤ 100000 then 0 else 1) := rfl
  clear h hb0
  generalize prtF x.rate x.rows part = r at *
  generalize chkS x.rate x.rows = f at *
  simp only [Snd.v, Slc.v] at *
  by_cases hz : f = 0
  case neg =>
    have hzb : (f != 0) = true := by simpa using hz
    have HR : Hid (r = f) := by show _ = _; rw [HE.out, if_pos hz]
    clear hz
    go_enter Try.func13, Try.ntmps13
    go_wp2_with fail
    refine HCK.out.mono ?_
    rintro e w1 ⟨rfl, hb1⟩
    have HB1 := Lib.hid (HB0.out.trans (hb1.mono HB0.out.size))
    clear hb1
    go_wp2_with fail
    go_ret
    exact ⟨ret_int HR.out.symm, HB1.out⟩
  have hzb : (f != 0) = false := by simpa using hz
  have HE2 : Hid (r = if 1 ≤ part ∧ part ≤ 100000 then 0 else 1) := by show _ = _; rw [HE.out, if_neg (fun hh => hh hz)]
  clear hz HE
  rcases (show part < 1 ∨ (¬ part < 1 ∧ 100000 < part) ∨ (¬ part < 1 ∧ ¬ 100000 < part) by omega) with h3 | h3 | h3
  · have HR : Hid (r = 1) := by show _ = _; rw [HE2.out, if_neg (by omega)]
    go_enter Try.func13, Try.ntmps13
    go_wp2_with fail
    refine HCK.out.mono ?_
    rintro e w1 ⟨rfl, hb1⟩
    have HB1 := Lib.hid (HB0.out.trans (hb1.mono HB0.out.size))
    clear hb1
    go_wp2_with fail
    go_ret
    exact ⟨ret_int HR.out.symm, HB1.out⟩
  · have HR : Hid (r = 1) := by show _ = _; rw [HE2.out, if_neg (by omega)]
    go_enter Try.func13, Try.ntmps13
    go_wp2_with fail
    refine HCK.out.mono ?_
    rintro e w1 ⟨rfl, hb1⟩
    have HB1 := Lib.hid (HB0.out.trans (hb1.mono HB0.out.size))
    clear hb1
    go_wp2_with fail
    go_ret
    exact ⟨ret_int HR.out.symm, HB1.out⟩
  · have HR : Hid (r = 0) := by show _ = _; rw [HE2.out, if_pos (by omega)]
    go_enter Try.func13, Try.ntmps13
    go_wp2_with fail
    refine HCK.out.mono ?_
    rintro e w1 ⟨rfl, hb1⟩
    have HB1 := Lib.hid (HB0.out.trans (hb1.mono HB0.out.size))
    clear hb1
    go_wp2_with fail
    go_ret
    exact ⟨ret_int HR.out.symm, HB1.out⟩
/-- a slice of numbers and a fault -/
def IntsPost (w : World) (r : List Int × Int) (e : Ending) (w' : World) : Prop :=
  ∃ A c, e = .returned (.tuple #[.slice A r.1.length c, .int .i64 r.2]) ∧ Rd w' A (ic r.1) ∧ Below w.heap.size w w'
theorem intsPost_none {w w' : World} {f : Int} {r : List Int × Int} (hr : r = ([], f)) (hb : Below w.heap.size w w') : IntsPost w r (.returned (.tuple #[.slice none 0 0, .int .i64 f])) w' := by
  subst hr; exact ⟨none, 0, rfl, .inl rfl, hb⟩
theorem levF_bad {rate : Int} {T : List (List Int)} {part : Int} (h : prtF rate T part ≠ 0) : levF rate T part = ([], prtF rate T part) := by
  unfold levF prtF at *
  by_cases h1 : chkS rate T ≠ 0
  · rw [if_pos h1, if_pos h1]
  · rw [if_neg h1] at h ⊢
    rw [if_neg h1]
    by_cases h2 : 1 ≤ part ∧ part ≤ 100000
    · rw [if_pos h2] at h; exact absurd rfl h
    · rw [if_neg h2, if_neg h2]
theorem levF_ok {rate : Int} {T : List (List Int)} {part : Int} (h : prtF rate T part = 0) : chkS rate T = 0 ∧ 1 ≤ part ∧ part ≤ 100000 ∧ levF rate T part = (lev T part.toNat ((T.getD 0 []).length / part.toNat), 0) := by
  unfold levF prtF at *
  by_cases h1 : chkS rate T ≠ 0
  · rw [if_pos h1] at h; exact absurd h h1
  · rw [if_neg h1] at h
    by_cases h2 : 1 ≤ part ∧ part ≤ 100000
    · rw [if_neg h1, if_pos h2]
      exact ⟨Decidable.not_not.1 h1, h2.1, h2.2, rfl⟩
    · rw [if_neg h2] at h; omega
set_option maxHeartbeats 1000000 in
theorem Levels_any (x : Snd) (part : Int) (w : World) (h : x.Ok w) :
    Calls Try.prog 4 #[x.v, .int .i64 part] w (IntsPost w (levF x.rate x.rows part)) := by
  have hb0 : Below w.heap.size w (w.alloc (.cells #[.int .i64 x.rate, x.p.v] 24)) := (Below.refl _ _).alloc (Nat.le_refl _) _
  have HCK := Lib.hid (checkPart_any x part _ (h.below hb0))
  have HB0 := Lib.hid hb0
  have HNE : Hid (x.n = (x.rows.getD 0 []).length) := rfl
  by_cases hz : prtF x.rate x.rows part = 0
  case neg =>
    have hzb : (prtF x.rate x.rows part != 0) = true := by simpa using hz
    have HR := Lib.hid (levF_bad hz)
    clear hz h hb0
    simp only [Snd.v, Slc.v] at *
    go_enter Try.func4, Try.ntmps4
    go_wp2_with fail
    refine HCK.out.mono ?_
    rintro e w1 ⟨rfl, hb1⟩
    have HB1 := Lib.hid (HB0.out.trans (hb1.mono HB0.out.size))
    clear hb1
    go_wp2_with fail
    go_ret2
    exact intsPost_none HR.out HB1.out
  obtain ⟨hs, hp1, hp2, hr⟩ := levF_ok hz
  have hso := chkS_zero hs
  have HR := Lib.hid hr
  obtain ⟨P, rfl⟩ := Int.eq_ofNat_of_zero_le (show 0 ≤ part by omega)
  have HLV := Lib.hid (fun (W : World) (hW : Below (w.alloc (.cells #[.int .i64 x.rate, x.p.v] 24)).heap.size (w.alloc (.cells #[.int .i64 x.rate, x.p.v] 24)) W) => levels_any x P W ((h.below hb0).below hW) hso (by omega) (by omega))
  have hc0 : (w.alloc (.cells #[.int .i64 x.rate, x.p.v] 24)).cell? ⟨w.heap.size, 0, none⟩ = some (.int .i64 x.rate) := new_cell (cs := [_, _]) rfl rfl
  have hc1 : (w.alloc (.cells #[.int .i64 x.rate, x.p.v] 24)).cell? ⟨w.heap.size, 1, none⟩ = some x.p.v := new_cell (cs := [_, _]) rfl rfl
  have hws : w.heap.size < (w.alloc (.cells #[.int .i64 x.rate, x.p.v] 24)).heap.size := by simp
  have hzb : (prtF x.rate x.rows (P : Int) != 0) = false := by simpa using hz
  rw [hz] at HCK
  simp only [Int.toNat_natCast] at HR
  rw [← HNE.out] at HR
  have HLL := Lib.hid (lev_length x.rows P (x.n / P))
  clear hz hs hso hr h hb0 hzb
  simp only [Snd.v, Slc.v] at *
  go_enter Try.func4, Try.ntmps4
  go_wp2_with fail
  refine HCK.out.mono ?_
  generalize w.alloc (.cells #[.int .i64 x.rate, .slice x.p.a x.p.xs.length x.p.c] 24) = w0 at *
  rintro e w1 ⟨rfl, hb1⟩
  have k0 : w1.cell? ⟨w.heap.size, 0, none⟩ = some (.int .i64 x.rate) := by rw [hb1.cell (by exact hws)]; exact hc0
  have k1 : w1.cell? ⟨w.heap.size, 1, none⟩ = some (.slice x.p.a x.p.xs.length x.p.c) := by rw [hb1.cell (by exact hws)]; exact hc1
  have HB1 := Lib.hid hb1
  clear hb1 hc0 hc1
  go_wp2_with fail
  refine (HLV.out _ HB1.out).mono ?_
  rintro e w2 ⟨A2, c2, rfl, hr2, hb2⟩
  have HR2 := Lib.hid hr2
  have HB2 := Lib.hid (HB0.out.trans ((HB1.out.trans (hb2.mono HB1.out.size)).mono HB0.out.size))
  clear hr2 hb2
  go_wp2_with fail
  go_ret2
  exact ⟨A2, c2, by rw [HR.out, HLL.out]; rfl, by rw [HR.out]; exact HR2.out, HB2.out⟩
end Go.Proofs.Ytlmgdofhmgpljaa
