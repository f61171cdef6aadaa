/- The contract of sound.Silences. -/
import Derived.Test.YtlmgdofhmgpljaaSilB
namespace Go.Proofs.Ytlmgdofhmgpljaa
open Go.RowKit Go.Dw
attribute [local go_sem ↓] Go.wp_at_zero Go.wp_at_succ

/-- a slice of spans and a fault -/
def SpnPost (w : World) (r : List (Int × Int) × Int) (e : Ending) (w' : World) : Prop :=
  ∃ A c, e = .returned (.tuple #[.slice A r.1.length c, .int .i64 r.2]) ∧ Rd w' A (pc r.1) ∧ Below w.heap.size w w'
theorem spnPost_none {w w' : World} {f : Int} {r : List (Int × Int) × Int} (hr : r = ([], f)) (hb : Below w.heap.size w w') : SpnPost w r (.returned (.tuple #[.slice none 0 0, .int .i64 f])) w' := by
  subst hr; exact ⟨none, 0, rfl, .inl rfl, hb⟩
theorem spnPost_some {w w' : World} {l : List (Int × Int)} {n : Nat} {A : Option Addr} {c : Nat} {r : List (Int × Int) × Int} (hr : r = (l, 0)) (hn : n = l.length) (hrd : Rd w' A (pc l)) (hb : Below w.heap.size w w') : SpnPost w r (.returned (.tuple #[.slice A n c, .int .i64 0])) w' := by
  subst hr hn; exact ⟨A, c, rfl, hrd, hb⟩
theorem silF_bad {rate : Int} {T : List (List Int)} {level least : Int} (h : chkS rate T ≠ 0) : silF rate T level least = ([], chkS rate T) := by unfold silF; rw [if_pos h]
theorem silF_rng {rate : Int} {T : List (List Int)} {level least : Int} (h : chkS rate T = 0) (h2 : ¬ (0 ≤ level ∧ level ≤ 8388608 ∧ 1 ≤ least ∧ least ≤ 100000)) : silF rate T level least = ([], 1) := by
  unfold silF; rw [if_neg (fun hh => hh h), if_neg h2]
theorem silF_ok {rate : Int} {T : List (List Int)} {level : Int} {L : Nat} {l : List (Int × Int)} (h : chkS rate T = 0) (h2 : 0 ≤ level ∧ level ≤ 8388608 ∧ 1 ≤ L ∧ L ≤ 100000) (hl : rowsOf (fun i => qui T level i T.length) L (T.getD 0 []).length = l) : silF rate T level (L : Int) = if 1000 < l.length then ([], 2) else (l, 0) := by
  unfold silF; rw [if_neg (fun hh => hh h), if_pos (by omega), Int.toNat_natCast, hl]
set_option maxHeartbeats 2000000 in
theorem Silences_any (x : Snd) (level least : Int) (w : World) (h : x.Ok w) :
    Calls Try.prog 17 #[x.v, .int .i64 level, .int .i64 least] w (SpnPost w (silF x.rate x.rows level least)) := by
  have hb0 : Below w.heap.size w ((w.alloc (.cells #[.int .i64 x.rate, x.p.v] 24)).alloc (.cells #[.int .i64 level] 3)) := ((Below.refl _ _).alloc (Nat.le_refl _) _).alloc (by simp) _
  have HCK := Lib.hid (sndCheck_any x _ (h.below hb0))
  have HB0 := Lib.hid hb0
  have hc0 : ((w.alloc (.cells #[.int .i64 x.rate, x.p.v] 24)).alloc (.cells #[.int .i64 level] 3)).cell? ⟨w.heap.size, 0, none⟩ = some (.int .i64 x.rate) := by
    rw [World.cell?_alloc_past _ _ _ (by simp)]; exact new_cell (cs := [_, _]) rfl rfl
  have hc1 : ((w.alloc (.cells #[.int .i64 x.rate, x.p.v] 24)).alloc (.cells #[.int .i64 level] 3)).cell? ⟨w.heap.size, 1, none⟩ = some x.p.v := by
    rw [World.cell?_alloc_past _ _ _ (by simp)]; exact new_cell (cs := [_, _]) rfl rfl
  have hc2 : ((w.alloc (.cells #[.int .i64 x.rate, x.p.v] 24)).alloc (.cells #[.int .i64 level] 3)).cell? ⟨w.heap.size + 1, 0, none⟩ = some (.int .i64 level) := new_cell (cs := [_]) (by simp) rfl
  have hws : w.heap.size + 1 < ((w.alloc (.cells #[.int .i64 x.rate, x.p.v] 24)).alloc (.cells #[.int .i64 level] 3)).heap.size := by simp
  by_cases hz : chkS x.rate x.rows = 0
  case neg =>
    have hzb : (chkS x.rate x.rows != 0) = true := by simpa using hz
    have HR := Lib.hid (silF_bad (level := level) (least := least) hz)
    clear hz h hb0
    simp only [Snd.v, Slc.v] at *
    go_enter Try.func17, Try.ntmps17
    go_wp2_with fail
    refine HCK.out.mono ?_
    rintro e w1 ⟨rfl, hb1⟩
    have HB1 := Lib.hid (HB0.out.trans (hb1.mono HB0.out.size))
    clear hb1
    go_wp2_with fail
    go_ret2
    exact spnPost_none HR.out HB1.out
  rw [hz] at HCK
  by_cases hrg : 0 ≤ level ∧ level ≤ 8388608 ∧ 1 ≤ least ∧ least ≤ 100000
  case neg =>
    have HR := Lib.hid (silF_rng hz hrg)
    have hcs : level < 0 ∨ 8388608 < level ∧ 0 ≤ level ∨ (0 ≤ level ∧ level ≤ 8388608) ∧ least < 1 ∨ (0 ≤ level ∧ level ≤ 8388608) ∧ 1 ≤ least ∧ 100000 < least := by omega
    clear hz h hb0 hrg
    simp only [Snd.v, Slc.v] at *
    rcases hcs with g1 | ⟨g1, g2⟩ | ⟨⟨g1, g2⟩, g3⟩ | ⟨⟨g1, g2⟩, g3, g4⟩
    all_goals
      go_enter Try.func17, Try.ntmps17
      go_wp2_with fail
      refine HCK.out.mono ?_
      rintro e w1 ⟨rfl, hb1⟩
      have k2 : w1.cell? ⟨w.heap.size + 1, 0, none⟩ = some (.int .i64 level) := by rw [hb1.cell (by exact hws)]; exact hc2
      have HB1 := Lib.hid (HB0.out.trans (hb1.mono HB0.out.size))
      clear hb1 hc0 hc1 hc2
      go_wp2_with fail
      go_ret2
      exact spnPost_none HR.out HB1.out
  obtain ⟨g1, g2, g3, g4⟩ := hrg
  obtain ⟨L, rfl⟩ := Int.eq_ofNat_of_zero_le (show 0 ≤ least by omega)
  have hso := chkS_zero hz
  obtain ⟨l, hl⟩ : ∃ l, rowsOf (fun i => qui x.rows level i x.rows.length) L x.n = l := ⟨_, rfl⟩
  have HL := Lib.hid hl
  have HR := Lib.hid (silF_ok hz ⟨g1, g2, by omega, by omega⟩ hl)
  have hlen : l.length ≤ 100001 := by
    have := (rowsOf_gaps (fun i => qui x.rows level i x.rows.length) L x.n (by omega)).2.2
    rw [hl] at this
    have h5 : x.n ≤ 100000 := hso.2.2.2.2.1
    omega
  obtain ⟨W0, hW0⟩ : ∃ W0, W0 = (w.alloc (.cells #[.int .i64 x.rate, x.p.v] 24)).alloc (.cells #[.int .i64 level] 3) := ⟨_, rfl⟩
  have HLN := Lib.hid (fun (W : World) (hW : Below W0.heap.size W0 W) => length_any x W ((h.below hb0).below (by rw [← hW0]; exact hW)) (by rw [← x.rows_len]; exact hso.2.2.1))
  have HRW := Lib.hid (fun (W : World) (hW : Below W0.heap.size W0 W) => rows_any x level w.heap.size (w.heap.size + 1) L W (by omega) hso.2.2.2.2.1 (quiAt_any x level w.heap.size (w.heap.size + 1) W ((h.below hb0).below (by rw [← hW0]; exact hW)) hso (by have := hW.size; rw [← hW0] at hws; omega) (by have := hW.size; rw [← hW0] at hws; omega) (by rw [hW.cell (by rw [← hW0] at hws; exact Nat.lt_of_succ_lt hws), hW0]; exact hc1) (by rw [hW.cell (by rw [← hW0] at hws; exact hws), hW0]; exact hc2)))
  rw [← hW0] at HCK HB0 hc0 hc1 hc2 hws
  simp only [hl] at HRW
  have HW0 := Lib.hid hW0
  clear hz h hb0 hso hl hW0
  simp only [Snd.v, Slc.v] at *
  go_enter Try.func17, Try.ntmps17
  go_wp2_with fail
  rw [← HW0.out]
  refine HCK.out.mono ?_
  rintro e w1 ⟨rfl, hb1⟩
  have hsz1 := hb1.size
  have k0 : w1.cell? ⟨w.heap.size, 0, none⟩ = some (.int .i64 x.rate) := by rw [hb1.cell (show w.heap.size < _ by omega)]; exact hc0
  have k1 : w1.cell? ⟨w.heap.size, 1, none⟩ = some (.slice x.p.a x.p.xs.length x.p.c) := by rw [hb1.cell (show w.heap.size < _ by omega)]; exact hc1
  have k2 : w1.cell? ⟨w.heap.size + 1, 0, none⟩ = some (.int .i64 level) := by rw [hb1.cell (by exact hws)]; exact hc2
  have HB1 := Lib.hid hb1
  clear hb1 hc0 hc1 hc2 hsz1
  go_wp2_with fail
  refine (HLN.out _ HB1.out).mono ?_
  rintro e w2 ⟨rfl, hb2⟩
  have HB2 := Lib.hid (HB1.out.trans (hb2.mono HB1.out.size))
  clear hb2 k0 k1 k2
  go_wp2_with fail
  refine (HRW.out _ HB2.out).mono ?_
  rintro e w3 ⟨A3, c3, rfl, hr3, hb3⟩
  have HR3 := Lib.hid hr3
  have HB3 := Lib.hid (HB0.out.trans ((HB2.out.trans (hb3.mono HB2.out.size)).mono HB0.out.size))
  clear hr3 hb3
  by_cases hbig : 1000 < l.length
  · rw [if_pos hbig] at HR
    have hd : decide (1000 < l.length) = true := by simpa using hbig
    go_wp2_with fail
    go_ret2
    exact spnPost_none HR.out HB3.out
  · rw [if_neg hbig] at HR
    have hd : decide (1000 < l.length) = false := by simpa using hbig
    go_wp2_with fail
    go_ret2
    exact spnPost_some HR.out rfl HR3.out HB3.out
end Go.Proofs.Ytlmgdofhmgpljaa
