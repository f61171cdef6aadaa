/- The law MatchChoicesMatchSpec returns true, whatever the scores and the takes. -/
import Derived.Test.YtdgkchdobmhpnaaRefChooseD
import Derived.Test.YtdgkchdobmhpnaaMatchChooses
import Derived.Test.YtdgkchdobmhpnaaEqInts
import Derived.Deep.RegionHeld3
import Derived.Deep.DrawnRows
namespace Go.Proofs.Ytdgkchdobmhpnaa
open Go.RowKit Go.Dw
attribute [local go_sem ↓] Go.wp_at_zero Go.wp_at_succ

def Bw (w4 W : World) : Prop := Below w4.heap.size w4 W
theorem chR_len (t : Int) (rows : List (List Int)) (cost most : Int) : (chR t rows cost most).1.length ≤ 9223372036854775807 := by
  by_cases hf : (chR t rows cost most).2.2 = 0
  · have h := chR_val hf
    have hz := csc_zero h.1
    by_cases hl : (chR t rows cost most).1.length = rows.length
    · omega
    · rw [vl_len h.1 hl] at h; exact absurd (congrArg Prod.snd h.2) (by simp)
  · rw [chR_nilF hf]; simp

set_option maxRecDepth 100000 in
set_option maxHeartbeats 1600000 in
theorem choices_walk (x : Sco) (tk : Slc Int) (w : World) (hx : inI64 x.t ∧ x.Ok w ∧ inI64 x.cost ∧ inI64 x.most) (ht : tk.xs.length ≤ maxLen ∧ Rd w tk.a (tk.xs.flatMap fun n => [Value.int .i64 n]) ∧ ∀ n ∈ tk.xs, inI64 n) :
    Calls Try.prog 7 #[.agg x.cells.toArray, tk.v] w fun e w' => e = .returned (.bool true) ∧ Below w.heap.size w w' := by
  obtain ⟨_, h, _, _⟩ := hx
  obtain ⟨htn, htr, _⟩ := ht
  rw [ic_flat] at htr
  have hb0 : Below w.heap.size w (w.alloc (.cells x.cells.toArray 41)) := (Below.refl _ _).alloc (Nat.le_refl _) _
  have h1 := h.below hb0
  have htr1 := htr.below hb0
  have HB0 := Lib.hid hb0
  obtain ⟨ta, tc, takes⟩ := tk
  simp only [Slc.v, maxLen] at *
  have HLEN := Lib.hid (chR_len x.t x.rows x.cost x.most)
  have HVA := Lib.hid (fun (W : World) (hh : x.Ok W) (ha : Rd W ta (ic takes)) => value_any x ta tc takes W hh ha htn)
  have HVB := Lib.hid (fun (W : World) (hh : x.Ok W) (ha : Rd W ta (ic takes)) => rvalue_any x ta tc takes W hh ha htn)
  have HCA := Lib.hid (fun (W : World) (hh : x.Ok W) => checkScores_any x W hh)
  have HCB := Lib.hid (fun (W : World) (hh : x.Ok W) => rcheckScores_any x W hh)
  have HHA := Lib.hid (fun (W : World) (hh : x.Ok W) => choose_any x W hh)
  have HHB := Lib.hid (fun (W : World) (hh : x.Ok W) => rchoose_any x W hh)
  have HOKB : Hid (∀ w w' : World, x.Ok w → Below w.heap.size w w' → x.Ok w') := fun _ _ h hb => h.below hb
  generalize chR x.t x.rows x.cost x.most = ch at *
  generalize csc x.t x.rows x.cost x.most = cs at *
  generalize vl x.t x.rows x.cost x.most takes = va at *
  have hbk0 := Blk.new w 41 [.int .i64 x.t, x.p.v, .int .i64 x.cost, .int .i64 x.most]
  have HBK0 := Lib.hid hbk0
  obtain ⟨t, p, cost, most⟩ := x
  simp only [Sco.cells] at *
  clear h htr hbk0
  go_enter Try.func7, Try.ntmps7
  go_wp2_with fail
  refine (HVA.out _ h1 htr1).mono ?_
  rintro e w1 ⟨rfl, hb1⟩
  have HB1 := Lib.hid (HB0.out.trans (hb1.mono (by simp)))
  have h2 := HOKB.out _ _ h1 hb1
  have htr2 := htr1.below hb1
  obtain ⟨c0, c1, c2, c3⟩ := sco_cells (by simpa using hb1)
  have hX : w.heap.size < w1.heap.size := by have := hb1.size; simp at this; omega
  clear hb1 h1 htr1 HB0 HBK0
  go_wp2_with fail
  refine (HVB.out _ h2 htr2).mono ?_
  rintro e w2 ⟨rfl, hb2⟩
  have HB2 := Lib.hid (HB1.out.trans (hb2.mono HB1.out.size))
  have h3 := HOKB.out _ _ h2 hb2
  rw [← hb2.cell (by exact hX)] at c0 c1 c2 c3
  have hX2 : w.heap.size < w2.heap.size := by have := hb2.size; omega
  clear hb2 h2 htr2 HVA HVB
  have HS : Hid (∀ W, Bw w2 W → W.cell? ⟨w.heap.size, 0, none⟩ = some (.int .i64 t) ∧ W.cell? ⟨w.heap.size, 1, none⟩ = some p.v ∧ W.cell? ⟨w.heap.size, 2, none⟩ = some (.int .i64 cost) ∧ W.cell? ⟨w.heap.size, 3, none⟩ = some (.int .i64 most) ∧ Bw w2 W) := by
    intro W hW
    refine ⟨?_, ?_, ?_, ?_, hW⟩ <;> (rw [hW.cell (by exact hX2)]; assumption)
  have HOK3 := Lib.hid h3
  have HCA2 : Hid (∀ W, Bw w2 W → Calls Try.prog 23 #[.agg #[.int .i64 t, p.v, .int .i64 cost, .int .i64 most]] W fun e W' => e = .returned (.int .i64 cs) ∧ Bw w2 W') :=
    fun W hW => (HCA.out W (HOKB.out _ _ HOK3.out hW)).mono fun e W' ⟨he, hb⟩ => ⟨he, Below.trans hW (hb.mono hW.size)⟩
  have HCB2 : Hid (∀ W, Bw w2 W → Calls Try.prog 24 #[.agg #[.int .i64 t, p.v, .int .i64 cost, .int .i64 most]] W fun e W' => e = .returned (.int .i64 cs) ∧ Bw w2 W') :=
    fun W hW => (HCB.out W (HOKB.out _ _ HOK3.out hW)).mono fun e W' ⟨he, hb⟩ => ⟨he, Below.trans hW (hb.mono hW.size)⟩
  have hBD : Bw w2 w2.drew := (Below.refl _ _).drew
  have hn1 : (cs != cs) = false := by simp
  have hn2 : (va.1 != va.1) = false := by simp
  have hn3 : (va.2 != va.2) = false := by simp
  clear HCA HCB h3 c0 c1 c2 c3
  go_wp2_with fail
  go_region_held3 (fun W => W.cell? ⟨w.heap.size, 0, none⟩ = some (.int .i64 t) ∧ W.cell? ⟨w.heap.size, 1, none⟩ = some p.v ∧ W.cell? ⟨w.heap.size, 2, none⟩ = some (.int .i64 cost) ∧ W.cell? ⟨w.heap.size, 3, none⟩ = some (.int .i64 most) ∧ Bw w2 W)
    (first | exact HS.out _ hBD | exact HS.out _ hqB)
    (first | (go_at_call 23; refine (HCA2.out _ (by first | assumption | (go_split_ands; assumption))).mono ?_; rintro e wA ⟨rfl, hqB⟩) | (go_at_call 24; refine (HCB2.out _ (by first | assumption | (go_split_ands; assumption))).mono ?_; rintro e wA ⟨rfl, hqB⟩))
  all_goals
    obtain ⟨c0, c1, c2, c3, _⟩ := HS.out _ hqB
    have HB4 := Lib.hid (HB2.out.trans (Below.mono hqB HB2.out.size))
    have h5 := HOKB.out _ _ HOK3.out hqB
    have hX4 : w.heap.size < wA.heap.size := Nat.lt_of_lt_of_le hX2 (Below.size hqB)
    clear hqB
    go_wp2_with fail
    refine (HHA.out _ h5).mono ?_
    rintro e w5 ⟨A5, cp5, rfl, hr5, hb5⟩
    have HB5 := Lib.hid (HB4.out.trans (hb5.mono HB4.out.size))
    have h6 := HOKB.out _ _ h5 hb5
    rw [← hb5.cell (by exact hX4)] at c0 c1 c2 c3
    clear hb5 h5
    go_wp2_with fail
    refine (HHB.out _ h6).mono ?_
    rintro e w6 ⟨A6, cp6, rfl, hr6, hb6⟩
    have HB6 := Lib.hid (HB5.out.trans (hb6.mono HB5.out.size))
    have hr5' := hr5.below hb6
    have hq1 : (ch.2.2 == ch.2.2) = true := by simp
    have hq2 : (ch.2.1 == ch.2.1) = true := by simp
    clear hb6 h6 hr5
    go_wp2_with fail
    refine (equal_any _ _ _ _ ch.1 ch.1 _ hr5' hr6 HLEN.out).mono ?_
    rintro e w7 ⟨rfl, nq, rfl⟩
    rw [show decide (ch.1 = ch.1) = true from by simp]
    have HB7 := Lib.hid (below_drewN HB6.out nq)
    generalize w6.drewN nq = w7 at *
    go_wp2_with fail
    refine (awake4 _).mono ?_
    rintro e w8 ⟨rfl, hb8⟩
    have HB8 := Lib.hid (HB7.out.trans (hb8.mono HB7.out.size))
    clear hb8
    go_wp2_with fail
    go_ret
    exact ⟨rfl, HB8.out⟩
end Go.Proofs.Ytdgkchdobmhpnaa
