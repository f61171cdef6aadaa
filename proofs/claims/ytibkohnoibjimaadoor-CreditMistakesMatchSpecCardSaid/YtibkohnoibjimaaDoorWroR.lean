/- The contracts of the reference's credit and Wrong. -/
import Derived.Test.YtibkohnoibjimaaDoorWroP
import Derived.Test.YtibkohnoibjimaaDoorCrR
import Derived.Test.YtibkohnoibjimaaDoorEqS
import Derived.Deep.RegionHeld3
import Derived.Deep.DrawnRows
namespace Go.Proofs.YtibkohnoibjimaaDoor
open Go.RowKit Go.Dw
attribute [local go_sem ↓] Go.wp_at_zero Go.wp_at_succ

def fkI (o : Option Nat) : Int := match o with | some i => (i : Int) | none => -1
theorem map_at (L : List Crd) (k : Nat) (h : k < L.length) : (L.map Crd.x).getD k dCrp = L[k].x := by
  rw [getD_at _ _ k (by simpa using h)]; simp
set_option maxHeartbeats 2000000 in
theorem creditI_any (x : Slc Crd) (c0 : Crd) (w : World) (h : Crs w x) :
    Calls Tryd.prog 14 #[x.v, .agg c0.cs.toArray] w fun e w' => e = .returned (.int .i64 (fkI (fstK (x.xs.map Crd.x) c0.x x.xs.length))) ∧ Below w.heap.size w w' := by
  obtain ⟨r0, p0, n0, ⟨sa0, sc0, sl0⟩, m0⟩ := c0
  obtain ⟨w1, hw1⟩ : ∃ w1, w1 = w.alloc (.cells #[.string r0, .string p0, .string n0, .slice sa0 sl0.length sc0, .int .i64 m0] 38) := ⟨_, rfl⟩
  have HB1 : Hid (Below w.heap.size w w1) := by rw [hw1]; exact (Below.refl _ _).alloc (Nat.le_refl _) _
  have q0 : w1.cell? ⟨w.heap.size, 0, none⟩ = some (.string r0) := by rw [hw1]; exact new_cell (cs := [_, _, _, _, _]) rfl rfl
  have q1 : w1.cell? ⟨w.heap.size, 1, none⟩ = some (.string p0) := by rw [hw1]; exact new_cell (cs := [_, _, _, _, _]) rfl rfl
  have hz1 : w.heap.size < w1.heap.size := by rw [hw1]; simp
  have HW1 := Lib.hid hw1
  have HX := Lib.hid (h.below HB1.out)
  have hxn := h.1
  obtain ⟨A, c, L⟩ := x
  clear h hw1
  simp only [Crd.cs, Slc.v] at *
  go_enter Tryd.func14, Tryd.ntmps14
  go_upto_region 1 with (fail)
  rw [← HW1.out]
  go_wp2_with fail
  go_loopw [9] (fun kv wr => ∃ k : Nat, k ≤ L.length ∧ kv = .int .i64 (k : Int) ∧ Hid (fstK (L.map Crd.x) (Crd.x ⟨r0, p0, n0, ⟨sa0, sc0, sl0⟩, m0⟩) k = none) ∧ Hid (Below w1.heap.size w1 wr)) (fun kv _ => L.length - (intOf kv).toNat)
  case atStart => exact ⟨0, Nat.zero_le _, rfl, rfl, Below.refl _ _⟩
  case round =>
    obtain ⟨k, hk, rfl, HN, HB⟩ := hrel
    have HBW := Lib.hid (HB1.out.trans (HB.out.mono HB1.out.size))
    by_cases hlt : k < L.length
    case neg =>
      have hd1 : decide (k < L.length) = false := by simpa using hlt
      have HR : Hid (fkI (fstK (L.map Crd.x) (Crd.x ⟨r0, p0, n0, ⟨sa0, sc0, sl0⟩, m0⟩) L.length) = -1) := by show _ = _; have := HN.out; rw [show k = L.length by omega] at this; rw [this]; rfl
      go_wp2_with fail
      go_ret
      exact ⟨ret_int HR.out.symm, HBW.out⟩
    have hd1 : decide (k < L.length) = true := by simpa using hlt
    obtain ⟨b, off, hA, hb, hcs⟩ := HX.out.at_ (by show 0 < L.length; omega)
    obtain rfl : A = some ⟨b, off, none⟩ := hA
    obtain ⟨d0, d1, d2, d3, d4⟩ := hcs k hlt
    have hbw : b < w1.heap.size := hb
    rw [← HB.out.cell (p := ⟨b, off + k * 5, none⟩) (by exact hbw)] at d0
    rw [← HB.out.cell (p := ⟨b, off + k * 5 + 1, none⟩) (by exact hbw)] at d1
    rw [← HB.out.cell (p := ⟨b, off + k * 5 + 2, none⟩) (by exact hbw)] at d2
    rw [← HB.out.cell (p := ⟨b, off + k * 5 + 3, none⟩) (by exact hbw)] at d3
    rw [← HB.out.cell (p := ⟨b, off + k * 5 + 4, none⟩) (by exact hbw)] at d4
    have hh0 : (wr.alloc (.cells #[.string L[k].r, .string L[k].p, .string L[k].n, .slice L[k].s.a L[k].s.xs.length L[k].s.c, .int .i64 L[k].m] 38)).cell? ⟨w.heap.size, 0, none⟩ = some (.string r0) := by
      rw [World.cell?_alloc_past _ _ _ (by have := HB.out.size; show w.heap.size < _; omega), HB.out.cell (by exact hz1)]; exact q0
    have hh1 : (wr.alloc (.cells #[.string L[k].r, .string L[k].p, .string L[k].n, .slice L[k].s.a L[k].s.xs.length L[k].s.c, .int .i64 L[k].m] 38)).cell? ⟨w.heap.size, 1, none⟩ = some (.string p0) := by
      rw [World.cell?_alloc_past _ _ _ (by have := HB.out.size; show w.heap.size < _; omega), HB.out.cell (by exact hz1)]; exact q1
    have HSK : Hid (sameK ((L.map Crd.x).getD k dCrp) (Crd.x ⟨r0, p0, n0, ⟨sa0, sc0, sl0⟩, m0⟩) = (decide (L[k].r = r0) && decide (L[k].p = p0))) := by show _ = _; rw [map_at L k hlt]; rfl
    have HHIT := Lib.hid (fun hs => fstK_more (fstK_hit HN.out hs) L.length (by omega))
    have HMISS := Lib.hid (fun hs => fstK_miss HN.out hs)
    clear hcs
    generalize L[k] = cc at *
    obtain ⟨r, p, nm, ⟨sa, sc, sl⟩, m⟩ := cc
    simp only at d0 d1 d2 d3 d4 hh0 hh1 HSK
    clear q0 q1
    by_cases e1 : r = r0
    · have s1 := seq_t e1
      by_cases e2 : p = p0
      · have s2 := seq_t e2
        have HR : Hid (fkI (fstK (L.map Crd.x) (Crd.x ⟨r0, p0, n0, ⟨sa0, sc0, sl0⟩, m0⟩) L.length) = (k : Int)) := by show _ = _; rw [HHIT.out (by rw [HSK.out]; simp [e1, e2])]; rfl
        clear e1 e2
        go_wp2_with fail
        go_ret
        exact ⟨ret_int HR.out.symm, HBW.out.alloc HBW.out.size _⟩
      · have s2 := seq_f e2
        have HR := Lib.hid (HMISS.out (by rw [HSK.out]; simp [e2]))
        clear e1 e2
        go_wp2_with fail
        go_roundw
        case rel => exact ⟨k + 1, by omega, by go_num, HR.out, HB.out.alloc HB.out.size _⟩
        case measure => simp [intOf]; omega
    · have s1 := seq_f e1
      have HR := Lib.hid (HMISS.out (by rw [HSK.out]; simp [e1]))
      clear e1
      go_wp2_with fail
      go_roundw
      case rel => exact ⟨k + 1, by omega, by go_num, HR.out, HB.out.alloc HB.out.size _⟩
      case measure => simp [intOf]; omega
end Go.Proofs.YtibkohnoibjimaaDoor
