/- The contract of the reference's times. -/
import Derived.Test.YtlmgdofhmgpljaaDoorLmbB
namespace Go.Proofs.YtlmgdofhmgpljaaDoor
open Go.RowKit Go.Dw

theorem infoI : (Tryd.prog.info? 3).map (fun i => (i.zero, i.size, i.bytes)) = some (some (.int .i64 0), 1, 8) := by kernel_rfl
theorem run_mkI (n : Int) (k : Nat) (hn : n = k) (hk : k ≤ 17592186044416) (w : World) :
    (Instr.makeSlice 25 (.int .i64 n) (.int .i64 n)).run Tryd.prog w = .ok (.slice (some ⟨w.heap.size, 0, none⟩) k k) (w.alloc (.cells (zs k (.int .i64 0)).toArray 3)) := by
  obtain ⟨i0, hi, hz0, hz1, hz2⟩ := info_parts infoI
  exact run_mk (P := Tryd.prog) 25 3 i0 (.int .i64 0) 8 Tryd.underlying25 hi hz0 hz1 hz2 rfl n k hn (by omega) (by omega) w
/-- a product under way: V is done of it -/
structure MulR (w wr : World) (G g : Nat) (l m o : List Nat) (i j c : Nat) : Prop where
  len : o.length = l.length + m.length
  ds : Ds L4 o
  cw : c < L4
  eq : val L4 o + L4 ^ (i + j) * c = val L4 (l.take i) * val L4 m + L4 ^ i * (l.getD i 0 * val L4 (m.take j))
  zero : ∀ k, i + m.length ≤ k → o.getD k 0 = 0
  blk : Blk wr g 3 (nc o)
  bel : Below G w wr
theorem MulR.cell {w wr : World} {G g : Nat} {l m o : List Nat} {i j c : Nat} (h : MulR w wr G g l m o i j c) {k : Nat} (hk : k < l.length + m.length) :
    wr.cell? ⟨g, k, none⟩ = some (.int .i64 (o.getD k 0 : Nat)) ∧ wr.frozen? ⟨g, k, none⟩ = false := by
  refine ⟨?_, h.blk.frozen _⟩
  rw [h.blk.cell, nc_at _ _ (by rw [h.len]; exact hk)]
theorem MulR.step {w wr : World} {G g : Nat} {l m o : List Nat} {i j c : Nat} (h : MulR w wr G g l m o i j c) (hG : G ≤ g) (hi : i < l.length) (hj : j < m.length) (s : Nat) (hs : s = c + (l.getD i 0 * m.getD j 0 + o.getD (i + j) 0)) (hq : s / L4 < L4) :
    MulR w (wr.setCell ⟨g, i + j, none⟩ (.int .i64 ((s % L4 : Nat) : Int))) G g l m (o.set (i + j) (s % L4)) i (j + 1) (s / L4) := by
  refine ⟨by simp [h.len], h.ds.set _ _ (Nat.mod_lt _ (by decide)), hq, ?_, fun k hk => ?_, ?_, h.bel.setCell (p := ⟨g, i + j, none⟩) hG _⟩
  · have := mul_step (B := L4) (a := l) (b := m) (o := o) (i := i) (j := j) (c := c) (by rw [h.len]; omega) h.eq
    rw [← hs] at this
    have e : i + (j + 1) = i + j + 1 := (Nat.add_assoc i j 1).symm
    rw [e]; exact this
  · rw [getD_set_ne (by omega)]; exact h.zero k hk
  · rw [nc_set]; exact h.blk.set_ _ _
theorem MulR.last {w wr : World} {G g : Nat} {l m o : List Nat} {i c : Nat} (h : MulR w wr G g l m o i m.length c) (hG : G ≤ g) (hi : i < l.length) :
    MulR w (wr.setCell ⟨g, i + m.length, none⟩ (.int .i64 (c : Int))) G g l m (o.set (i + m.length) c) (i + 1) 0 0 := by
  have hk : i + m.length < o.length := by rw [h.len]; omega
  refine ⟨by simp [h.len], h.ds.set _ _ h.cw, by decide, ?_, fun k hk => ?_, ?_, h.bel.setCell (p := ⟨g, i + m.length, none⟩) hG _⟩
  · exact mul_end hk (h.zero _ (Nat.le_refl _)) h.eq
  · rw [getD_set_ne (by omega)]; exact h.zero k (by omega)
  · rw [nc_set]; exact h.blk.set_ _ _
theorem MulR.start {w wr : World} {G g : Nat} {l m o : List Nat} {i j c : Nat} (h : MulR w wr G g l m o i j c) (hj : j = 0) (hc : c = 0) : MulR w wr G g l m o i 0 0 := by
  subst hj hc; exact h
theorem MulR.done {w wr : World} {G g : Nat} {l m o : List Nat} {i : Nat} (h : MulR w wr G g l m o i 0 0) (hi : i = l.length) : val L4 o = val L4 l * val L4 m := by
  have := h.eq
  rw [Nat.mul_zero, Nat.add_zero, List.take_zero, List.take_of_length_le (by omega)] at this
  rw [this]; simp [val]
theorem MulR.drewN {w wr : World} {G g : Nat} {l m o : List Nat} {i j c : Nat} (h : MulR w wr G g l m o i j c) (n : Nat) : MulR w (wr.drewN n) G g l m o i j c :=
  ⟨h.len, h.ds, h.cw, h.eq, h.zero, h.blk, below_drewN h.bel n⟩
/-- a slice that lies from block B on -/
def FrB (B : Nat) (v : Value) : Prop := (∀ b, v.ownBlock = some b → B ≤ b) ∧ ∀ n c, v = .slice none n c → c = 0
theorem FrB.mono {B C : Nat} {v : Value} (h : FrB B v) (hc : C ≤ B) : FrB C v := ⟨fun b hb => Nat.le_trans hc (h.1 b hb), h.2⟩
def TimR (a b : Nat) (w : World) (e : Ending) (w' : World) : Prop := ∃ v, e = .returned v ∧ LimV w' v (a * b) ∧ FrB w.heap.size v ∧ Below w.heap.size w w'
/-- a number is as it was where another block is written -/
theorem LimV.set {w : World} {v : Value} {n : Nat} (h : LimV w v n) {g i : Nat} (hg : v.ownBlock ≠ some g) (u : Value) : LimV (w.setCell ⟨g, i, none⟩ u) v n := by
  obtain ⟨A, c, l, rfl, hr, hn, hv⟩ := h
  refine ⟨A, c, l, rfl, ?_, hn, hv⟩
  rcases hr with h | ⟨b, off, e, hb, hc⟩
  · exact .inl h
  · subst e
    refine .inr ⟨b, off, rfl, by simpa [World.setCell] using hb, fun j x hx => ?_⟩
    have hne : b ≠ g := fun e => hg (by rw [e]; rfl)
    rw [← hc j x hx]
    exact World.cell?_of_block (Below.heap_setCell w ⟨g, i, none⟩ u b hne)
theorem tmod4 (s : Nat) : (s : Int).tmod 10000 = ((s % L4 : Nat) : Int) := by
  show _ = ((s % 10000 : Nat) : Int)
  rw [Int.tmod_eq_emod_of_nonneg (by omega)]; omega
theorem tdiv4 (s : Nat) : (s : Int).tdiv 10000 = ((s / L4 : Nat) : Int) := by
  show _ = ((s / 10000 : Nat) : Int)
  rw [Int.tdiv_eq_ediv_of_nonneg (by omega)]; omega
set_option maxRecDepth 100000 in
set_option maxHeartbeats 8000000 in
theorem timesR_any (va vb : Value) (a b : Nat) (w : World) (h : LimV w va a) (g : LimV w vb b) (k k' : Nat) (hk : Lim k a) (gk : Lim k' b) (hk2 : k + k' ≤ 1000000000) :
    Calls Tryd.prog 32 #[va, vb] w (TimR a b w) := by
  obtain ⟨A, c, l, rfl, hr, hn, rfl⟩ := h
  obtain ⟨B, d, m, rfl, gr, gn, rfl⟩ := g
  have hL := Lim.len4 hn hk
  have gL := Lim.len4 gn gk
  have HDl := Lib.hid hn.1
  have HDm := Lib.hid gn.1
  have HRl := Lib.hid hr
  have HRm := Lib.hid gr
  have hw : L4 = 10000 := rfl
  have HW := Lib.hid hw
  clear hr gr hn gn hk gk hw
  have hlm : l.length + m.length ≤ 3000000000 := by omega
  have HMK : ∀ W : World, (Instr.makeSlice 25 (.int .i64 ((l.length : Int) + (m.length : Int))) (.int .i64 ((l.length : Int) + (m.length : Int)))).run Tryd.prog W = .ok (.slice (some ⟨W.heap.size, 0, none⟩) (l.length + m.length) (l.length + m.length)) (W.alloc (.cells (zs (l.length + m.length) (.int .i64 0)).toArray 3)) := fun W => run_mkI _ _ (by omega) (by omega) W
  have HST : Hid (MulR w (w.alloc (.cells (zs (l.length + m.length) (.int .i64 0)).toArray 3)) w.heap.size w.heap.size l m (List.replicate (l.length + m.length) 0) 0 0 0) := by
    refine ⟨by simp, ?_, by decide, ?_, ?_, ?_, (Below.refl _ _).alloc (Nat.le_refl _) _⟩
    · intro x hx; rw [List.eq_of_mem_replicate hx]; decide
    · rw [val_zeros]; simp [val]
    · intro k _
      rw [List.getD_eq_getElem?_getD]
      by_cases hk : k < l.length + m.length
      · simp [hk]
      · simp [hk]
    · have e : nc (List.replicate (l.length + m.length) 0) = zs (l.length + m.length) (.int .i64 0) := by simp [nc, zs]
      rw [e]; exact Blk.new _ _ _
  go_enter Tryd.func32, Tryd.ntmps32
  go_wp2_with fail
  go_loopw [6] (fun iv wr => ∃ (i : Nat) (o : List Nat), i ≤ l.length ∧ iv = .int .i64 (i : Int) ∧ Hid (MulR w wr w.heap.size w.heap.size l m o i 0 0)) (fun iv _ => l.length - (intOf iv).toNat)
  case atStart => exact ⟨0, _, Nat.zero_le _, rfl, HST⟩
  case round =>
    obtain ⟨i, o, hi, rfl, HI⟩ := hrel
    obtain ⟨wo, hwo⟩ : ∃ wo, wo = wr := ⟨_, rfl⟩
    subst hwo
    by_cases hil : i < l.length
    case neg =>
      have hii : i = l.length := by omega
      have hd0 : decide (i < l.length) = false := by simpa using hil
      have HV := Lib.hid (HI.out.done hii)
      have HRD := Lib.hid (Blk.rd HI.out.blk)
      have HTR : Hid (∀ W, W = wo → Calls Tryd.prog 40 #[.slice (some ⟨w.heap.size, 0, none⟩) (l.length + m.length) (l.length + m.length)] W fun e w' => e = .returned (.slice (some ⟨w.heap.size, 0, none⟩) (trimL o).length (l.length + m.length)) ∧ W = w') := fun W hW => by
        subst hW
        have := trimR_any (some ⟨w.heap.size, 0, none⟩) (l.length + m.length) o _ HRD.out (by rw [HI.out.len]; omega) (by rw [HI.out.len]; omega) (by omega) (fun h => by cases h)
        rw [HI.out.len] at this
        exact this
      subst hii
      clear hi hil
      go_wp2_with fail
      refine (HTR.out _ rfl).mono ?_
      rintro e w' ⟨rfl, rfl⟩
      go_wp2_with fail
      go_ret
      refine ⟨_, rfl, ?_, ⟨fun b hb => by injection hb with hb; exact Nat.le_of_eq hb, fun n c h => by injection h with h; cases h⟩, HI.out.bel⟩
      have := lim_of_trim (c := l.length + m.length) HRD.out HI.out.ds
      rw [HV.out] at this
      exact this
    have hd0 : decide (i < l.length) = true := by simpa using hil
    go_wp2_with fail
    go_loopw [7, 8] (fun cv jv wr => ∃ (j c : Nat) (o : List Nat), j ≤ m.length ∧ jv = .int .i64 (j : Int) ∧ cv = .int .i64 (c : Int) ∧ c < 10000 ∧ Hid (MulR w wr w.heap.size w.heap.size l m o i j c)) (fun _ jv _ => m.length - (intOf jv).toNat)
    case atStart => exact ⟨0, 0, o, Nat.zero_le _, rfl, rfl, by omega, HI.out⟩
    case round =>
      clear HI
      obtain ⟨j, c2, o2, hj, rfl, rfl, hc2, HJ⟩ := hrel
      by_cases hjl : j < m.length
      case neg =>
        have hdj : decide (j < m.length) = false := by simpa using hjl
        have hjj : j = m.length := by omega
        subst hjj
        obtain ⟨e1, f1⟩ := HJ.out.cell (k := i + m.length) (by omega)
        have HZ : Hid (o2.getD (i + m.length) 0 = 0) := HJ.out.zero _ (Nat.le_refl _)
        rw [HZ.out] at e1
        have HJ2 := Lib.hid (HJ.out.last (Nat.le_refl _) hil)
        clear HZ
        obtain ⟨p, hp⟩ : ∃ p : Nat, i + m.length = p := ⟨_, rfl⟩
        rw [hp] at e1 f1 HJ2
        have hij63 : IntKind.i64.wrap ((i : Int) + (m.length : Int)) = (p : Int) := by rw [show (i : Int) + (m.length : Int) = (p : Int) by omega]; exact IntWalk.i64_in _ (by omega)
        have k0 : (0 : Int) ≤ (p : Int) := by omega
        have k1 : (p : Int) < (l.length : Int) + (m.length : Int) := by omega
        have c63 : IntKind.i64.wrap (0 + (c2 : Int)) = (c2 : Int) := by rw [Int.zero_add]; exact IntWalk.i64_in _ (by omega)
        clear hp
        go_wp2_with fail
        go_roundw
        case rel => exact ⟨i + 1, _, by omega, by go_num, HJ2⟩
        case measure => simp [intOf]; omega
      have hdj : decide (j < m.length) = true := by simpa using hjl
      have HBw : Hid (Below w.heap.size w wr) := HJ.out.bel
      obtain ⟨b1, o1, rfl, hb1, hc1⟩ := nc_cell (HRl.out.below HBw.out) (by omega)
      obtain ⟨b2, o2', rfl, hb2, hcm⟩ := nc_cell (HRm.out.below HBw.out) (by omega)
      have d1 := hc1 i hil
      have d2 := hcm j hjl
      have x1 := HDl.out.getD (by decide) i
      have y1 := HDm.out.getD (by decide) j
      obtain ⟨e1, f1⟩ := HJ.out.cell (k := i + j) (by omega)
      have q1 := HJ.out.ds.getD (by decide) (i + j)
      rw [HW.out] at x1 y1 q1
      have HSTP : Hid (∀ (n s : Nat), s = c2 + (l.getD i 0 * m.getD j 0 + o2.getD (i + j) 0) → s / L4 < L4 → MulR w ((wr.drewN n).setCell ⟨w.heap.size, i + j, none⟩ (.int .i64 ((s % L4 : Nat) : Int))) w.heap.size w.heap.size l m (o2.set (i + j) (s % L4)) i (j + 1) (s / L4)) := fun n s hs hq => (HJ.out.drewN n).step (Nat.le_refl _) hil hjl s hs hq
      clear hc1 hcm HJ HBw
      generalize l.getD i 0 = x at *
      generalize m.getD j 0 = y at *
      generalize o2.getD (i + j) 0 = z at *
      obtain ⟨hm1, hm2⟩ := mul_bd (B := 10000) x1 y1 hc2 q1
      obtain ⟨xy, hxy⟩ : ∃ xy : Nat, xy = x * y := ⟨_, rfl⟩
      rw [← hxy] at HSTP hm1 hm2
      have HXY : Hid ((x : Int) * (y : Int) = (xy : Int)) := by show _ = _; rw [hxy]; exact (Int.natCast_mul x y).symm
      clear hxy
      obtain ⟨s, hs⟩ : ∃ s : Nat, s = c2 + (xy + z) := ⟨_, rfl⟩
      have HJ2 := Lib.hid (fun n => HSTP.out n s hs (by rw [HW.out]; rw [hs]; exact hm2))
      have hs2 : s / L4 < 10000 := by rw [HW.out, hs]; exact hm2
      have HS2 := Lib.hid hs2
      have hs3 : s < 100000000 := by omega
      have W1 : IntKind.i64.wrap ((x : Int) * (y : Int)) = (xy : Int) := by rw [HXY.out]; exact IntWalk.i64_in _ (by omega)
      obtain ⟨zx, hzx⟩ : ∃ zx : Nat, zx = z + xy := ⟨_, rfl⟩
      have W2 : IntKind.i64.wrap ((z : Int) + (xy : Int)) = (zx : Int) := by rw [show (z : Int) + (xy : Int) = (zx : Int) by omega]; exact IntWalk.i64_in _ (by omega)
      have W3 : IntKind.i64.wrap ((zx : Int) + (c2 : Int)) = (s : Int) := by rw [show (zx : Int) + (c2 : Int) = (s : Int) by omega]; exact IntWalk.i64_in _ (by omega)
      obtain ⟨r, hr⟩ : ∃ r, s % L4 = r := ⟨_, rfl⟩
      obtain ⟨q, hq⟩ : ∃ q, s / L4 = q := ⟨_, rfl⟩
      have T1 : (s : Int).tmod 10000 = (r : Int) := by rw [← hr]; exact tmod4 s
      have T2 : (s : Int).tdiv 10000 = (q : Int) := by rw [← hq]; exact tdiv4 s
      have T3 : IntKind.i64.wrap (r : Int) = (r : Int) := IntWalk.i64_in _ (by have := Nat.mod_le s L4; omega)
      have T4 : IntKind.i64.wrap (q : Int) = (q : Int) := IntWalk.i64_in _ (by omega)
      obtain ⟨p, hp⟩ : ∃ p : Nat, i + j = p := ⟨_, rfl⟩
      rw [hr, hq] at HJ2
      rw [hq] at HS2
      rw [hp] at e1 f1 HJ2
      have hij63 : IntKind.i64.wrap ((i : Int) + (j : Int)) = (p : Int) := by rw [show (i : Int) + (j : Int) = (p : Int) by omega]; exact IntWalk.i64_in _ (by omega)
      have k0 : (0 : Int) ≤ (p : Int) := by omega
      have k1 : (p : Int) < (l.length : Int) + (m.length : Int) := by omega
      have i0 : (0 : Int) ≤ (i : Int) := by omega
      have i1 : (i : Int) < (l.length : Int) := by omega
      have m0 : (0 : Int) ≤ (j : Int) := by omega
      have m1 : (j : Int) < (m.length : Int) := by omega
      clear HSTP hm1 hm2 hs2 hs hzx hr hq hp
      go_wp2_with fail
      go_quiet (fail)
      go_wp2_with fail
      go_roundw
      case rel => exact ⟨j + 1, q, _, by omega, by go_num, rfl, HS2.out, HJ2.out _⟩
      case measure => simp [intOf]; omega
end Go.Proofs.YtlmgdofhmgpljaaDoor
