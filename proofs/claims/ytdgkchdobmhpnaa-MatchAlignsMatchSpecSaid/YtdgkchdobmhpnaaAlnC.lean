/- The contract of (*aligner).fill. -/
import Derived.Test.YtdgkchdobmhpnaaAlnB
import Derived.Deep.DeepCutAuto
namespace Go.Proofs.Ytdgkchdobmhpnaa
open Go.RowKit Go.Dw
attribute [local go_sem ↓] Go.wp_at_zero Go.wp_at_succ

theorem info_ss : (Try.prog.info? 73).map (fun i => (i.zero, i.size, i.bytes)) = some (some (.slice none 0 0), 1, 24) := by kernel_rfl
theorem info_s : (Try.prog.info? 72).map (fun i => (i.zero, i.size, i.bytes)) = some (some (.agg #[.int .i64 0, .int .i64 0]), 2, 16) := by kernel_rfl
theorem ainv_start {w : World} {KB : Nat} {x : Two} (hK : Blk w KB 70 (x.cells (.slice none 0 0))) (ha : RdS (fun b => b < w.heap.size ∧ b ≠ KB) w x.Aa (ic x.a)) (hb : RdS (fun b => b < w.heap.size ∧ b ≠ KB) w x.Ab (ic x.b)) :
    AInv w KB x (x.a.length + 1) (w.heap.size + 1) (zs (x.a.length + 1) (.slice none 0 0)) ((w.setCell ⟨KB, 3, none⟩ (.slice (some ⟨w.heap.size, 0, none⟩) (x.a.length + 1) (x.a.length + 1))).alloc (.cells (zs (x.a.length + 1) (.slice none 0 0)).toArray 73)) := by
  have hlt := hK.lt
  have hsz : (w.setCell ⟨KB, 3, none⟩ (.slice (some ⟨w.heap.size, 0, none⟩) (x.a.length + 1) (x.a.length + 1))).heap.size = w.heap.size := by simp [World.setCell]
  refine ⟨?_, by omega, by simp [hsz], ?_, ?_, ?_, ?_, zs_length _ _, ?_⟩
  · refine ⟨rfl, rfl, rfl, by simp [hsz], fun k hk hne => ?_⟩
    rw [Below.heap_alloc _ _ _ (by rw [hsz]; exact hk), Below.heap_setCell _ _ _ _ (fun e => hne (by rw [e]))]
  · exact (Below.heap_alloc _ _ KB (by rw [hsz]; exact hlt)).trans (hK.set_ 3 _)
  · exact (ha.same (Same.set _ _ _ (by simp))).same (Same.alloc _ _)
  · exact (hb.same (Same.set _ _ _ (by simp))).same (Same.alloc _ _)
  · have h1 := Blk.new (w.setCell ⟨KB, 3, none⟩ (.slice (some ⟨w.heap.size, 0, none⟩) (x.a.length + 1) (x.a.length + 1))) 73 (zs (x.a.length + 1) (.slice none 0 0))
    rw [hsz] at h1
    exact h1
  · intro s hs hl
    rw [zs_length] at hl; omega
/-- while the row i is made in block g1: its entries from k on are done -/
def Jx (w : World) (KB : Nat) (x : Two) (i B : Nat) (arr : List Value) (g1 k : Nat) (wx : World) : Prop := AInv w KB x (i + 1) B arr wx ∧ RInv2 (rowP x.g x.a x.b i) g1 k wx
theorem Jx.below {w : World} {KB : Nat} {x : Two} {i B : Nat} {arr : List Value} {g1 k : Nat} {wx wy : World} (h : Jx w KB x i B arr g1 k wx) (hb : Below (g1 + 1) wx wy) (hB : B ≤ g1) (hK : KB < w.heap.size) : Jx w KB x i B arr g1 k wy :=
  ⟨h.1.below (hb.mono (by omega)) hK, h.2.same (hb.block g1 (by omega))⟩
/-- a score in a box -/
def Bx (wx : World) (sb : Nat) (s : Scr) : Prop := Blk wx sb 72 [.int .i64 s.1, .int .i64 s.2]
theorem Bx.cells {wx : World} {sb : Nat} {s : Scr} (h : Bx wx sb s) : wx.cell? ⟨sb, 0, none⟩ = some (.int .i64 s.1) ∧ wx.cell? ⟨sb, 1, none⟩ = some (.int .i64 s.2) ∧ wx.frozen? ⟨sb, 0, none⟩ = false ∧ wx.frozen? ⟨sb, 1, none⟩ = false ∧ sb < wx.heap.size :=
  ⟨h.cell 0, h.cell 1, h.frozen 0, h.frozen 1, h.lt⟩
theorem Bx.set {wx : World} {sb : Nat} {s : Scr} (h : Bx wx sb s) (t : Scr) : Bx ((wx.setCell ⟨sb, 0, none⟩ (.int .i64 t.1)).setCell ⟨sb, 1, none⟩ (.int .i64 t.2)) sb t := (Blk.set_ (Blk.set_ h 0 _) 1 _)
theorem Bx.below {wx wy : World} {sb B : Nat} {s : Scr} (h : Bx wx sb s) (hb : Below B wx wy) (hs : sb < B) : Bx wy sb s := blk_below h hb hs

theorem two_boxes {wc w1 w3 : World} {sb : Nat} {s : Scr} {t1 t2 : Int} (hbx : Bx wc sb s) (hb1 : Below wc.heap.size wc w1) (hb3 : Below (w1.heap.size + 1) (w1.alloc (.cells #[.int .i64 t1, .int .i64 t2] 72)) w3) :
    Bx w3 sb s ∧ Bx w3 w1.heap.size (t1, t2) ∧ Below wc.heap.size wc w3 := by
  have h0 := hbx.lt
  have h1 : Below w1.heap.size w1 w3 := ((Below.refl _ _).alloc (Nat.le_refl _) _).trans (hb3.mono (by omega))
  have h2 : Below wc.heap.size wc w3 := hb1.trans (h1.mono hb1.size)
  exact ⟨hbx.below h2 h0, Bx.below (Blk.new w1 _ _) hb3 (by omega), h2⟩
/-- before, at a world that has grown out of another one -/
theorem before_bw {w0 : World} (t1 t2 s1 s2 : Int) {v : Bool} (h : bfr (t1, t2) (s1, s2) = v) (W : World) (hW : Below w0.heap.size w0 W) :
    Calls Try.prog 51 #[.agg #[.int .i64 t1, .int .i64 t2], .agg #[.int .i64 s1, .int .i64 s2]] W fun e w' => e = .returned (.bool v) ∧ Below w0.heap.size w0 w' :=
  (before_any (t1, t2) (s1, s2) W).mono fun e w' ⟨he, hb⟩ => ⟨by rw [← h]; exact he, hW.trans (hb.mono hW.size)⟩

def Gw (w W : World) : Prop := Below w.heap.size w W
theorem before_gw {w0 : World} (t1 t2 s1 s2 : Int) {v : Bool} (h : bfr (t1, t2) (s1, s2) = v) (W : World) (hW : Gw w0 W) :
    Calls Try.prog 51 #[.agg #[.int .i64 t1, .int .i64 t2], .agg #[.int .i64 s1, .int .i64 s2]] W fun e w' => e = .returned (.bool v) ∧ Gw w0 w' := before_bw t1 t2 s1 s2 h W hW
/-- a box made anew, beside another one and the aligner -/
theorem boxed {wc W : World} {sb KB : Nat} {s : Scr} {t1 t2 : Int} {kv : Value} (hbx : Bx wc sb s) (hk : wc.cell? ⟨KB, 2, none⟩ = some kv) (hW : Gw (wc.alloc (.cells #[.int .i64 t1, .int .i64 t2] 72)) W) :
    Bx W sb s ∧ Bx W wc.heap.size (t1, t2) ∧ W.cell? ⟨KB, 2, none⟩ = some kv ∧ Below wc.heap.size wc W := by
  have hb : Below (wc.heap.size + 1) (wc.alloc (.cells #[.int .i64 t1, .int .i64 t2] 72)) W := by simpa [Gw] using hW
  obtain ⟨h1, h2, h3⟩ := two_boxes hbx (Below.refl _ _) hb
  exact ⟨h1, h2, by rw [h3.cell (World.block_lt_of_cell? wc _ hk)]; exact hk, h3⟩

set_option maxRecDepth 100000 in
set_option maxHeartbeats 2000000 in
theorem afill_any (KB : Nat) (x : Two) (w : World) (hK : Blk w KB 70 (x.cells (.slice none 0 0))) (ha : RdS (fun b => b < w.heap.size ∧ b ≠ KB) w x.Aa (ic x.a)) (hb : RdS (fun b => b < w.heap.size ∧ b ≠ KB) w x.Ab (ic x.b))
    (hla : x.a.length ≤ 300) (hlb : x.b.length ≤ 300) (hg0 : 0 ≤ x.g) (hg1 : x.g ≤ 100) (hma : ∀ i, ∃ n : Nat, x.a.getD i 0 = (n : Int) ∧ n < 256) (hmb : ∀ i, ∃ n : Nat, x.b.getD i 0 = (n : Int) ∧ n < 256) :
    Calls Try.prog 39 #[.pointer (some ⟨KB, 0, none⟩)] w fun e w' => e = .returned (.tuple #[]) ∧ ∃ B arr, AInv w KB x 0 B arr w' := by
  obtain ⟨i2, hi2, hz20, hz21, hz22⟩ := info_parts info_ss
  obtain ⟨i1, hi1, hz10, hz11, hz12⟩ := info_parts info_s
  have hKB := hK.lt
  have c0 : w.cell? ⟨KB, 0, none⟩ = some (.slice x.Aa x.a.length x.ca) := hK.cell 0
  have c3 : w.cell? ⟨KB, 3, none⟩ = some (.slice none 0 0) := hK.cell 3
  have f3 : w.frozen? ⟨KB, 3, none⟩ = false := hK.frozen 3
  have hmk2 := run_mk (P := Try.prog) 68 73 i2 _ 24 Try.underlying68 hi2 hz20 hz21 hz22 rfl ((x.a.length : Int) + 1) (x.a.length + 1) (by omega) (by omega) (by omega)
  have HMK := Lib.hid (run_mk2 (P := Try.prog) 73 72 i1 Try.underlying73 hi1 hz10 hz11 hz12 ((x.b.length : Int) + 1) (x.b.length + 1) (by omega) (by omega))
  have HST := Lib.hid (ainv_start hK ha hb)
  have HMA := Lib.hid hma
  have HMB := Lib.hid hmb
  have HFIT : Hid (∀ i j, Fit x.g (x.a.length - i) (x.b.length - j) (bst x.g x.a x.b i j)) := fun i j => bst_fit hg0 i j
  have HBD : Hid (∀ i j, 0 ≤ (bst x.g x.a x.b i j).1 ∧ (bst x.g x.a x.b i j).1 ≤ 60000 ∧ 0 ≤ (bst x.g x.a x.b i j).2 ∧ (bst x.g x.a x.b i j).2 ≤ 300) := by
    intro i j
    obtain ⟨q1, q2, q3, q4, q5, _⟩ := HFIT.out i j
    have : x.g * (((x.a.length - i : Nat) : Int) + ((x.b.length - j : Nat) : Int)) ≤ 100 * 600 := Int.mul_le_mul hg1 (by omega) (by omega) (by omega)
    exact ⟨q1, by omega, q3, by omega⟩
  clear hK ha hb hma hmb hi2 hz20 hz21 hz22 hi1 hz10 hz11 hz12
  go_enter Try.func39, Try.ntmps39
  go_wp2
  go_loopw [2] (fun s wr => ∃ (lo B : Nat) (arr : List Value), lo ≤ x.a.length + 1 ∧ s = .int .i64 ((lo : Int) - 1) ∧ AInv w KB x lo B arr wr) (fun s _ => (intOf s + 1).toNat)
  case atStart => exact ⟨x.a.length + 1, w.heap.size + 1, zs (x.a.length + 1) (.slice none 0 0), Nat.le_refl _, by go_num, HST.out⟩
  case round =>
    obtain ⟨lo, B, arr, hlo, rfl, hinv⟩ := hrel
    by_cases hl0 : lo = 0
    · have hd : ¬ (0 : Int) ≤ (lo : Int) - 1 := by omega
      have hd' : ¬ (1 : Int) ≤ (lo : Int) := by omega
      have HL := Lib.hid hl0
      clear hl0
      go_wp2
      go_end0
      exact ⟨rfl, B, arr, by rw [← HL.out]; exact hinv⟩
    obtain ⟨i, rfl⟩ : ∃ s, lo = s + 1 := ⟨lo - 1, by omega⟩
    have hsub : ((i + 1 : Nat) : Int) - 1 = (i : Int) := by omega
    rw [hsub]
    clear hsub hl0 c0 c3 f3 hmk2
    have hs1 : i ≤ x.a.length := by omega
    obtain ⟨k0, k1, k2, k3⟩ := hinv.cells
    obtain ⟨v0, hv0, ho, hof⟩ := hinv.outer i hs1
    have hmk1 := HMK.out
    have hOsz : w.heap.size < wr.heap.size := by have := hinv.2.1; have := hinv.2.2.1; omega
    have hKsz : KB < wr.heap.size := by omega
    have hOK : w.heap.size ≠ KB := by omega
    have HINV := Lib.hid hinv
    clear hinv hv0
    have hi0 : (0 : Int) ≤ (i : Int) := by omega
    have hi1 : (i : Int) < (x.a.length : Int) + 1 := by omega
    go_upto_region 5 with (fail)
    go_cut [0] (fun v0 wx => v0 = .pointer (some ⟨KB, 0, none⟩) ∧ ∃ (g1 : Nat) (arr1 : List Value), B ≤ g1 ∧ Hid (arr1[i]? = some (.slice (some ⟨g1, 0, none⟩) (x.b.length + 1) (x.b.length + 1))) ∧ Jx w KB x i B arr1 g1 (x.b.length + 1) wx)
    case first =>
      as_aux_lemma =>
      have hwr : IntKind.i64.wrap ((x.b.length : Int) + 1) = (x.b.length : Int) + 1 := IntWalk.i64_in _ (by omega)
      go_region_held3 (fun w' => w'.cell? ⟨KB, 3, none⟩ = some (.slice (some ⟨w.heap.size, 0, none⟩) (x.a.length + 1) (x.a.length + 1)) ∧ w'.cell? ⟨KB, 1, none⟩ = some (.slice x.Ab x.b.length x.cb)) (first | go_keep) (fail)
      have hI1 : AInv w KB x (i + 1) B (arr.set i (.slice (some ⟨wr.heap.size, 0, none⟩) (x.b.length + 1) (x.b.length + 1))) ((wr.setCell ⟨w.heap.size, i, none⟩ (.slice (some ⟨wr.heap.size, 0, none⟩) (x.b.length + 1) (x.b.length + 1))).alloc (.cells (zp (x.b.length + 1)).toArray 72)).drew :=
        ((HINV.out.store (by omega) (by omega) _).below ((Below.refl _ _).alloc (by have := HINV.out.2.2.1; simpa [World.setCell] using this) _) (by omega)).below (Below.refl _ _).drew (by omega)
      have hI2 : RInv2 (rowP x.g x.a x.b i) wr.heap.size (x.b.length + 1) ((wr.setCell ⟨w.heap.size, i, none⟩ (.slice (some ⟨wr.heap.size, 0, none⟩) (x.b.length + 1) (x.b.length + 1))).alloc (.cells (zp (x.b.length + 1)).toArray 72)).drew := by
        have hsz : (wr.setCell ⟨w.heap.size, i, none⟩ (.slice (some ⟨wr.heap.size, 0, none⟩) (x.b.length + 1) (x.b.length + 1))).heap.size = wr.heap.size := by simp [World.setCell]
        have h1 := RInv2.start (row := rowP x.g x.a x.b i) (wr.setCell ⟨w.heap.size, i, none⟩ (.slice (some ⟨wr.heap.size, 0, none⟩) (x.b.length + 1) (x.b.length + 1))) (x.b.length + 1) (rowP_len _ _ _ _)
        rw [hsz] at h1
        exact h1.same rfl
      have hBw := HINV.out.2.2.1
      have harr : (arr.set i (.slice (some ⟨wr.heap.size, 0, none⟩) (x.b.length + 1) (x.b.length + 1)))[i]? = some (.slice (some ⟨wr.heap.size, 0, none⟩) (x.b.length + 1) (x.b.length + 1)) := by
        have := HINV.out.2.2.2.2.2.2.2.1
        rw [List.getElem?_set_self (by omega)]
      go_wp2_with fail
      go_meet
      case rel => exact ⟨rfl, wr.heap.size, _, hBw, harr, hI1, hI2⟩
    case rest =>
    clear HINV ho hof hmk1 hOsz hKsz k0 k1 k2 k3 HST hi0 hi1
    obtain ⟨rfl, g1, arr1, hBg, HARR, hJ⟩ := hcut
    obtain ⟨k0, k1, k2, k3⟩ := hJ.1.cells
    go_wp2
    clear k0 k1 k2 k3
    go_loopw [3] (fun jv wr => ∃ k : Nat, k ≤ x.b.length + 1 ∧ jv = .int .i64 ((k : Int) - 1) ∧ Jx w KB x i B arr1 g1 k wr) (fun jv _ => (intOf jv + 1).toNat)
    case atStart => exact ⟨x.b.length + 1, Nat.le_refl _, by go_num, hJ⟩
    case round =>
      clear hJ
      obtain ⟨k, hk, rfl, hJ⟩ := hrel
      by_cases hk0 : k = 0
      · have hd : ¬ (0 : Int) ≤ (k : Int) - 1 := by omega
        have hd' : ¬ (1 : Int) ≤ (k : Int) := by omega
        have hfin : AInv w KB x i wr.heap.size arr1 wr := by
          have hr := hJ.2
          rw [hk0] at hr
          have hl := hr.lt
          have hf := hr.full (S := fun b => B ≤ b ∧ b < wr.heap.size) ⟨hBg, hl⟩ (x.b.length + 1)
          rw [rowP_len] at hf
          exact hJ.1.done (by have := hJ.1.2.2.1; omega) (Nat.le_refl _) HARR.out hf
        clear hk0 hJ
        go_wp2
        go_roundw
        case rel => exact ⟨i, wr.heap.size, arr1, by omega, by go_num, hfin⟩
        case measure => simp [intOf]
      obtain ⟨j, rfl⟩ : ∃ j, k = j + 1 := ⟨k - 1, by omega⟩
      have hsub : ((j + 1 : Nat) : Int) - 1 = (j : Int) := by omega
      rw [hsub]
      clear hsub hk0
      have hj1 : j ≤ x.b.length := by omega
      have hmu : 0 ≤ x.g * ((x.a.length : Int) - i + x.b.length - j) ∧ x.g * ((x.a.length : Int) - i + x.b.length - j) ≤ 60000 := by
        have : x.g * ((x.a.length : Int) - i + x.b.length - j) ≤ 100 * 600 := Int.mul_le_mul hg1 (by omega) (by omega) (by omega)
        exact ⟨Int.mul_nonneg hg0 (by omega), by omega⟩
      have hd46 : decide ((0 : Int) ≤ (j : Int)) = true := by simp
      have hC0 : Hid (ce0 x i j = (x.g * ((x.a.length : Int) - i + x.b.length - j), 0)) := rfl
      go_upto_region 9 with (fail)
      go_cut [4] (fun v4 wx => ∃ sb : Nat, v4 = .pointer (some ⟨sb, 0, none⟩) ∧ g1 < sb ∧ Bx wx sb (ce0 x i j) ∧ Jx w KB x i B arr1 g1 (j + 1) wx)
      case first =>
        as_aux_lemma =>
        obtain ⟨k0, k1, k2, k3⟩ := hJ.1.cells
        have hKsz : KB < wr.heap.size := by have := hJ.1.2.1; have := hJ.1.2.2.1; omega
        have hg1z := hJ.2.lt
        have HJ := Lib.hid hJ
        clear hJ
        have hw1 : IntKind.i64.wrap ((x.a.length : Int) - i) = (x.a.length : Int) - i := IntWalk.i64_in _ (by omega)
        have hw2 : IntKind.i64.wrap ((x.a.length : Int) - i + x.b.length) = (x.a.length : Int) - i + x.b.length := IntWalk.i64_in _ (by omega)
        have hw3 : IntKind.i64.wrap ((x.a.length : Int) - i + x.b.length - j) = (x.a.length : Int) - i + x.b.length - j := IntWalk.i64_in _ (by omega)
        have hw4 : IntKind.i64.wrap (x.g * ((x.a.length : Int) - i + x.b.length - j)) = x.g * ((x.a.length : Int) - i + x.b.length - j) := IntWalk.i64_in _ (by omega)
        go_region_held3 (fun w' => w'.cell? ⟨KB, 2, none⟩ = some (.int .i64 x.g) ∧ w'.cell? ⟨KB, 0, none⟩ = some (.slice x.Aa x.a.length x.ca) ∧ w'.cell? ⟨KB, 1, none⟩ = some (.slice x.Ab x.b.length x.cb)) (first | go_keep) (fail)
        clear hw1 hw2 hw3 hw4
        go_wp2_with fail
        go_meet
        case rel => exact ⟨wr.heap.size, rfl, hg1z, Blk.new wr _ _, HJ.out.below (((Below.refl _ _).alloc (by omega) _).drew) hBg hKB⟩
      case rest =>
      clear hJ hd46
      obtain ⟨sb, rfl, hsb, hbx, hJ⟩ := hcut
      obtain ⟨b85, hb85⟩ : ∃ v, decide (i < x.a.length ∧ j < x.b.length) = v := ⟨_, rfl⟩
      have H85 := Lib.hid hb85
      clear hb85
      go_upto_region 9 with (fail)
      go_cut [85] (fun v wx => v = .bool b85 ∧ wx = wc)
      case first =>
        as_aux_lemma =>
        obtain ⟨k0, k1, k2, k3⟩ := hJ.1.cells
        by_cases h1 : i < x.a.length
        · have h1b : decide (i < x.a.length) = true := by simpa using h1
          by_cases h2 : j < x.b.length
          · have h2b : decide (j < x.b.length) = true := by simpa using h2
            have HE : Hid (decide (i < x.a.length ∧ j < x.b.length) = true) := by show _ = _; simp [h1, h2]
            clear h1 h2
            go_wp2_with fail
            go_meet
            case rel => exact ⟨by rw [← H85.out, HE.out], rfl⟩
          · have h2b : decide (j < x.b.length) = false := by simpa using h2
            have HE : Hid (decide (i < x.a.length ∧ j < x.b.length) = false) := by show _ = _; simp [h2]
            clear h1 h2
            go_wp2_with fail
            go_meet
            case rel => exact ⟨by rw [← H85.out, HE.out], rfl⟩
        · have h1b : decide (i < x.a.length) = false := by simpa using h1
          have HE : Hid (decide (i < x.a.length ∧ j < x.b.length) = false) := by show _ = _; simp [h1]
          clear h1
          go_wp2_with fail
          go_meet
          case rel => exact ⟨by rw [← H85.out, HE.out], rfl⟩
      case rest =>
      obtain ⟨rfl, rfl⟩ := hcut
      go_upto_if 85 with (fail)
      go_cut [5] (fun _ wx => Bx wx sb (ce1 x i j) ∧ Jx w KB x i B arr1 g1 (j + 1) wx)
      case first =>
        as_aux_lemma =>
        by_cases hc : i < x.a.length ∧ j < x.b.length
        case neg =>
          have hcb : b85 = false := by rw [← H85.out]; simpa using hc
          subst hcb
          have HCE : Hid (ce1 x i j = ce0 x i j) := by show _ = _; unfold ce1; rw [if_neg hc]
          clear hc
          go_wp2_with fail
          go_meet
          case rel => exact ⟨by rw [HCE.out]; exact hbx, hJ⟩
        have hcb : b85 = true := by rw [← H85.out]; simpa using hc
        subst hcb
        have HCE : Hid (ce1 x i j = sel (ce0 x i j) (lkS x.g x.a x.b i j)) := by show _ = _; unfold ce1; rw [if_pos hc]
        obtain ⟨h1, h2⟩ := hc
        obtain ⟨na, hna, hna2⟩ := HMA.out i
        obtain ⟨nb, hnb, hnb2⟩ := HMB.out j
        obtain ⟨b3, off3, cc3, e1, e2, e3⟩ := hJ.1.entry (s := i + 1) (j := j + 1) (Nat.le_refl _) (by omega) (by omega)
        obtain ⟨ba, oa, hAa, hac⟩ := hJ.1.mark_a h1
        obtain ⟨bb, ob, hAb, hbc⟩ := hJ.1.mark_b h2
        obtain ⟨k0, k1, k2, k3⟩ := hJ.1.cells
        rw [hAa] at k0
        rw [hAb] at k1
        rw [hna] at hac
        rw [hnb] at hbc
        obtain ⟨p1, p2, p3, p4⟩ := HBD.out (i + 1) (j + 1)
        have hlk := link_any KB w.heap.size b3 off3 x.a.length x.b.length x.ca x.cb cc3 (x.a.length + 1) ⟨ba, oa, none⟩ ⟨bb, ob, none⟩ i j na nb (bst x.g x.a x.b (i + 1) (j + 1)) wc k0 k1 k3 e1 e2 e3 hac hbc h1 h2 (by omega) (by omega) hna2 hnb2 p1 (by omega) p3 (by omega)
        have hle : lnk (bst x.g x.a x.b (i + 1) (j + 1)) (bd (na : Int) (nb : Int)) = lkS x.g x.a x.b i j := by unfold lkS lnk; rw [hna, hnb]
        rw [hle] at hlk
        generalize lkS x.g x.a x.b i j = t at *
        obtain ⟨t1, t2⟩ := t
        generalize ce0 x i j = s0 at *
        obtain ⟨s1, s2⟩ := s0
        have HL : Hid (Calls Try.prog 50 #[.pointer (some ⟨KB, 0, none⟩), .int .i64 (i : Int), .int .i64 (j : Int)] wc fun e w' => e = .returned (.agg #[.int .i64 t1, .int .i64 t2]) ∧ Below wc.heap.size wc w') := hlk
        have HBX := Lib.hid hbx
        have HJ := Lib.hid hJ
        clear hlk hle hna hnb hAa hAb hac hbc e1 e2 e3 k0 k1 k2 k3 p1 p2 p3 p4 hbx hJ hC0
        obtain ⟨v, hv⟩ : ∃ v, bfr (t1, t2) (s1, s2) = v := ⟨_, rfl⟩
        have HBF := Lib.hid (fun (W : World) => before_bw (w0 := W) t1 t2 s1 s2 hv W (Below.refl _ _))
        have HV := Lib.hid hv
        clear hv
        go_wp2_with fail
        refine HL.out.mono ?_
        rintro e w1 ⟨rfl, hb1⟩
        have HB1 := Lib.hid hb1
        obtain ⟨q0, q1, _, _, q4⟩ := (HBX.out.below hb1 HBX.out.lt).cells
        clear hb1
        go_wp2_with fail
        refine (HBF.out _).mono ?_
        rintro e w3 ⟨rfl, hb3⟩
        have hb3' : Below (w1.heap.size + 1) (w1.alloc (.cells #[.int .i64 t1, .int .i64 t2] 72)) w3 := by simpa using hb3
        obtain ⟨hx3, hy3, hz3⟩ := two_boxes HBX.out HB1.out hb3'
        have HX3 := Lib.hid hx3
        have HJ3 := Lib.hid (HJ.out.below (hz3.mono (by have := HJ.out.2.lt; omega)) hBg hKB)
        obtain ⟨y0, y1, _, _, y4⟩ := hy3.cells
        obtain ⟨x0, x1, x2, x3, x4⟩ := hx3.cells
        clear hb3 hb3' hx3 hy3 hz3 HBX HJ HB1 q0 q1 q4
        cases v with
        | true =>
          go_wp2_with fail
          go_meet
          case rel =>
            refine ⟨by rw [HCE.out, sel_t HV.out]; exact HX3.out.set (t1, t2), HJ3.out.below ?_ hBg hKB⟩
            exact Below.setCell (p := ⟨sb, 1, none⟩) (Below.setCell (p := ⟨sb, 0, none⟩) (Below.refl _ _) (by simp; omega) _) (by simp; omega) _
        | false =>
          go_wp2_with fail
          go_meet
          case rel => exact ⟨by rw [HCE.out, sel_f HV.out]; exact HX3.out, HJ3.out⟩
      case rest =>
      clear hbx hJ hC0
      obtain ⟨hbx, hJ⟩ := hcut
      obtain ⟨b100, h100⟩ : ∃ v, decide (i < x.a.length) = v := ⟨_, rfl⟩
      obtain ⟨k0, k1, k2, k3⟩ := hJ.1.cells
      go_upto_if 100 with (fail)
      go_cut [6] (fun _ wx => Bx wx sb (ce2 x i j) ∧ Jx w KB x i B arr1 g1 (j + 1) wx)
      case first =>
        as_aux_lemma =>
        cases b100 with
        | false =>
          have hn : ¬ (i < x.a.length) := by simpa using h100
          have HCE : Hid (ce2 x i j = ce1 x i j) := by show _ = _; unfold ce2; rw [if_neg hn]
          clear hn
          go_wp2_with fail
          go_meet
          case rel => exact ⟨by rw [HCE.out]; exact hbx, hJ⟩
        | true =>
          have hy : i < x.a.length := by simpa using h100
          have HCE : Hid (ce2 x i j = sel (ce1 x i j) (skp (bst x.g x.a x.b (i + 1) j) x.g)) := by show _ = _; unfold ce2; rw [if_pos hy]
          obtain ⟨b3, off3, cc3, e1, e2, e3⟩ := hJ.1.entry (s := i + 1) (j := j) (Nat.le_refl _) (by omega) hj1
          obtain ⟨p1, p2, p3, p4⟩ := HBD.out (i + 1) j
          have hKz : KB < wc.heap.size := World.block_lt_of_cell? wc _ k3
          have hHz : w.heap.size < wc.heap.size := World.block_lt_of_cell? wc _ e1
          have hbz := World.block_lt_of_cell? wc _ e2
          simp only at hbz
          generalize bst x.g x.a x.b (i + 1) j = t at *
          obtain ⟨t1, t2⟩ := t
          generalize ce1 x i j = s0 at *
          obtain ⟨s1, s2⟩ := s0
          simp only at e2 e3 p1 p2 p3 p4
          obtain ⟨z0, z1, _, _, z4⟩ := hbx.cells
          simp only at z0 z1
          obtain ⟨v, hv⟩ : ∃ v, bfr (t1 + x.g, t2) (s1, s2) = v := ⟨_, rfl⟩
          have HV := Lib.hid hv
          have HBF := Lib.hid (fun (W : World) (hW : Gw (wc.alloc (.cells #[.int .i64 t1, .int .i64 t2] 72)) W) => before_gw (t1 + x.g) t2 s1 s2 hv W hW)
          have HS : Hid (∀ W, Gw (wc.alloc (.cells #[.int .i64 t1, .int .i64 t2] 72)) W → W.cell? ⟨wc.heap.size, 0, none⟩ = some (.int .i64 t1) ∧ W.cell? ⟨wc.heap.size, 1, none⟩ = some (.int .i64 t2) ∧ W.cell? ⟨KB, 2, none⟩ = some (.int .i64 x.g) ∧ W.cell? ⟨sb, 0, none⟩ = some (.int .i64 s1) ∧ W.cell? ⟨sb, 1, none⟩ = some (.int .i64 s2) ∧ Gw (wc.alloc (.cells #[.int .i64 t1, .int .i64 t2] 72)) W) := by
            intro W hW
            obtain ⟨q1, q2, q3, _⟩ := boxed hbx k2 hW
            obtain ⟨r0, r1, _⟩ := q1.cells
            obtain ⟨r2, r3, _⟩ := q2.cells
            exact ⟨r2, r3, q3, r0, r1, hW⟩
          have hBD : Gw (wc.alloc (.cells #[.int .i64 t1, .int .i64 t2] 72)) (wc.alloc (.cells #[.int .i64 t1, .int .i64 t2] 72)).drew := (Below.refl _ _).drew
          have HBX := Lib.hid hbx
          have HJ := Lib.hid hJ
          have HK2 := Lib.hid k2
          clear hv hbx hJ
          go_wp2_with fail
          have hw1 : IntKind.i64.wrap (t1 + x.g) = t1 + x.g := IntWalk.i64_in _ (by omega)
          go_region_held3 (fun W => W.cell? ⟨wc.heap.size, 0, none⟩ = some (.int .i64 t1) ∧ W.cell? ⟨wc.heap.size, 1, none⟩ = some (.int .i64 t2) ∧ W.cell? ⟨KB, 2, none⟩ = some (.int .i64 x.g) ∧ W.cell? ⟨sb, 0, none⟩ = some (.int .i64 s1) ∧ W.cell? ⟨sb, 1, none⟩ = some (.int .i64 s2) ∧ Gw (wc.alloc (.cells #[.int .i64 t1, .int .i64 t2] 72)) W)
            (first | exact HS.out _ hBD | exact HS.out _ hqB)
            (first | (go_at_call 51; refine (HBF.out _ (by first | assumption | (go_split_ands; assumption))).mono ?_; rintro e wA ⟨rfl, hqB⟩))
          obtain ⟨hx3, hy3, hk3, hz3⟩ := boxed HBX.out HK2.out hqB
          have HX3 := Lib.hid hx3
          have HJ3 := Lib.hid (HJ.out.below (hz3.mono (by have := HJ.out.2.lt; omega)) hBg hKB)
          obtain ⟨y0, y1, _, _, y4⟩ := hy3.cells
          obtain ⟨x0, x1, x2, x3, x4⟩ := hx3.cells
          simp only at y0 y1 x0 x1
          have hsy : sb ≠ wc.heap.size := by omega
          have hsk : sb ≠ KB := by have := HJ.out.1.2.1; omega
          clear hqB hx3 hy3 hz3 HBX HJ HK2 HS HBF hBD z0 z1 e1 e2 e3 k0 k1 k2 k3
          cases v with
          | true =>
            go_wp2_with fail
            go_region_held3 (fun W => W.cell? ⟨wc.heap.size, 0, none⟩ = some (.int .i64 t1) ∧ W.cell? ⟨wc.heap.size, 1, none⟩ = some (.int .i64 t2) ∧ W.cell? ⟨KB, 2, none⟩ = some (.int .i64 x.g)) (first | go_keep) (fail)
            clear hw1
            go_wp2_with fail
            go_meet
            case rel =>
              have hset := HX3.out.set (t1 + x.g, t2)
              have hsel := sel_t HV.out
              refine ⟨by rw [HCE.out]; unfold skp; rw [hsel]; exact hset, HJ3.out.below ?_ hBg hKB⟩
              exact (Below.setCell (p := ⟨sb, 1, none⟩) (Below.setCell (p := ⟨sb, 0, none⟩) (Below.refl _ _) (by simp; omega) _) (by simp; omega) _).drew
          | false =>
            clear hw1
            go_wp2_with fail
            go_meet
            case rel =>
              have hsel := sel_f HV.out
              exact ⟨by rw [HCE.out]; unfold skp; rw [hsel]; exact HX3.out, HJ3.out⟩
      case rest =>
      clear hbx hJ h100 k0 k1 k2 k3
      obtain ⟨hbx, hJ⟩ := hcut
      obtain ⟨b140, h140⟩ : ∃ v, decide (j < x.b.length) = v := ⟨_, rfl⟩
      obtain ⟨k0, k1, k2, k3⟩ := hJ.1.cells
      go_upto_if 140 with (fail)
      go_cut [7] (fun _ wx => Bx wx sb (ce3 x i j) ∧ Jx w KB x i B arr1 g1 (j + 1) wx)
      case first =>
        as_aux_lemma =>
        cases b140 with
        | false =>
          have hn : ¬ (j < x.b.length) := by simpa using h140
          have HCE : Hid (ce3 x i j = ce2 x i j) := by show _ = _; unfold ce3; rw [if_neg hn]
          clear hn
          go_wp2_with fail
          go_meet
          case rel => exact ⟨by rw [HCE.out]; exact hbx, hJ⟩
        | true =>
          have hy : j < x.b.length := by simpa using h140
          have HCE : Hid (ce3 x i j = sel (ce2 x i j) (skp (bst x.g x.a x.b i (j + 1)) x.g)) := by show _ = _; unfold ce3; rw [if_pos hy]
          have e1 : wc.cell? ⟨w.heap.size, i, none⟩ = some (.slice (some ⟨g1, 0, none⟩) (x.b.length + 1) (x.b.length + 1)) := by
            obtain ⟨v, hv, hc, _⟩ := hJ.1.outer i hs1
            rw [HARR.out] at hv; rw [hc, ← hv]
          obtain ⟨e2, e3⟩ := hJ.2.at_ (j := j + 1) (by rw [rowP_len]; omega) (Nat.le_refl _)
          rw [rowP_at] at e2 e3
          obtain ⟨p1, p2, p3, p4⟩ := HBD.out i (j + 1)
          have hKz : KB < wc.heap.size := World.block_lt_of_cell? wc _ k3
          have hHz : w.heap.size < wc.heap.size := World.block_lt_of_cell? wc _ e1
          have hbz := World.block_lt_of_cell? wc _ e2
          simp only at hbz
          generalize bst x.g x.a x.b i (j + 1) = t at *
          obtain ⟨t1, t2⟩ := t
          generalize ce2 x i j = s0 at *
          obtain ⟨s1, s2⟩ := s0
          simp only at e2 e3 p1 p2 p3 p4
          obtain ⟨z0, z1, _, _, z4⟩ := hbx.cells
          simp only at z0 z1
          obtain ⟨v, hv⟩ : ∃ v, bfr (t1 + x.g, t2) (s1, s2) = v := ⟨_, rfl⟩
          have HV := Lib.hid hv
          have HBF := Lib.hid (fun (W : World) (hW : Gw (wc.alloc (.cells #[.int .i64 t1, .int .i64 t2] 72)) W) => before_gw (t1 + x.g) t2 s1 s2 hv W hW)
          have HS : Hid (∀ W, Gw (wc.alloc (.cells #[.int .i64 t1, .int .i64 t2] 72)) W → W.cell? ⟨wc.heap.size, 0, none⟩ = some (.int .i64 t1) ∧ W.cell? ⟨wc.heap.size, 1, none⟩ = some (.int .i64 t2) ∧ W.cell? ⟨KB, 2, none⟩ = some (.int .i64 x.g) ∧ W.cell? ⟨sb, 0, none⟩ = some (.int .i64 s1) ∧ W.cell? ⟨sb, 1, none⟩ = some (.int .i64 s2) ∧ Gw (wc.alloc (.cells #[.int .i64 t1, .int .i64 t2] 72)) W) := by
            intro W hW
            obtain ⟨q1, q2, q3, _⟩ := boxed hbx k2 hW
            obtain ⟨r0, r1, _⟩ := q1.cells
            obtain ⟨r2, r3, _⟩ := q2.cells
            exact ⟨r2, r3, q3, r0, r1, hW⟩
          have hBD : Gw (wc.alloc (.cells #[.int .i64 t1, .int .i64 t2] 72)) (wc.alloc (.cells #[.int .i64 t1, .int .i64 t2] 72)).drew := (Below.refl _ _).drew
          have HBX := Lib.hid hbx
          have HJ := Lib.hid hJ
          have HK2 := Lib.hid k2
          clear hv hbx hJ
          go_wp2_with fail
          have hw1 : IntKind.i64.wrap (t1 + x.g) = t1 + x.g := IntWalk.i64_in _ (by omega)
          go_region_held3 (fun W => W.cell? ⟨wc.heap.size, 0, none⟩ = some (.int .i64 t1) ∧ W.cell? ⟨wc.heap.size, 1, none⟩ = some (.int .i64 t2) ∧ W.cell? ⟨KB, 2, none⟩ = some (.int .i64 x.g) ∧ W.cell? ⟨sb, 0, none⟩ = some (.int .i64 s1) ∧ W.cell? ⟨sb, 1, none⟩ = some (.int .i64 s2) ∧ Gw (wc.alloc (.cells #[.int .i64 t1, .int .i64 t2] 72)) W)
            (first | exact HS.out _ hBD | exact HS.out _ hqB)
            (first | (go_at_call 51; refine (HBF.out _ (by first | assumption | (go_split_ands; assumption))).mono ?_; rintro e wA ⟨rfl, hqB⟩))
          obtain ⟨hx3, hy3, hk3, hz3⟩ := boxed HBX.out HK2.out hqB
          have HX3 := Lib.hid hx3
          have HJ3 := Lib.hid (HJ.out.below (hz3.mono (by have := HJ.out.2.lt; omega)) hBg hKB)
          obtain ⟨y0, y1, _, _, y4⟩ := hy3.cells
          obtain ⟨x0, x1, x2, x3, x4⟩ := hx3.cells
          simp only at y0 y1 x0 x1
          have hsy : sb ≠ wc.heap.size := by omega
          have hsk : sb ≠ KB := by have := HJ.out.1.2.1; omega
          clear hqB hx3 hy3 hz3 HBX HJ HK2 HS HBF hBD z0 z1 e1 e2 e3 k0 k1 k2 k3
          cases v with
          | true =>
            go_wp2_with fail
            go_region_held3 (fun W => W.cell? ⟨wc.heap.size, 0, none⟩ = some (.int .i64 t1) ∧ W.cell? ⟨wc.heap.size, 1, none⟩ = some (.int .i64 t2) ∧ W.cell? ⟨KB, 2, none⟩ = some (.int .i64 x.g)) (first | go_keep) (fail)
            clear hw1
            go_wp2_with fail
            go_meet
            case rel =>
              have hset := HX3.out.set (t1 + x.g, t2)
              have hsel := sel_t HV.out
              refine ⟨by rw [HCE.out]; unfold skp; rw [hsel]; exact hset, HJ3.out.below ?_ hBg hKB⟩
              exact (Below.setCell (p := ⟨sb, 1, none⟩) (Below.setCell (p := ⟨sb, 0, none⟩) (Below.refl _ _) (by simp; omega) _) (by simp; omega) _).drew
          | false =>
            clear hw1
            go_wp2_with fail
            go_meet
            case rel =>
              have hsel := sel_f HV.out
              exact ⟨by rw [HCE.out]; unfold skp; rw [hsel]; exact HX3.out, HJ3.out⟩
      case rest =>
      clear hbx hJ h140 k0 k1 k2 k3
      obtain ⟨hbx, hJ⟩ := hcut
      have HCE := Lib.hid (ce_eq x i j hs1 hj1)
      have e1 : wc.cell? ⟨w.heap.size, i, none⟩ = some (.slice (some ⟨g1, 0, none⟩) (x.b.length + 1) (x.b.length + 1)) := by
        obtain ⟨v, hv, hc, _⟩ := hJ.1.outer i hs1
        rw [HARR.out] at hv; rw [hc, ← hv]
      obtain ⟨k0, k1, k2, k3⟩ := hJ.1.cells
      obtain ⟨⟨o1, e2⟩, ⟨o2, e3⟩, e4, e5⟩ := hJ.2.cellF (j := j) (by rw [rowP_len]; omega)
      obtain ⟨z0, z1, _, _, z4⟩ := hbx.cells
      generalize ce3 x i j = s0 at *
      obtain ⟨s1, s2⟩ := s0
      simp only at z0 z1
      have HJ := Lib.hid hJ
      have hgk : g1 ≠ KB := by have := hJ.1.2.1; omega
      have hgh : g1 ≠ w.heap.size := by have := hJ.1.2.1; omega
      have hgs : g1 ≠ sb := by omega
      have hjx : (j : Int) < (x.b.length : Int) + 1 := by omega
      have hj0 : (0 : Int) ≤ (j : Int) := by omega
      have hix : (i : Int) < (x.a.length : Int) + 1 := by omega
      have hi0 : (0 : Int) ≤ (i : Int) := by omega
      clear hJ hbx
      go_wp2_with fail
      go_region_held3 (fun W => W.cell? ⟨KB, 3, none⟩ = some (.slice (some ⟨w.heap.size, 0, none⟩) (x.a.length + 1) (x.a.length + 1)) ∧ W.cell? ⟨w.heap.size, i, none⟩ = some (.slice (some ⟨g1, 0, none⟩) (x.b.length + 1) (x.b.length + 1)) ∧ W.cell? ⟨sb, 0, none⟩ = some (.int .i64 s1) ∧ W.cell? ⟨sb, 1, none⟩ = some (.int .i64 s2)) (first | go_keep) (fail)
      have hrow := HJ.out.2.store (k := j) (by rw [rowP_len]; omega) (s := (s1, s2)) (by rw [rowP_at]; exact HCE.out)
      have hfin : Jx w KB x i B arr1 g1 j ((wc.setCell ⟨g1, j * 2, none⟩ (.int .i64 s1)).setCell ⟨g1, j * 2 + 1, none⟩ (.int .i64 s2)).drew :=
        ⟨HJ.out.1.below (Below.setCell (p := ⟨g1, j * 2 + 1, none⟩) (Below.setCell (p := ⟨g1, j * 2, none⟩) (Below.refl _ _) hBg _) hBg _).drew hKB, hrow.same rfl⟩
      have HFIN := Lib.hid hfin
      clear hrow hfin HJ
      go_wp2_with fail
      go_roundw
      case rel => exact ⟨j, by omega, by go_num, HFIN.out⟩
      case measure => simp [intOf]
end Go.Proofs.Ytdgkchdobmhpnaa
