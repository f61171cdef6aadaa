/- The contract of (*chooser).fill. -/
import Derived.Test.YtdgkchdobmhpnaaChooseB
import Derived.Deep.RegionHeld3
import Derived.Deep.DeepCutAuto
namespace Go.Proofs.Ytdgkchdobmhpnaa
open Go.RowKit Go.Dw

theorem info_sl2 : (Try.prog.info? 39).map (fun i => (i.zero, i.size, i.bytes)) = some (some (.slice none 0 0), 1, 24) := by kernel_rfl
theorem info_sl1 : (Try.prog.info? 22).map (fun i => (i.zero, i.size, i.bytes)) = some (some (.slice none 0 0), 1, 24) := by kernel_rfl
theorem info_i : (Try.prog.info? 3).map (fun i => (i.zero, i.size, i.bytes)) = some (some (.int .i64 0), 1, 8) := by kernel_rfl

theorem inv_start {w : World} {KB n T M : Nat} {cost : Int} {pv : Value} {pts : List (List Int)} (hK : Blk w KB 64 (kCells T pv cost M (.slice none 0 0))) (hp : RdIIs (fun b => b < w.heap.size ∧ b ≠ KB) w pv pts) :
    Inv w KB n T M cost pv pts n (w.heap.size + 1) (zs n (.slice none 0 0)) ((w.setCell ⟨KB, 4, none⟩ (.slice (some ⟨w.heap.size, 0, none⟩) n n)).alloc (.cells (zs n (.slice none 0 0)).toArray 39)) := by
  have hlt := hK.lt
  have hsz : (w.setCell ⟨KB, 4, none⟩ (.slice (some ⟨w.heap.size, 0, none⟩) n n)).heap.size = w.heap.size := by simp [World.setCell]
  refine ⟨?_, by omega, by simp [hsz], ?_, ?_, ?_, zs_length _ _, ?_⟩
  · refine ⟨rfl, rfl, rfl, by simp [hsz], fun k hk hne => ?_⟩
    rw [Below.heap_alloc _ _ _ (by rw [hsz]; exact hk), Below.heap_setCell _ _ _ _ (fun e => hne (by rw [e]))]
  · exact (Below.heap_alloc _ _ KB (by rw [hsz]; exact hlt)).trans (hK.set_ 4 _)
  · exact (hp.same (Same.set _ _ _ (by simp))).same (Same.alloc _ _)
  · have h1 := Blk.new (w.setCell ⟨KB, 4, none⟩ (.slice (some ⟨w.heap.size, 0, none⟩) n n)) 39 (zs n (.slice none 0 0))
    rw [hsz] at h1
    exact h1
  · intro s hs hl
    rw [zs_length] at hl; omega

set_option maxRecDepth 100000 in
set_option maxHeartbeats 2000000 in
theorem fill_any (KB n T M : Nat) (cost : Int) (PA : Option Addr) (pcap : Nat) (pts : List (List Int)) (w : World) (hK : Blk w KB 64 (kCells T (.slice PA n pcap) cost M (.slice none 0 0)))
    (hp : RdIIs (fun b => b < w.heap.size ∧ b ≠ KB) w (.slice PA n pcap) pts) (hn : pts.length = n) (hn60 : n ≤ 60) (hT : T ≤ 20) (hM : M ≤ 60) (hc0 : 0 ≤ cost) (hc1 : cost ≤ 1000000)
    (hrow : ∀ s, s < n → (pts.getD s []).length = T) (hent : ∀ s t, -1 ≤ (pts.getD s []).getD t 0 ∧ (pts.getD s []).getD t 0 ≤ 1000000) :
    Calls Try.prog 36 #[.pointer (some ⟨KB, 0, none⟩)] w fun e w' => e = .returned (.tuple #[]) ∧ ∃ B arr, Inv w KB n T M cost (.slice PA n pcap) pts 0 B arr w' := by
  obtain ⟨i2, hi2, hz20, hz21, hz22⟩ := info_parts info_sl2
  obtain ⟨i1, hi1, hz10, hz11, hz12⟩ := info_parts info_sl1
  obtain ⟨i0, hi0, hz00, hz01, hz02⟩ := info_parts info_i
  have hKB := hK.lt
  have c1 : w.cell? ⟨KB, 1, none⟩ = some (.slice PA n pcap) := hK.cell 1
  have c4 : w.cell? ⟨KB, 4, none⟩ = some (.slice none 0 0) := hK.cell 4
  have f4 : w.frozen? ⟨KB, 4, none⟩ = false := hK.frozen 4
  have hmk2 := run_mk (P := Try.prog) 62 39 i2 _ 24 Try.underlying62 hi2 hz20 hz21 hz22 rfl n n rfl (by omega) (by omega)
  have HST := Lib.hid (inv_start (n := n) hK hp)
  have HROW := Lib.hid hrow
  have HENT := Lib.hid hent
  have HN := Lib.hid hn
  clear hrow hent hK hp hn
  go_enter Try.func36, Try.ntmps36
  go_wp2
  go_loopw [3] (fun s wr => ∃ (lo B : Nat) (arr : List Value), lo ≤ n ∧ s = .int .i64 ((lo : Int) - 1) ∧ Inv w KB n T M cost (.slice PA n pcap) pts lo B arr wr) (fun s _ => (intOf s + 1).toNat)
  case atStart => exact ⟨n, w.heap.size + 1, zs n (.slice none 0 0), Nat.le_refl _, rfl, HST.out⟩
  case round =>
    obtain ⟨lo, B, arr, hlo, rfl, hinv⟩ := hrel
    by_cases hl0 : lo = 0
    · have hd : ¬ (0 : Int) ≤ (lo : Int) - 1 := by omega
      have hd' : ¬ (1 : Int) ≤ (lo : Int) := by omega
      have HL := Lib.hid hl0
      clear hl0
      go_wp2
      go_end0
      exact ⟨rfl, B, arr, by rw [← HL.out]; exact hinv⟩
    obtain ⟨s, rfl⟩ : ∃ s, lo = s + 1 := ⟨lo - 1, by omega⟩
    have hsub : ((s + 1 : Nat) : Int) - 1 = (s : Int) := by omega
    rw [hsub]
    clear hsub hl0
    have hs1 : s < n := by omega
    obtain ⟨k0, k1, k2, k3, k4⟩ := hinv.cells
    obtain ⟨v0, hv0, ho, hof⟩ := hinv.outer s hs1
    have hmk1 := run_mk (P := Try.prog) 39 22 i1 _ 24 Try.underlying39 hi1 hz10 hz11 hz12 rfl T T rfl (by omega) (by omega)
    have hOsz : w.heap.size < wr.heap.size := by have := hinv.2.1; have := hinv.2.2.1; omega
    have hKsz : KB < wr.heap.size := by omega
    have hOK : w.heap.size ≠ KB := by omega
    have HINV := Lib.hid hinv
    clear hinv
    go_upto_region 5 with (fail)
    go_cut [0] (fun v0 wx => v0 = .pointer (some ⟨KB, 0, none⟩) ∧ ∃ (g1 : Nat) (arr1 : List Value), B ≤ g1 ∧ Hid (arr1[s]? = some (.slice (some ⟨g1, 0, none⟩) T T)) ∧ Inv w KB n T M cost (.slice PA n pcap) pts (s + 1) B arr1 wx ∧ Inv2 (decide (s + 1 = n)) (tb T M cost pts (s + 1)) cost T M (pts.getD s []) g1 0 (g1 + 1) (zs T (.slice none 0 0)) wx)
    case first =>
      go_region_held3 (fun w' => w'.cell? ⟨KB, 4, none⟩ = some (.slice (some ⟨w.heap.size, 0, none⟩) n n) ∧ w'.cell? ⟨KB, 0, none⟩ = some (.int .i64 T)) (first | go_keep) (fail)
      have hI1 : Inv w KB n T M cost (.slice PA n pcap) pts (s + 1) B (arr.set s (.slice (some ⟨wr.heap.size, 0, none⟩) T T)) ((wr.setCell ⟨w.heap.size, s, none⟩ (.slice (some ⟨wr.heap.size, 0, none⟩) T T)).alloc (.cells (zs T (.slice none 0 0)).toArray 22)).drew :=
        ((HINV.out.store (by omega) (by omega) _).below ((Below.refl _ _).alloc (by have := HINV.out.2.2.1; simpa [World.setCell] using this) _) (by omega)).below (Below.refl _ _).drew (by omega)
      have hI2 : Inv2 (decide (s + 1 = n)) (tb T M cost pts (s + 1)) cost T M (pts.getD s []) wr.heap.size 0 (wr.heap.size + 1) (zs T (.slice none 0 0)) ((wr.setCell ⟨w.heap.size, s, none⟩ (.slice (some ⟨wr.heap.size, 0, none⟩) T T)).alloc (.cells (zs T (.slice none 0 0)).toArray 22)).drew := by
        have hsz : (wr.setCell ⟨w.heap.size, s, none⟩ (.slice (some ⟨wr.heap.size, 0, none⟩) T T)).heap.size = wr.heap.size := by simp [World.setCell]
        have h1 := Blk.new (wr.setCell ⟨w.heap.size, s, none⟩ (.slice (some ⟨wr.heap.size, 0, none⟩) T T)) 22 (zs T (.slice none 0 0))
        rw [hsz] at h1
        exact ⟨by omega, by simp [hsz], h1, zs_length _ _, fun u hu => by omega⟩
      have hBw := HINV.out.2.2.1
      have harr : (arr.set s (.slice (some ⟨wr.heap.size, 0, none⟩) T T))[s]? = some (.slice (some ⟨wr.heap.size, 0, none⟩) T T) := by
        have := HINV.out.2.2.2.2.2.2.1
        rw [List.getElem?_set_self (by omega)]
      go_wp2_with fail
      go_meet
      case rel => exact ⟨rfl, wr.heap.size, _, hBw, harr, hI1, hI2⟩
    case rest =>
    clear HINV hmk1 ho hof hv0 k0 k1 k2 k3 k4 hmk2 hOsz hKsz
    obtain ⟨rfl, g1, arr1, hBw, HARR, hI1, hI2⟩ := hcut
    obtain ⟨k0, k1, k2, k3, k4⟩ := hI1.cells
    have ho : wc.cell? ⟨w.heap.size, s, none⟩ = some (.slice (some ⟨g1, 0, none⟩) T T) := by
      obtain ⟨v, hv, hc, _⟩ := hI1.outer s hs1
      rw [HARR.out] at hv; rw [hc, ← hv]
    go_wp2
    clear ho k0 k1 k2 k3 k4
    go_loopw [45] (fun i wr => ∃ (t B2 : Nat) (ar2 : List Value), t ≤ T ∧ i = .int .i64 t ∧ Inv w KB n T M cost (.slice PA n pcap) pts (s + 1) B arr1 wr ∧ Inv2 (decide (s + 1 = n)) (tb T M cost pts (s + 1)) cost T M (pts.getD s []) g1 t B2 ar2 wr) (fun i _ => T - (intOf i).toNat)
    case atStart => exact ⟨0, g1 + 1, zs T (.slice none 0 0), Nat.zero_le _, rfl, hI1, hI2⟩
    case round =>
      clear hI1 hI2
      obtain ⟨t, B2, ar2, ht, rfl, hI1, hI2⟩ := hrel
      by_cases hlt : t < T
      case neg =>
        have hfin : Inv w KB n T M cost (.slice PA n pcap) pts s B2 arr1 wr := by
          have ht' : t = T := by omega
          rw [ht'] at hI2
          exact hI1.done (by have := hI2.1; omega) hI2.2.1 HARR.out (by rw [tb_eq _ _ _ _ _ (by rw [HN.out]; exact hs1), HN.out]; exact hI2.table.mono (fun b _ hb => ⟨by omega, hb.2⟩))
        go_wp2
        go_roundw
        case rel => exact ⟨s, B2, arr1, by omega, by go_num, hfin⟩
        case measure => simp [intOf]
      obtain ⟨k0, k1, k2, k3, k4⟩ := hI1.cells
      have ho : wr.cell? ⟨w.heap.size, s, none⟩ = some (.slice (some ⟨g1, 0, none⟩) T T) := by
        obtain ⟨v, hv, hc, _⟩ := hI1.outer s hs1
        rw [HARR.out] at hv; rw [hc, ← hv]
      obtain ⟨v1, hv1, hr1, hf1⟩ := hI2.row t hlt
      have hmk0 := run_mk (P := Try.prog) 22 3 i0 _ 8 Try.underlying22 hi0 hz00 hz01 hz02 rfl ((M : Int) + 1) (M + 1) (by omega) (by omega) (by omega)
      have hg1sz : g1 < wr.heap.size := by have := hI2.1; have := hI2.2.1; omega
      have hOg1 : g1 ≠ w.heap.size := by have := hI1.2.1; omega
      have hKg1 : g1 ≠ KB := by have := hI1.2.1; omega
      have hOsz : w.heap.size < wr.heap.size := by have := hI1.2.1; have := hI1.2.2.1; omega
      have hKsz : KB < wr.heap.size := by omega
      have HI1 := Lib.hid hI1
      have HI2 := Lib.hid hI2
      clear hI1 hI2
      go_upto_region 9 with (fail)
      go_cut [0] (fun v0 wx => v0 = .pointer (some ⟨KB, 0, none⟩) ∧ ∃ (g2 : Nat) (ar3 : List Value), B2 ≤ g2 ∧ Hid (ar3[t]? = some (.slice (some ⟨g2, 0, none⟩) (M + 1) (M + 1))) ∧ Inv w KB n T M cost (.slice PA n pcap) pts (s + 1) B arr1 wx ∧ Inv2 (decide (s + 1 = n)) (tb T M cost pts (s + 1)) cost T M (pts.getD s []) g1 t B2 ar3 wx ∧ Inv3 (rowV (decide (s + 1 = n)) (tb T M cost pts (s + 1)) cost T M ((pts.getD s []).getD t 0) t) M g2 0 wx)
      case first =>
        have hwr : IntKind.i64.wrap ((M : Int) + 1) = (M : Int) + 1 := IntWalk.i64_in _ (by omega)
        go_region_held3 (fun w' => w'.cell? ⟨KB, 4, none⟩ = some (.slice (some ⟨w.heap.size, 0, none⟩) n n) ∧ w'.cell? ⟨KB, 3, none⟩ = some (.int .i64 M) ∧ w'.cell? ⟨w.heap.size, s, none⟩ = some (.slice (some ⟨g1, 0, none⟩) T T)) (first | go_keep) (fail)
        clear hwr
        have hW2sz : (wr.setCell ⟨g1, t, none⟩ (.slice (some ⟨wr.heap.size, 0, none⟩) (M + 1) (M + 1))).heap.size = wr.heap.size := by simp [World.setCell]
        have hJ1 : Inv w KB n T M cost (.slice PA n pcap) pts (s + 1) B arr1 ((wr.setCell ⟨g1, t, none⟩ (.slice (some ⟨wr.heap.size, 0, none⟩) (M + 1) (M + 1))).alloc (.cells (zs (M + 1) (.int .i64 0)).toArray 3)).drew :=
          ((HI1.out.below (Below.setCell (p := ⟨g1, t, none⟩) (Below.refl _ _) hBw _) (by omega)).below ((Below.refl _ _).alloc (by rw [hW2sz]; exact HI1.out.2.2.1) _) (by omega)).below (Below.refl _ _).drew (by omega)
        have hJ2 : Inv2 (decide (s + 1 = n)) (tb T M cost pts (s + 1)) cost T M (pts.getD s []) g1 t B2 (ar2.set t (.slice (some ⟨wr.heap.size, 0, none⟩) (M + 1) (M + 1))) ((wr.setCell ⟨g1, t, none⟩ (.slice (some ⟨wr.heap.size, 0, none⟩) (M + 1) (M + 1))).alloc (.cells (zs (M + 1) (.int .i64 0)).toArray 3)).drew :=
          ((HI2.out.store _).below ((Below.refl _ _).alloc (by rw [hW2sz]; exact HI2.out.2.1) _)).below (Below.refl _ _).drew
        have hJ3 : Inv3 (rowV (decide (s + 1 = n)) (tb T M cost pts (s + 1)) cost T M ((pts.getD s []).getD t 0) t) M wr.heap.size 0 ((wr.setCell ⟨g1, t, none⟩ (.slice (some ⟨wr.heap.size, 0, none⟩) (M + 1) (M + 1))).alloc (.cells (zs (M + 1) (.int .i64 0)).toArray 3)).drew := by
          have := Inv3.start (row := (rowV (decide (s + 1 = n)) (tb T M cost pts (s + 1)) cost T M ((pts.getD s []).getD t 0) t)) (M := M) (wr.setCell ⟨g1, t, none⟩ (.slice (some ⟨wr.heap.size, 0, none⟩) (M + 1) (M + 1)))
          rw [hW2sz] at this
          exact this.same rfl
        have har : (ar2.set t (.slice (some ⟨wr.heap.size, 0, none⟩) (M + 1) (M + 1)))[t]? = some (.slice (some ⟨wr.heap.size, 0, none⟩) (M + 1) (M + 1)) := by
          have := HI2.out.2.2.2.1
          rw [List.getElem?_set_self (by omega)]
        have hB2 := HI2.out.2.1
        go_wp2_with fail
        go_meet
        case rel => exact ⟨rfl, wr.heap.size, _, hB2, har, hJ1, hJ2, hJ3⟩
      case rest =>
      clear HI1 HI2 hmk0 ho hr1 hf1 hv1 k0 k1 k2 k3 k4 hg1sz hOsz hKsz
      clear HST hi2 hz20 hz21 hz22 hi1 hz10 hz11 hz12 hi0 hz00 hz01 hz02 c1 c4 f4
      obtain ⟨rfl, g2, ar3, hB2, HAR, hJ1, hJ2, hJ3⟩ := hcut
      obtain ⟨k0, k1, k2, k3, k4⟩ := hJ1.cells
      have ho2 : wc.cell? ⟨w.heap.size, s, none⟩ = some (.slice (some ⟨g1, 0, none⟩) T T) := by
        obtain ⟨v, hv, hc, _⟩ := hJ1.outer s hs1
        rw [HARR.out] at hv; rw [hc, ← hv]
      have ho3 : wc.cell? ⟨g1, t, none⟩ = some (.slice (some ⟨g2, 0, none⟩) (M + 1) (M + 1)) := by
        obtain ⟨v, hv, hc, _⟩ := hJ2.row t hlt
        rw [HAR.out] at hv; rw [hc, ← hv]
      go_wp2
      clear ho2 ho3 k0 k1 k2 k3 k4
      go_loopw [75] (fun i wr => ∃ c : Nat, c ≤ M + 1 ∧ i = .int .i64 c ∧ Inv w KB n T M cost (.slice PA n pcap) pts (s + 1) B arr1 wr ∧ Inv2 (decide (s + 1 = n)) (tb T M cost pts (s + 1)) cost T M (pts.getD s []) g1 t B2 ar3 wr ∧ Inv3 (rowV (decide (s + 1 = n)) (tb T M cost pts (s + 1)) cost T M ((pts.getD s []).getD t 0) t) M g2 c wr) (fun i _ => M + 1 - (intOf i).toNat)
      case atStart => exact ⟨0, Nat.zero_le _, rfl, hJ1, hJ2, hJ3⟩
      case round =>
        clear hJ1 hJ2 hJ3
        obtain ⟨c, hc, rfl, hJ1, hJ2, hJ3⟩ := hrel
        by_cases hcl : c < M + 1
        case neg =>
          have hsz3 : g2 < wr.heap.size := by obtain ⟨xs, h1, _⟩ := hJ3; exact h1.lt
          have hfin : Inv2 (decide (s + 1 = n)) (tb T M cost pts (s + 1)) cost T M (pts.getD s []) g1 (t + 1) wr.heap.size ar3 wr := by
            have hc' : c = M + 1 := by omega
            rw [hc'] at hJ3
            exact hJ2.done (by omega) (Nat.le_refl _) HAR.out (hJ3.full (rowV_length _ _ _ _ _ _ _) ⟨hB2, hsz3⟩)
          go_wp2
          go_roundw
          case rel => exact ⟨t + 1, wr.heap.size, ar3, by omega, by go_num, hJ1, hfin⟩
          case measure => simp [intOf]; omega
        have hTDf : s + 1 < n → TabD (n - s - 2 + 1) T M (tb T M cost pts (s + 1)) := fun h => tb_bd T M cost pts hc0 hc1 (fun s t => (HENT.out s t).2) (by rw [HN.out]; exact hn60) (n - s - 2) (s + 1) (by rw [HN.out]; omega)
        have HTD := Lib.hid hTDf
        have HJ1 := Lib.hid hJ1
        have HJ2 := Lib.hid hJ2
        have HJ3 := Lib.hid hJ3
        clear hTDf hJ1 hJ2 hJ3
        have hd76 : decide ((c : Int) < (M : Int) + 1) = true := by simp; omega
        obtain ⟨b81, hb81⟩ : ∃ b : Bool, decide ((s : Int) + 1 < (n : Int)) = b := ⟨_, rfl⟩
        go_upto_if 81 with (fail)
        go_cut [6] (fun v wx => ∃ vv : Int, v = .int .i64 vv ∧ -1152921504606846976 ≤ vv ∧ vv ≤ 1000000000 ∧ Hid ((if (decide (s + 1 = n)) = true then 0 else vmaxT (tb T M cost pts (s + 1)) cost t c T) = vv) ∧ Inv w KB n T M cost (.slice PA n pcap) pts (s + 1) B arr1 wx ∧ Inv2 (decide (s + 1 = n)) (tb T M cost pts (s + 1)) cost T M (pts.getD s []) g1 t B2 ar3 wx ∧ Inv3 (rowV (decide (s + 1 = n)) (tb T M cost pts (s + 1)) cost T M ((pts.getD s []).getD t 0) t) M g2 c wx)
        case first =>
          cases b81 with
          | false =>
            have hlast : s + 1 = n := by simp at hb81; omega
            clear hb81
            have HV : Hid ((if (decide (s + 1 = n)) = true then 0 else vmaxT (tb T M cost pts (s + 1)) cost t c T) = 0) := by show _ = _; simp [hlast]
            clear hlast
            go_wp2
            go_meet
            case rel => exact ⟨0, rfl, by omega, by omega, HV, HJ1.out, HJ2.out, HJ3.out⟩
          | true =>
            have hs2 : s + 1 < n := by simp at hb81; omega
            have hlast : ¬ s + 1 = n := by omega
            clear hb81
            have hTD := HTD.out hs2
            have HTB := Lib.hid (hTD.tabB (by omega))
            have HTL := Lib.hid hTD.1
            have HVB := Lib.hid (vmaxT_bd hTD (by omega) hc0 hc1 (t := t) (show c ≤ M by omega))
            clear hTD HTD
            obtain ⟨k0, k1, k2, k3, k4⟩ := HJ1.out.cells
            obtain ⟨vn, hvn, hon, _⟩ := HJ1.out.outer (s + 1) hs2
            have hrn : RdIIs (fun b => w.heap.size < b ∧ b < B) wr vn (tb T M cost pts (s + 1)) := by
              have hl : s + 1 < arr1.length := by have := HJ1.out.2.2.2.2.2.2.1; omega
              have := HJ1.out.2.2.2.2.2.2.2 (s + 1) (Nat.le_refl _) hl
              rw [List.getElem?_eq_getElem hl] at hvn
              rw [← Option.some.inj hvn]; exact this
            have HRN := Lib.hid hrn
            have HV0 : Hid ((if (decide (s + 1 = n)) = true then 0 else vmaxT (tb T M cost pts (s + 1)) cost t c T) = vmaxT (tb T M cost pts (s + 1)) cost t c T) := by show _ = _; simp [hlast]
            clear hrn hvn hlast k1 k3
            go_wp2
            clear k0
            go_loopw [6, 7, 87] (fun v _ i wq => ∃ u nq : Nat, u ≤ T ∧ i = .int .i64 u ∧ v = .int .i64 (vmaxT (tb T M cost pts (s + 1)) cost t c u) ∧ wq = wr.drewN nq) (fun _ _ i _ => T - (intOf i).toNat)
            case atStart => exact ⟨0, 0, Nat.zero_le _, rfl, rfl, rfl⟩
            case round =>
              obtain ⟨u, nq, hu, rfl, rfl, rfl⟩ := hrel
              by_cases hul : u < T
              · go_wp2_with fail
                refine (then_any (fun b => w.heap.size < b ∧ b < B) KB w.heap.size n cost s t c u M (tb T M cost pts (s + 1)) vn (wr.drewN nq) k2 k4 hon (HRN.out.same (Same.drewN _ _)) hs2 (by omega) (by rw [HTL.out]; exact hul) (by rw [HTL.out]; omega) (by omega) (by omega) (by omega) HTB.out hc0 hc1).mono ?_
                rintro e w' ⟨rfl, nq2, rfl⟩
                have HM : Hid (vmaxT (tb T M cost pts (s + 1)) cost t c (u + 1) = max (vmaxT (tb T M cost pts (s + 1)) cost t c u) (thn (tb T M cost pts (s + 1)) cost t c u)) := rfl
                by_cases hmx : vmaxT (tb T M cost pts (s + 1)) cost t c u < thn (tb T M cost pts (s + 1)) cost t c u
                · have HM2 : Hid (vmaxT (tb T M cost pts (s + 1)) cost t c (u + 1) = thn (tb T M cost pts (s + 1)) cost t c u) := by show _ = _; rw [HM.out]; omega
                  have hmx2 : ¬ thn (tb T M cost pts (s + 1)) cost t c u < vmaxT (tb T M cost pts (s + 1)) cost t c u := by omega
                  go_wp2_with fail
                  go_roundw
                  case rel => exact ⟨u + 1, nq + nq2, by omega, by go_num, by rw [HM2.out], rfl⟩
                  case measure => simp [intOf]; omega
                · have HM2 : Hid (vmaxT (tb T M cost pts (s + 1)) cost t c (u + 1) = vmaxT (tb T M cost pts (s + 1)) cost t c u) := by show _ = _; rw [HM.out]; omega
                  go_wp2_with fail
                  go_roundw
                  case rel => exact ⟨u + 1, nq + nq2, by omega, by go_num, by rw [HM2.out], rfl⟩
                  case measure => simp [intOf]; omega
              · have hvb : -1152921504606846976 ≤ vmaxT (tb T M cost pts (s + 1)) cost t c u ∧ vmaxT (tb T M cost pts (s + 1)) cost t c u ≤ 1000000000 ∧ Hid ((if (decide (s + 1 = n)) = true then 0 else vmaxT (tb T M cost pts (s + 1)) cost t c T) = vmaxT (tb T M cost pts (s + 1)) cost t c u) := by
                  have hT' : u = T := by omega
                  have hvb0 := HVB.out u (by omega)
                  simp only [NONE] at hvb0
                  refine ⟨by omega, by omega, ?_⟩
                  rw [hT']; exact HV0
                have HVBB := Lib.hid hvb
                clear hvb
                go_wp2
                go_meet
                case rel => exact ⟨_, rfl, HVBB.out.1, HVBB.out.2.1, HVBB.out.2.2, HJ1.out.below (below_drewN (Below.refl _ _) nq) (by omega), HJ2.out.below (below_drewN (Below.refl _ _) nq), HJ3.out.same rfl⟩
        case rest =>
          clear HJ1 HJ2 HJ3 HTD hb81 hd76
          obtain ⟨vv, rfl, hvb1, hvb2, HV, hJ1, hJ2, hJ3⟩ := hcut
          obtain ⟨q0, q1, q2, q3, q4⟩ := hJ1.cells
          obtain ⟨pb, poff, pc1, pb2, poff2, pc2, hpe, hp1, hp2⟩ := hJ1.2.2.2.2.1.at_ (i := s) (k := t) (by rw [HN.out]; exact hs1) (by rw [← getRow (by rw [HN.out]; exact hs1), HROW.out s hs1]; exact hlt)
          have hpl : (pts[s]'(by rw [HN.out]; exact hs1)).length = T := by rw [← getRow (by rw [HN.out]; exact hs1), HROW.out s hs1]
          have hpe2 : (pts[s]'(by rw [HN.out]; exact hs1))[t]'(by omega) = (pts.getD s []).getD t 0 := by
            rw [getRow (by rw [HN.out]; exact hs1), List.getD_eq_getElem?_getD, List.getElem?_eq_getElem (by omega)]; rfl
          rw [hpe2] at hp2
          have hpb := HENT.out s t
          obtain ⟨p, hpp⟩ : ∃ p : Int, p = (pts.getD s []).getD t 0 := ⟨_, rfl⟩
          rw [← hpp] at hp2 hpb
          have HPP := Lib.hid hpp
          rw [hpl] at hp1
          rw [hpe] at q1
          rw [HN.out] at q1
          clear hpe hpe2 hpl hpp
          have ho2 : wc.cell? ⟨w.heap.size, s, none⟩ = some (.slice (some ⟨g1, 0, none⟩) T T) := by
            obtain ⟨v, hv, hc, _⟩ := hJ1.outer s hs1
            rw [HARR.out] at hv; rw [hc, ← hv]
          have ho3 : wc.cell? ⟨g1, t, none⟩ = some (.slice (some ⟨g2, 0, none⟩) (M + 1) (M + 1)) := by
            obtain ⟨v, hv, hc, _⟩ := hJ2.row t hlt
            rw [HAR.out] at hv; rw [hc, ← hv]
          obtain ⟨⟨ov, ho4⟩, ho5⟩ := hJ3.cellF (by omega : c ≤ M)
          have HCELL : Hid (cellV (decide (s + 1 = n)) (tb T M cost pts (s + 1)) cost T ((pts.getD s []).getD t 0) t c = if p < 0 ∨ vv = NONE then NONE else vv + p) := by
            show _ = _
            unfold cellV
            rw [HV.out, ← HPP.out]
          have HFIN : ∀ nv : Int, cellV (decide (s + 1 = n)) (tb T M cost pts (s + 1)) cost T ((pts.getD s []).getD t 0) t c = nv →
              Inv w KB n T M cost (.slice PA n pcap) pts (s + 1) B arr1 (wc.setCell ⟨g2, c, none⟩ (.int .i64 nv)) ∧ Inv2 (decide (s + 1 = n)) (tb T M cost pts (s + 1)) cost T M (pts.getD s []) g1 t B2 ar3 (wc.setCell ⟨g2, c, none⟩ (.int .i64 nv)) ∧ Inv3 (rowV (decide (s + 1 = n)) (tb T M cost pts (s + 1)) cost T M ((pts.getD s []).getD t 0) t) M g2 (c + 1) (wc.setCell ⟨g2, c, none⟩ (.int .i64 nv)) := by
            intro nv hnv
            have hbel : Below B2 wc (wc.setCell ⟨g2, c, none⟩ (.int .i64 nv)) := Below.setCell (p := ⟨g2, c, none⟩) (Below.refl _ _) hB2 _
            refine ⟨hJ1.below (hbel.mono (by have := hJ2.1; omega)) (by omega), hJ2.below hbel, hJ3.store (rowV_length _ _ _ _ _ _ _) (by omega) ?_⟩
            rw [← hnv, rowV_getD _ _ _ _ _ _ _ _ (by omega)]
          have HF := Lib.hid HFIN
          clear HFIN hJ1 hJ2 hJ3
          by_cases hp0 : p < 0
          · have HY := Lib.hid (HF.out NONE (by rw [HCELL.out, if_pos (.inl hp0)]))
            clear HF HCELL HV HPP
            go_wp2
            go_roundw
            case rel => exact ⟨c + 1, by omega, by go_num, HY.out.1, HY.out.2.1, HY.out.2.2⟩
            case measure => simp [intOf]; omega
          by_cases hvn : vv = NONE
          · have HY := Lib.hid (HF.out NONE (by rw [HCELL.out, if_pos (.inr hvn)]))
            have hvn1 : (vv == -1152921504606846976) = true := by simpa [NONE] using hvn
            clear HF HCELL HV HPP hvn
            go_wp2
            go_roundw
            case rel => exact ⟨c + 1, by omega, by go_num, HY.out.1, HY.out.2.1, HY.out.2.2⟩
            case measure => simp [intOf]; omega
          · have HY := Lib.hid (HF.out (vv + p) (by rw [HCELL.out, if_neg (by simp only [not_or]; exact ⟨hp0, hvn⟩)]))
            have hvn1 : (vv == -1152921504606846976) = false := by simpa [NONE] using hvn
            clear HF HCELL HV HPP hvn
            go_wp2
            go_roundw
            case rel => exact ⟨c + 1, by omega, by go_num, HY.out.1, HY.out.2.1, HY.out.2.2⟩
            case measure => simp [intOf]; omega
end Go.Proofs.Ytdgkchdobmhpnaa
