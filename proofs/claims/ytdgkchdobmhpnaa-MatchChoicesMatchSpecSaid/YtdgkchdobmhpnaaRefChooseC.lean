/- The contract of the reference's values. -/
import Derived.Test.YtdgkchdobmhpnaaRefChooseB
import Derived.Test.YtdgkchdobmhpnaaChooseC
import Derived.Deep.RegionHeld3
import Derived.Deep.DeepCutAuto
namespace Go.Proofs.Ytdgkchdobmhpnaa
open Go.RowKit Go.Dw

theorem rdII_atS {S : Nat → Prop} {w : World} {v : Value} {xss : List (List Int)} (h : RdIIs S w v xss) {i k : Nat} (hi : i < xss.length) (hk : k < xss[i].length) :
    ∃ b off c b2 off2 c2, v = .slice (some ⟨b, off, none⟩) xss.length c ∧ w.cell? ⟨b, off + i, none⟩ = some (.slice (some ⟨b2, off2, none⟩) xss[i].length c2) ∧ w.cell? ⟨b2, off2 + k, none⟩ = some (.int .i64 xss[i][k]) ∧ S b ∧ S b2 := by
  obtain ⟨A, c, vs, rfl, hl, h, hr⟩ := h
  obtain ⟨b, off, rfl, hS, _, hc⟩ := h.at_ (by omega)
  obtain ⟨A2, c2, e2, h2⟩ := hr i (by omega) hi
  obtain ⟨b2, off2, rfl, hS2, _, hc2⟩ := h2.at_ (by rw [ic_length]; omega)
  refine ⟨b, off, c, b2, off2, c2, rfl, ?_, hc2 k _ (ic_at _ k hk), hS, hS2⟩
  rw [← e2]
  exact hc i _ (List.getElem?_eq_getElem (by omega))
theorem inv3_touch {wr : World} {row : List Int} {M g2 c : Nat} (h : Inv3 row M g2 c wr) (n : Int) : Inv3 row M g2 c (wr.setCell ⟨g2, c, none⟩ (.int .i64 n)) := by
  obtain ⟨xs, h1, h2, h3⟩ := h
  refine ⟨xs.set c n, ?_, by simp [h2], ?_⟩
  · have : ic (xs.set c n) = (ic xs).set c (.int .i64 n) := by simp [ic, List.map_set]
    rw [this]
    exact h1.set_ c _
  · rw [List.take_set_of_le (by omega), h3]
theorem rinv_start {w : World} {n T M : Nat} {cost : Int} {pv : Value} {pts : List (List Int)} (hp : RdIIs (fun b => b < w.heap.size) w pv pts) :
    RInv w n T M cost pv pts n (w.heap.size + 2) (zs n (.slice none 0 0)) ((w.alloc (.cells #[.int .i64 T, pv, .int .i64 cost, .int .i64 M] 41)).alloc (.cells (zs n (.slice none 0 0)).toArray 39)) := by
  have hb1 : Below w.heap.size w (w.alloc (.cells #[.int .i64 T, pv, .int .i64 cost, .int .i64 M] 41)) := (Below.refl _ _).alloc (Nat.le_refl _) _
  have hb2 := hb1.alloc (by simp) (.cells (zs n (.slice none 0 0)).toArray 39)
  refine ⟨hb2, by omega, by simp, ?_, hp.same (Same.of_below hb2), ?_, zs_length _ _, fun s hs hl => by rw [zs_length] at hl; omega⟩
  · exact (Below.heap_alloc _ _ _ (by simp)).trans (Blk.new w _ _)
  · have := Blk.new (w.alloc (.cells #[.int .i64 T, pv, .int .i64 cost, .int .i64 M] 41)) 39 (zs n (.slice none 0 0))
    simpa using this
theorem rcell_neg {last : Bool} {rows : List (List Int)} {cost : Int} {T : Nat} {p : Int} {t c : Nat} (h : p < 0) : rcell last rows cost T p t c = NT := by unfold rcell; rw [if_neg (by omega)]
theorem rcell_pos {n i : Nat} {rows : List (List Int)} {cost : Int} {T : Nat} {p : Int} {t c : Nat} (h : 0 ≤ p) (hge : NT ≤ p + aft n i rows cost t c T) : rcell (decide (i + 1 = n)) rows cost T p t c = p + aft n i rows cost t c T := by
  unfold rcell aft at *
  rw [if_pos h]
  by_cases hl : i + 1 = n
  · simp only [hl, decide_true, if_true] at *; omega
  · simp only [hl, decide_false, if_false, Bool.false_eq_true] at *; omega

set_option maxRecDepth 100000 in
set_option maxHeartbeats 2000000 in
theorem values_any (n T M : Nat) (cost : Int) (PA : Option Addr) (pcap : Nat) (pts : List (List Int)) (w : World)
    (hp : RdIIs (fun b => b < w.heap.size) w (.slice PA n pcap) pts) (hn : pts.length = n) (hn60 : n ≤ 60) (hT : T ≤ 20) (hM : M ≤ 60) (hc0 : 0 ≤ cost) (hc1 : cost ≤ 1000000)
    (hrow : ∀ s, s < n → (pts.getD s []).length = T) (hent : ∀ s t, -1 ≤ (pts.getD s []).getD t 0 ∧ (pts.getD s []).getD t 0 ≤ 1000000) :
    Calls Try.prog 42 #[.agg #[.int .i64 T, .slice PA n pcap, .int .i64 cost, .int .i64 M]] w fun e w' => e = .returned (.slice (some ⟨w.heap.size + 1, 0, none⟩) n n) ∧ ∃ B arr, RInv w n T M cost (.slice PA n pcap) pts 0 B arr w' := by
  obtain ⟨i2, hi2, hz20, hz21, hz22⟩ := info_parts info_sl2
  obtain ⟨i1, hi1, hz10, hz11, hz12⟩ := info_parts info_sl1
  obtain ⟨i0, hi0, hz00, hz01, hz02⟩ := info_parts info_i
  have hmk2 := run_mk (P := Try.prog) 62 39 i2 _ 24 Try.underlying62 hi2 hz20 hz21 hz22 rfl n n rfl (by omega) (by omega)
  have HST := Lib.hid (rinv_start (n := n) (T := T) (M := M) (cost := cost) hp)
  have HROW := Lib.hid hrow
  have HENT := Lib.hid hent
  have HN := Lib.hid hn
  clear hrow hent hp hn
  go_enter Try.func42, Try.ntmps42
  go_wp2
  go_loopw [4] (fun s wr => ∃ (lo B : Nat) (arr : List Value), lo ≤ n ∧ s = .int .i64 ((lo : Int) - 1) ∧ RInv w n T M cost (.slice PA n pcap) pts lo B arr wr) (fun s _ => (intOf s + 1).toNat)
  case atStart => exact ⟨n, w.heap.size + 2, zs n (.slice none 0 0), Nat.le_refl _, rfl, HST.out⟩
  case round =>
    obtain ⟨lo, B, arr, hlo, rfl, hinv⟩ := hrel
    by_cases hl0 : lo = 0
    · have hd : ¬ (0 : Int) ≤ (lo : Int) - 1 := by omega
      have hd' : ¬ (1 : Int) ≤ (lo : Int) := by omega
      have HFI : Hid (RInv w n T M cost (.slice PA n pcap) pts 0 B arr wr) := by rw [← hl0]; exact hinv
      clear hl0
      go_wp2
      go_ret
      exact ⟨rfl, B, arr, HFI.out⟩
    obtain ⟨s, rfl⟩ : ∃ s, lo = s + 1 := ⟨lo - 1, by omega⟩
    have hsub : ((s + 1 : Nat) : Int) - 1 = (s : Int) := by omega
    rw [hsub]
    clear hsub hl0
    have hs1 : s < n := by omega
    obtain ⟨k0, k1, k2, k3⟩ := hinv.cells
    obtain ⟨v0, hv0, ho, hof⟩ := hinv.outer s hs1
    have hmk1 := run_mk (P := Try.prog) 39 22 i1 _ 24 Try.underlying39 hi1 hz10 hz11 hz12 rfl T T rfl (by omega) (by omega)
    have hOsz : w.heap.size + 1 < wr.heap.size := by have := hinv.2.1; have := hinv.2.2.1; omega
    have HINV := Lib.hid hinv
    clear hinv
    go_upto_region 5 with (fail)
    go_cut [3] (fun v3 wx => v3 = .slice (some ⟨w.heap.size + 1, 0, none⟩) n n ∧ ∃ (g1 : Nat) (arr1 : List Value), B ≤ g1 ∧ Hid (arr1[s]? = some (.slice (some ⟨g1, 0, none⟩) T T)) ∧ RInv w n T M cost (.slice PA n pcap) pts (s + 1) B arr1 wx ∧ InvG (fun t => rrow (decide (s + 1 = n)) (rtb T M cost pts (s + 1)) cost T M ((pts.getD s []).getD t 0) t) T g1 0 (g1 + 1) (zs T (.slice none 0 0)) wx)
    case first =>
      have hI1 : RInv w n T M cost (.slice PA n pcap) pts (s + 1) B (arr.set s (.slice (some ⟨wr.heap.size, 0, none⟩) T T)) ((wr.setCell ⟨w.heap.size + 1, s, none⟩ (.slice (some ⟨wr.heap.size, 0, none⟩) T T)).alloc (.cells (zs T (.slice none 0 0)).toArray 22)) :=
        (HINV.out.store (by omega) _).below ((Below.refl _ _).alloc (by have := HINV.out.2.2.1; simpa [World.setCell] using this) _)
      have hI2 : InvG (fun t => rrow (decide (s + 1 = n)) (rtb T M cost pts (s + 1)) cost T M ((pts.getD s []).getD t 0) t) T wr.heap.size 0 (wr.heap.size + 1) (zs T (.slice none 0 0)) ((wr.setCell ⟨w.heap.size + 1, s, none⟩ (.slice (some ⟨wr.heap.size, 0, none⟩) T T)).alloc (.cells (zs T (.slice none 0 0)).toArray 22)) := by
        have hsz : (wr.setCell ⟨w.heap.size + 1, s, none⟩ (.slice (some ⟨wr.heap.size, 0, none⟩) T T)).heap.size = wr.heap.size := by simp [World.setCell]
        have h1 := Blk.new (wr.setCell ⟨w.heap.size + 1, s, none⟩ (.slice (some ⟨wr.heap.size, 0, none⟩) T T)) 22 (zs T (.slice none 0 0))
        rw [hsz] at h1
        exact ⟨by omega, by simp [hsz], h1, zs_length _ _, fun u hu => by omega⟩
      have hBw := HINV.out.2.2.1
      have harr : (arr.set s (.slice (some ⟨wr.heap.size, 0, none⟩) T T))[s]? = some (.slice (some ⟨wr.heap.size, 0, none⟩) T T) := by
        have := HINV.out.2.2.2.2.2.2.1
        rw [List.getElem?_set_self (by omega)]
      have HALL := Lib.hid (And.intro hBw (And.intro harr (And.intro hI1 hI2)))
      clear hI1 hI2 hBw harr
      go_wp2
      go_meet
      case rel => exact ⟨rfl, wr.heap.size, _, HALL.out.1, HALL.out.2.1, HALL.out.2.2.1, HALL.out.2.2.2⟩
    case rest =>
    clear HINV hmk1 ho hof hv0 k0 k1 k2 k3 hmk2 hOsz
    obtain ⟨rfl, g1, arr1, hBw, HARR, hI1, hI2⟩ := hcut
    obtain ⟨k0, k1, k2, k3⟩ := hI1.cells
    go_wp2
    clear k0 k1 k2 k3
    go_loopw [28] (fun i wr => ∃ (t B2 : Nat) (ar2 : List Value), t ≤ T ∧ i = .int .i64 t ∧ RInv w n T M cost (.slice PA n pcap) pts (s + 1) B arr1 wr ∧ InvG (fun t => rrow (decide (s + 1 = n)) (rtb T M cost pts (s + 1)) cost T M ((pts.getD s []).getD t 0) t) T g1 t B2 ar2 wr) (fun i _ => T - (intOf i).toNat)
    case atStart => exact ⟨0, g1 + 1, zs T (.slice none 0 0), Nat.zero_le _, rfl, hI1, hI2⟩
    case round =>
      clear hI1 hI2
      obtain ⟨t, B2, ar2, ht, rfl, hI1, hI2⟩ := hrel
      by_cases hlt : t < T
      case neg =>
        have hfin : RInv w n T M cost (.slice PA n pcap) pts s B2 arr1 wr := by
          have ht' : t = T := by omega
          rw [ht'] at hI2
          exact hI1.done (by have := hI2.1; omega) hI2.2.1 HARR.out (by rw [rtb_eq _ _ _ _ _ (by rw [HN.out]; exact hs1), HN.out]; exact hI2.table.mono (fun b _ hb => ⟨by omega, hb.2⟩))
        go_wp2
        go_roundw
        case rel => exact ⟨s, B2, arr1, by omega, by go_num, hfin⟩
        case measure => simp [intOf]
      obtain ⟨k0, k1, k2, k3⟩ := hI1.cells
      have ho : wr.cell? ⟨w.heap.size + 1, s, none⟩ = some (.slice (some ⟨g1, 0, none⟩) T T) := by
        obtain ⟨v, hv, hc, _⟩ := hI1.outer s hs1
        rw [HARR.out] at hv; rw [hc, ← hv]
      obtain ⟨v1, hv1, hr1, hf1⟩ := hI2.row t hlt
      have hmk0 := run_mk (P := Try.prog) 22 3 i0 _ 8 Try.underlying22 hi0 hz00 hz01 hz02 rfl ((M : Int) + 1) (M + 1) (by omega) (by omega) (by omega)
      have hg1sz : g1 < wr.heap.size := by have := hI2.1; have := hI2.2.1; omega
      have hOg1 : g1 ≠ w.heap.size + 1 := by have := hI1.2.1; omega
      have hKg1 : g1 ≠ w.heap.size := by have := hI1.2.1; omega
      have hOsz : w.heap.size + 1 < wr.heap.size := by have := hI1.2.1; have := hI1.2.2.1; omega
      have hXsz : w.heap.size < wr.heap.size := by omega
      have HI1 := Lib.hid hI1
      have HI2 := Lib.hid hI2
      clear hI1 hI2
      go_upto_region 9 with (fail)
      go_cut [3] (fun v3 wx => v3 = .slice (some ⟨w.heap.size + 1, 0, none⟩) n n ∧ ∃ (g2 : Nat) (ar3 : List Value), B2 ≤ g2 ∧ Hid (ar3[t]? = some (.slice (some ⟨g2, 0, none⟩) (M + 1) (M + 1))) ∧ RInv w n T M cost (.slice PA n pcap) pts (s + 1) B arr1 wx ∧ InvG (fun t => rrow (decide (s + 1 = n)) (rtb T M cost pts (s + 1)) cost T M ((pts.getD s []).getD t 0) t) T g1 t B2 ar3 wx ∧ Inv3 (rrow (decide (s + 1 = n)) (rtb T M cost pts (s + 1)) cost T M ((pts.getD s []).getD t 0) t) M g2 0 wx)
      case first =>
        have hwr : IntKind.i64.wrap ((M : Int) + 1) = (M : Int) + 1 := IntWalk.i64_in _ (by omega)
        go_region_held3 (fun w' => w'.cell? ⟨w.heap.size, 3, none⟩ = some (.int .i64 M) ∧ w'.cell? ⟨w.heap.size + 1, s, none⟩ = some (.slice (some ⟨g1, 0, none⟩) T T)) (first | go_keep) (fail)
        clear hwr
        have hW2sz : (wr.setCell ⟨g1, t, none⟩ (.slice (some ⟨wr.heap.size, 0, none⟩) (M + 1) (M + 1))).heap.size = wr.heap.size := by simp [World.setCell]
        have hJ1 : RInv w n T M cost (.slice PA n pcap) pts (s + 1) B arr1 ((wr.setCell ⟨g1, t, none⟩ (.slice (some ⟨wr.heap.size, 0, none⟩) (M + 1) (M + 1))).alloc (.cells (zs (M + 1) (.int .i64 0)).toArray 3)).drew :=
          ((HI1.out.below (Below.setCell (p := ⟨g1, t, none⟩) (Below.refl _ _) hBw _)).below ((Below.refl _ _).alloc (by rw [hW2sz]; exact HI1.out.2.2.1) _)).below (Below.refl _ _).drew
        have hJ2 : InvG (fun t => rrow (decide (s + 1 = n)) (rtb T M cost pts (s + 1)) cost T M ((pts.getD s []).getD t 0) t) T g1 t B2 (ar2.set t (.slice (some ⟨wr.heap.size, 0, none⟩) (M + 1) (M + 1))) ((wr.setCell ⟨g1, t, none⟩ (.slice (some ⟨wr.heap.size, 0, none⟩) (M + 1) (M + 1))).alloc (.cells (zs (M + 1) (.int .i64 0)).toArray 3)).drew :=
          ((HI2.out.store _).below ((Below.refl _ _).alloc (by rw [hW2sz]; exact HI2.out.2.1) _)).below (Below.refl _ _).drew
        have hJ3 : Inv3 (rrow (decide (s + 1 = n)) (rtb T M cost pts (s + 1)) cost T M ((pts.getD s []).getD t 0) t) M wr.heap.size 0 ((wr.setCell ⟨g1, t, none⟩ (.slice (some ⟨wr.heap.size, 0, none⟩) (M + 1) (M + 1))).alloc (.cells (zs (M + 1) (.int .i64 0)).toArray 3)).drew := by
          have := Inv3.start (row := (rrow (decide (s + 1 = n)) (rtb T M cost pts (s + 1)) cost T M ((pts.getD s []).getD t 0) t)) (M := M) (wr.setCell ⟨g1, t, none⟩ (.slice (some ⟨wr.heap.size, 0, none⟩) (M + 1) (M + 1)))
          rw [hW2sz] at this
          exact this.same rfl
        have har : (ar2.set t (.slice (some ⟨wr.heap.size, 0, none⟩) (M + 1) (M + 1)))[t]? = some (.slice (some ⟨wr.heap.size, 0, none⟩) (M + 1) (M + 1)) := by
          have := HI2.out.2.2.2.1
          rw [List.getElem?_set_self (by omega)]
        have hB2 := HI2.out.2.1
        go_wp2_with fail
        go_meet
        case rel => exact ⟨rfl, wr.heap.size, _, hB2, har, hJ1, hJ2, hJ3⟩
      case rest =>
      clear HI1 HI2 hmk0 ho hr1 hf1 hv1 k0 k1 k2 k3 hg1sz hOsz hXsz
      clear HST hi2 hz20 hz21 hz22 hi1 hz10 hz11 hz12 hi0 hz00 hz01 hz02
      obtain ⟨rfl, g2, ar3, hB2, HAR, hJ1, hJ2, hJ3⟩ := hcut
      obtain ⟨k0, k1, k2, k3⟩ := hJ1.cells
      go_wp2
      clear k0 k1 k2 k3
      go_loopw [44] (fun i wr => ∃ c : Nat, c ≤ M + 1 ∧ i = .int .i64 c ∧ RInv w n T M cost (.slice PA n pcap) pts (s + 1) B arr1 wr ∧ InvG (fun t => rrow (decide (s + 1 = n)) (rtb T M cost pts (s + 1)) cost T M ((pts.getD s []).getD t 0) t) T g1 t B2 ar3 wr ∧ Inv3 (rrow (decide (s + 1 = n)) (rtb T M cost pts (s + 1)) cost T M ((pts.getD s []).getD t 0) t) M g2 c wr) (fun i _ => M + 1 - (intOf i).toNat)
      case atStart => exact ⟨0, Nat.zero_le _, rfl, hJ1, hJ2, hJ3⟩
      case round =>
        clear hJ1 hJ2 hJ3
        obtain ⟨c, hc, rfl, hJ1, hJ2, hJ3⟩ := hrel
        by_cases hcl : c < M + 1
        case neg =>
          have hsz3 : g2 < wr.heap.size := by obtain ⟨xs, h1, _⟩ := hJ3; exact h1.lt
          have hfin : InvG (fun t => rrow (decide (s + 1 = n)) (rtb T M cost pts (s + 1)) cost T M ((pts.getD s []).getD t 0) t) T g1 (t + 1) wr.heap.size ar3 wr := by
            have hc' : c = M + 1 := by omega
            rw [hc'] at hJ3
            exact hJ2.done (by omega) (Nat.le_refl _) HAR.out (hJ3.full (rrow_length _ _ _ _ _ _ _) ⟨hB2, hsz3⟩)
          go_wp2
          go_roundw
          case rel => exact ⟨t + 1, wr.heap.size, ar3, by omega, by go_num, hJ1, hfin⟩
          case measure => simp [intOf]; omega
        obtain ⟨k0, k1, k2, k3⟩ := hJ1.cells
        obtain ⟨pb, poff, pc1, pb2, poff2, pc2, hpe, hp1, hp2, hpS1, hpS2⟩ := rdII_atS hJ1.2.2.2.2.1 (i := s) (k := t) (by rw [HN.out]; exact hs1) (by rw [← getRow (by rw [HN.out]; exact hs1), HROW.out s hs1]; exact hlt)
        have hpl : (pts[s]'(by rw [HN.out]; exact hs1)).length = T := by rw [← getRow (by rw [HN.out]; exact hs1), HROW.out s hs1]
        have hpe2 : (pts[s]'(by rw [HN.out]; exact hs1))[t]'(by omega) = (pts.getD s []).getD t 0 := by
          rw [getRow (by rw [HN.out]; exact hs1), List.getD_eq_getElem?_getD, List.getElem?_eq_getElem (by omega)]; rfl
        rw [hpe2] at hp2
        have hpb := HENT.out s t
        obtain ⟨p, hpp⟩ : ∃ p : Int, p = (pts.getD s []).getD t 0 := ⟨_, rfl⟩
        rw [← hpp] at hp2 hpb
        have HPP := Lib.hid hpp
        rw [hpl] at hp1
        have hPA : PA = some ⟨pb, poff, none⟩ := by injection hpe
        have HPA := Lib.hid hPA
        have ho2 : wr.cell? ⟨w.heap.size + 1, s, none⟩ = some (.slice (some ⟨g1, 0, none⟩) T T) := by
          obtain ⟨v, hv, hc, _⟩ := hJ1.outer s hs1
          rw [HARR.out] at hv; rw [hc, ← hv]
        have ho3 : wr.cell? ⟨g1, t, none⟩ = some (.slice (some ⟨g2, 0, none⟩) (M + 1) (M + 1)) := by
          obtain ⟨v, hv, hc, _⟩ := hJ2.row t hlt
          rw [HAR.out] at hv; rw [hc, ← hv]
        obtain ⟨⟨ov, ho4⟩, ho5⟩ := hJ3.cellF (by omega : c ≤ M)
        have hg1B : g1 < B2 := hJ2.1
        have hBw2 := hJ1.2.1
        have hg2sz : g2 < wr.heap.size := by obtain ⟨xs, h1, _⟩ := hJ3; exact h1.lt
        have n1 : g2 ≠ pb := by omega
        have n2 : g2 ≠ pb2 := by omega
        have n3 : g2 ≠ w.heap.size := by omega
        have n4 : g2 ≠ w.heap.size + 1 := by omega
        have n5 : g2 ≠ g1 := by omega
        rw [hPA] at k1
        clear hpe hpe2 hpl hpp hPA
        have HFIN : ∀ (nv : Int) (W : World), rcell (decide (s + 1 = n)) (rtb T M cost pts (s + 1)) cost T ((pts.getD s []).getD t 0) t c = nv → Below B2 wr W → Inv3 (rrow (decide (s + 1 = n)) (rtb T M cost pts (s + 1)) cost T M ((pts.getD s []).getD t 0) t) M g2 c W →
            RInv w n T M cost (.slice PA n pcap) pts (s + 1) B arr1 (W.setCell ⟨g2, c, none⟩ (.int .i64 nv)) ∧ InvG (fun t => rrow (decide (s + 1 = n)) (rtb T M cost pts (s + 1)) cost T M ((pts.getD s []).getD t 0) t) T g1 t B2 ar3 (W.setCell ⟨g2, c, none⟩ (.int .i64 nv)) ∧ Inv3 (rrow (decide (s + 1 = n)) (rtb T M cost pts (s + 1)) cost T M ((pts.getD s []).getD t 0) t) M g2 (c + 1) (W.setCell ⟨g2, c, none⟩ (.int .i64 nv)) := by
          intro nv W hnv hW hg
          have hbel : Below B2 wr (W.setCell ⟨g2, c, none⟩ (.int .i64 nv)) := hW.setCell (p := ⟨g2, c, none⟩) hB2 _
          refine ⟨hJ1.below (hbel.mono (by omega)), hJ2.below hbel, hg.store (rrow_length _ _ _ _ _ _ _) (by omega) ?_⟩
          rw [← hnv, rrow_getD _ _ _ _ _ _ _ _ (by omega)]
        have HF := Lib.hid HFIN
        by_cases hp0 : p < 0
        · have HY := Lib.hid (HFIN NT wr (rcell_neg (by rw [← HPP.out]; exact hp0)) (Below.refl _ _) hJ3)
          clear HFIN hJ1 hJ2 hJ3
          go_wp2
          go_roundw
          case rel => exact ⟨c + 1, by omega, by go_num, HY.out.1, HY.out.2.1, HY.out.2.2⟩
          case measure => simp [intOf]; omega
        have hWB : Below B2 wr (wr.setCell ⟨g2, c, none⟩ (.int .i64 (-1125899906842624))) := Below.setCell (p := ⟨g2, c, none⟩) (Below.refl _ _) hB2 _
        have hWsz : (wr.setCell ⟨g2, c, none⟩ (.int .i64 (-1125899906842624))).heap.size = wr.heap.size := by simp [World.setCell]
        obtain ⟨vn, hvn⟩ : ∃ vn, s + 1 < n → (wr.setCell ⟨g2, c, none⟩ (.int .i64 (-1125899906842624))).drew.cell? ⟨w.heap.size + 1, s + 1, none⟩ = some vn ∧ RdIIs (fun b => w.heap.size + 1 < b ∧ b < B) (wr.setCell ⟨g2, c, none⟩ (.int .i64 (-1125899906842624))).drew vn (rtb T M cost pts (s + 1)) ∧ TabR T M (rtb T M cost pts (s + 1)) ∧ w.heap.size + 1 < (wr.setCell ⟨g2, c, none⟩ (.int .i64 (-1125899906842624))).drew.heap.size := by
          by_cases hl : s + 1 < n
          · have hJ1W := hJ1.below (hWB.mono (by omega))
            obtain ⟨vn, hvn, hon, _⟩ := hJ1W.outer (s + 1) hl
            refine ⟨vn, fun _ => ⟨hon, ?_, ?_, ?_⟩⟩
            · have hl2 : s + 1 < arr1.length := by have := hJ1.2.2.2.2.2.2.1; omega
              have := hJ1W.2.2.2.2.2.2.2 (s + 1) (Nat.le_refl _) hl2
              rw [List.getElem?_eq_getElem hl2] at hvn
              rw [← Option.some.inj hvn]; exact this
            · exact (rtb_rel T M cost pts hc0 hc1 (fun s t => (HENT.out s t).2) (by rw [HN.out]; exact hn60) (n - s - 2) (s + 1) (by rw [HN.out]; omega)).tabR (by omega)
            · show _ < (wr.setCell ⟨g2, c, none⟩ (.int .i64 (-1125899906842624))).heap.size
              rw [hWsz]; omega
          · exact ⟨.bool true, fun h => absurd h hl⟩
        have HAF := Lib.hid (after_any (fun b => w.heap.size + 1 < b ∧ b < B) (w.heap.size + 1) n T M (some ⟨pb, poff, none⟩) pcap cost s t c (rtb T M cost pts (s + 1)) vn (wr.setCell ⟨g2, c, none⟩ (.int .i64 (-1125899906842624))).drew hs1 hn60 hT hM hlt (by omega) hc0 hc1 hvn)
        have hab : -1125899906842624 ≤ aft n s (rtb T M cost pts (s + 1)) cost t c T ∧ aft n s (rtb T M cost pts (s + 1)) cost t c T ≤ 1000000000 := by
          by_cases hl : s + 1 = n
          · rw [aft_t hl]; omega
          · rw [aft_f hl]
            exact amax_b (hvn (by omega)).2.2.1 hc0 hlt (by omega) T (Nat.le_refl _)
        have HCE := Lib.hid (rcell_pos (n := n) (i := s) (rows := rtb T M cost pts (s + 1)) (cost := cost) (T := T) (p := (pts.getD s []).getD t 0) (t := t) (c := c) (by rw [← HPP.out]; omega) (by rw [← HPP.out]; simp only [NT]; omega))
        rw [← HPP.out] at HCE
        have hsW : (wr.setCell ⟨g2, c, none⟩ (.int .i64 (-1125899906842624))).drew.heap.size = wr.heap.size := hWsz
        have hKEEP : ∀ wA : World, Below (wr.setCell ⟨g2, c, none⟩ (.int .i64 (-1125899906842624))).drew.heap.size (wr.setCell ⟨g2, c, none⟩ (.int .i64 (-1125899906842624))).drew wA →
            (wA.cell? ⟨w.heap.size + 1, s, none⟩ = some (.slice (some ⟨g1, 0, none⟩) T T) ∧ wA.cell? ⟨g1, t, none⟩ = some (.slice (some ⟨g2, 0, none⟩) (M + 1) (M + 1)) ∧ wA.cell? ⟨w.heap.size, 0, none⟩ = some (.int .i64 T) ∧ wA.cell? ⟨w.heap.size, 1, none⟩ = some (.slice (some ⟨pb, poff, none⟩) n pcap) ∧ wA.cell? ⟨w.heap.size, 2, none⟩ = some (.int .i64 cost) ∧ wA.cell? ⟨w.heap.size, 3, none⟩ = some (.int .i64 M)) ∧
            (∃ v, wA.cell? ⟨g2, c, none⟩ = some v) ∧ wA.frozen? ⟨g2, c, none⟩ = false ∧ Below B2 wr wA ∧ Inv3 (rrow (decide (s + 1 = n)) (rtb T M cost pts (s + 1)) cost T M ((pts.getD s []).getD t 0) t) M g2 c wA := by
          intro wA hbA
          rw [hsW] at hbA
          have hc' : ∀ b o, b < wr.heap.size → b ≠ g2 → wA.cell? ⟨b, o, none⟩ = wr.cell? ⟨b, o, none⟩ := fun b o hb hne => (hbA.cell (p := ⟨b, o, none⟩) hb).trans (World.cell?_setCell_far wr ⟨g2, c, none⟩ ⟨b, o, none⟩ _ (fun e => hne e.symm))
          have h3 : Inv3 (rrow (decide (s + 1 = n)) (rtb T M cost pts (s + 1)) cost T M ((pts.getD s []).getD t 0) t) M g2 c wA := (inv3_touch hJ3 (-1125899906842624)).same (hbA.block g2 hg2sz)
          have hcM : c ≤ M := by omega
          have hBB : B2 ≤ wr.heap.size := by omega
          have hbA2 : Below B2 (wr.setCell ⟨g2, c, none⟩ (.int .i64 (-1125899906842624))) wA := (Below.drew (Below.refl _ _)).trans (hbA.mono hBB)
          refine ⟨⟨?_, ?_, ?_, ?_, ?_, ?_⟩, (h3.cellF hcM).1, (h3.cellF hcM).2, hWB.trans hbA2, h3⟩
          · exact (hc' (w.heap.size + 1) s (by omega) (by omega)).trans ho2
          · exact (hc' g1 t (by omega) (by omega)).trans ho3
          · exact (hc' w.heap.size 0 (by omega) (by omega)).trans k0
          · exact (hc' w.heap.size 1 (by omega) (by omega)).trans k1
          · exact (hc' w.heap.size 2 (by omega) (by omega)).trans k2
          · exact (hc' w.heap.size 3 (by omega) (by omega)).trans k3
        have HKEEP := Lib.hid hKEEP
        clear hvn hJ1 hJ2 hJ3 HFIN hKEEP hsW
        generalize haf : aft n s (rtb T M cost pts (s + 1)) cost t c T = af at *
        have HAFE := Lib.hid haf
        clear haf
        go_wp2
        have hw1 : IntKind.i64.wrap (p + af) = p + af := IntWalk.i64_in _ (by omega)
        have hmx : ¬ p + af < -1125899906842624 := by omega
        go_region_held3 (fun w' => w'.cell? ⟨w.heap.size + 1, s, none⟩ = some (.slice (some ⟨g1, 0, none⟩) T T) ∧ w'.cell? ⟨g1, t, none⟩ = some (.slice (some ⟨g2, 0, none⟩) (M + 1) (M + 1)) ∧ w'.cell? ⟨w.heap.size, 0, none⟩ = some (.int .i64 T) ∧ w'.cell? ⟨w.heap.size, 1, none⟩ = some (.slice (some ⟨pb, poff, none⟩) n pcap) ∧ w'.cell? ⟨w.heap.size, 2, none⟩ = some (.int .i64 cost) ∧ w'.cell? ⟨w.heap.size, 3, none⟩ = some (.int .i64 M))
          (first | go_keep | exact hqS)
          (first | (go_at_call 54; refine HAF.out.mono ?_; rintro e wA ⟨rfl, hbA⟩; obtain ⟨hqS, ⟨qv, hqc⟩, hqf, hqB, hq3⟩ := HKEEP.out wA hbA))
        have hmv : (if -1125899906842624 < p + af then p + af else -1125899906842624) = p + af := by
          split
          · rfl
          · omega
        have HMV := Lib.hid hmv
        have HY := Lib.hid (HF.out (p + af) wA (by rw [← HPP.out]; exact HCE.out) hqB hq3)
        clear hmv hmx hw1 hqB hq3 HF HKEEP HAF
        go_wp2
        go_roundw
        case rel =>
          refine ⟨c + 1, by omega, by go_num, ?_⟩
          rw [HMV.out]
          exact ⟨HY.out.1, HY.out.2.1, HY.out.2.2⟩
        case measure => simp [intOf]; omega
end Go.Proofs.Ytdgkchdobmhpnaa
