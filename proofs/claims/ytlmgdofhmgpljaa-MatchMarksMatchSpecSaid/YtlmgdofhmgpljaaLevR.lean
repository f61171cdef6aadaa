/- The contract of the reference's Levels. -/
import Derived.Test.YtlmgdofhmgpljaaLevB
import Derived.Test.YtlmgdofhmgpljaaSndR
import Derived.Test.YtlmgdofhmgpljaaWithin
namespace Go.Proofs.Ytlmgdofhmgpljaa
open Go.RowKit Go.Dw
attribute [local go_sem ↓] Go.wp_at_zero Go.wp_at_succ

/-- what is in the row while place k is summed -/
def refK (T : List (List Int)) (P k : Nat) (v : Int) (j : Nat) : Int := if j < k then levK T P j T.length else if j = k then v else 0
theorem refK_start (T : List (List Int)) (P k j : Nat) : refK T P (k + 1) 0 j = refK T P k (levK T P k T.length) j := by
  unfold refK
  by_cases h1 : j < k
  · rw [if_pos (by omega), if_pos h1]
  · by_cases h2 : j = k
    · subst h2; rw [if_pos (by omega), if_neg h1, if_pos rfl]
    · rw [if_neg (by omega), if_neg h1, if_neg h2]; split <;> rfl
theorem refK_set (T : List (List Int)) (P k : Nat) (u v : Int) (j : Nat) : refK T P k v j = if j = k then v else refK T P k u j := by
  unfold refK
  by_cases h2 : j = k
  · subst h2; simp
  · rw [if_neg h2, if_neg h2, if_neg h2]
theorem refK_at (T : List (List Int)) (P k : Nat) (v : Int) : refK T P k v k = v := by unfold refK; simp
set_option maxHeartbeats 4000000 in
theorem rLevels_any (x : Snd) (part : Int) (w : World) (h : x.Ok w) :
    Calls Try.prog 5 #[x.v, .int .i64 part] w (IntsPost w (levF x.rate x.rows part)) := by
  have hb0 : Below w.heap.size w (w.alloc (.cells #[.int .i64 x.rate, x.p.v] 24)) := (Below.refl _ _).alloc (Nat.le_refl _) _
  have HCK := Lib.hid (rsndCheck_any x _ (h.below hb0))
  have HB0 := Lib.hid hb0
  have HNE : Hid (x.n = (x.rows.getD 0 []).length) := rfl
  by_cases hz : chkS x.rate x.rows = 0
  case neg =>
    have hzb : (chkS x.rate x.rows != 0) = true := by simpa using hz
    have HR : Hid (levF x.rate x.rows part = ([], chkS x.rate x.rows)) := by show _ = _; unfold levF; rw [if_pos hz]
    clear hz h hb0
    simp only [Snd.v, Slc.v] at *
    go_enter Try.func5, Try.ntmps5
    go_wp2_with fail
    refine HCK.out.mono ?_
    rintro e w1 ⟨rfl, hb1⟩
    have HB1 := Lib.hid (HB0.out.trans (hb1.mono HB0.out.size))
    clear hb1
    go_wp2_with fail
    go_ret2
    exact intsPost_none HR.out HB1.out
  have hs := chkS_zero hz
  by_cases hpp : 1 ≤ part ∧ part ≤ 100000
  case neg =>
    have HR : Hid (levF x.rate x.rows part = ([], 1)) := by show _ = _; unfold levF; rw [if_neg (fun hh => hh hz), if_neg hpp]
    rw [hz] at HCK
    have HW := Lib.hid (fun W => within_f part 1 100000 W hpp)
    clear hz h hb0 hs hpp
    simp only [Snd.v, Slc.v] at *
    go_enter Try.func5, Try.ntmps5
    go_wp2_with fail
    refine HCK.out.mono ?_
    rintro e w1 ⟨rfl, hb1⟩
    have HB1 := Lib.hid (HB0.out.trans (hb1.mono HB0.out.size))
    clear hb1
    go_wp2_with fail
    refine (HW.out _).mono ?_
    rintro e w2 ⟨rfl, rfl⟩
    go_wp2_with fail
    go_ret2
    exact intsPost_none HR.out HB1.out
  have HR : Hid (levF x.rate x.rows part = (lev x.rows part.toNat (x.n / part.toNat), 0)) := by show _ = _; unfold levF; rw [if_neg (fun hh => hh hz), if_pos hpp]; rfl
  have HW := Lib.hid (fun W => within_t part 1 100000 W hpp)
  obtain ⟨hp1, hp2⟩ := hpp
  obtain ⟨P, rfl⟩ := Int.eq_ofNat_of_zero_le (show 0 ≤ part by omega)
  simp only [Int.toNat_natCast] at HR
  have hP1 : 1 ≤ P := by omega
  have hP2 : P ≤ 100000 := by omega
  rw [hz] at HCK
  have h1 := h.below hb0
  have HRA := Lib.hid x.rows_at
  have HRL := Lib.hid x.rows_len
  have HOK := Lib.hid hs
  have HLV := Lib.hid (fun k t => levK_rng hs P k hP2 t)
  have HTR := Lib.hid (fun t => refS_rng (trA x.rows t) (trA_rng hs t))
  have hn0 : x.n ≤ 100000 := hs.2.2.2.2.1
  have hT0 : 0 < x.p.xs.length := by rw [← x.rows_len]; exact hs.2.2.1
  have hT1 : x.p.xs.length ≤ 16 := by rw [← x.rows_len]; exact hs.2.2.2.1
  have HLT : Hid (∀ k (hk : k < x.p.xs.length), x.p.xs[k].xs.length = x.n ∧ ∀ y ∈ x.p.xs[k].xs, -8388608 ≤ y ∧ y ≤ 8388607) := fun k hk => by
    have := hs.2.2.2.2.2 k (by rw [x.rows_len]; exact hk)
    have e : x.rows[k]'(by rw [x.rows_len]; exact hk) = x.p.xs[k].xs := by simp [Snd.rows]
    rw [e] at this
    exact this
  clear hb0 hs hz h
  generalize x.n = n0 at *
  generalize x.rows = rows at *
  obtain ⟨rate, ⟨A, c, L⟩⟩ := x
  obtain ⟨hn, hrd, hrs⟩ := h1
  simp only [Snd.v, Slc.v] at *
  have HRS := Lib.hid hrs
  clear hrs
  obtain ⟨b, off, rfl, hb, hc⟩ := hrd.at_ (by simp; omega)
  have HCE : Hid (∀ k (hk : k < L.length), (w.alloc (.cells #[.int .i64 rate, .slice (some ⟨b, off, none⟩) L.length c] 24)).cell? ⟨b, off + k, none⟩ = some (.slice L[k].a n0 L[k].c)) := fun k hk => by
    have := hc k (L[k].v) (by simp [hk])
    rw [this, ← (HLT.out k hk).1]; rfl
  clear hc
  obtain ⟨m, hm⟩ : ∃ m, n0 / P = m := ⟨_, rfl⟩
  have hmP : m * P ≤ n0 := by rw [← hm]; exact Nat.div_mul_le_self n0 P
  have hm1 : m ≤ n0 := by rw [← hm]; exact Nat.div_le_self n0 P
  have HMP := Lib.hid hmP
  rw [hm] at HR
  obtain ⟨i0, hi0, hz00, hz01, hz02⟩ := info_parts info_int
  have hmk := run_mk (P := Try.prog) 25 3 i0 _ 8 Try.underlying25 hi0 hz00 hz01 hz02 rfl (m : Int) m rfl (by omega) (by omega)
  have HMK := Lib.hid hmk
  have HQQ : Hid (Int.tdiv (n0 : Int) (P : Int) = (m : Int)) := by show _ = _; rw [← hm]; rfl
  have hc1 : (w.alloc (.cells #[.int .i64 rate, .slice (some ⟨b, off, none⟩) L.length c] 24)).cell? ⟨w.heap.size, 1, none⟩ = some (.slice (some ⟨b, off, none⟩) L.length c) := new_cell (cs := [_, _]) rfl rfl
  have hws : w.heap.size < (w.alloc (.cells #[.int .i64 rate, .slice (some ⟨b, off, none⟩) L.length c] 24)).heap.size := by simp
  have HLL := Lib.hid (lev_length rows P m)
  clear hm hi0 hz00 hz01 hz02 hmP hmk
  have hP0 : ((P : Int) == 0) = false := by simp; omega
  go_enter Try.func5, Try.ntmps5
  go_wp2_with fail
  refine HCK.out.mono ?_
  generalize w.alloc (.cells #[.int .i64 rate, .slice (some ⟨b, off, none⟩) L.length c] 24) = w0 at *
  rintro e w1 ⟨rfl, hb1⟩
  have HB1 := Lib.hid hb1
  have k1 : w1.cell? ⟨w.heap.size, 1, none⟩ = some (.slice (some ⟨b, off, none⟩) L.length c) := by rw [hb1.cell (by exact hws)]; exact hc1
  have HCW : Hid (∀ k (hk : k < L.length), w1.cell? ⟨b, off + k, none⟩ = some (.slice L[k].a n0 L[k].c)) := fun k hk => by rw [hb1.cell (by exact hb)]; exact HCE.out k hk
  have HRW : Hid (∀ s ∈ L, Rd w1 s.a (ic s.xs) ∧ s.xs.length ≤ s.c) := fun s hs => ⟨(HRS.out s hs).2.1.below hb1, (HRS.out s hs).2.2⟩
  have hbw : b < w1.heap.size := Nat.lt_of_lt_of_le hb hb1.size
  have hww : w.heap.size < w1.heap.size := Nat.lt_of_lt_of_le hws hb1.size
  have HK1 := Lib.hid k1
  clear hb1 hc1 HCE HRS
  go_wp2_with fail
  refine (HW.out _).mono ?_
  rintro e w2 ⟨rfl, rfl⟩
  have c0 := HCW.out 0 hT0
  rw [Nat.add_zero] at c0
  generalize L[0].a = a0 at c0
  generalize L[0].c = cc0 at c0
  have hmk := HMK.out
  have hqq := HQQ.out
  go_wp2_with fail
  have hn1 : Num w1 w1.heap.size m (refK rows P 0 0) (w1.alloc (.cells (zs m (.int .i64 0)).toArray 3)) := by
    refine ⟨?_, (Below.refl _ _).alloc (Nat.le_refl _) _⟩
    have := Blk.new w1 3 (zs m (.int .i64 0))
    rw [zs_ic] at this ⊢
    have e : (List.range m).map (refK rows P 0 0) = (List.range m).map fun _ => (0 : Int) := map_range_congr (fun k _ => by unfold refK; simp)
    rw [e]
    exact this
  have HN1 := Lib.hid hn1
  clear hn1 hmk hqq c0 HMK HQQ
  obtain ⟨g, hg⟩ : ∃ g, w1.heap.size = g := ⟨_, rfl⟩
  rw [hg] at HN1 hbw hww
  rw [hg]
  have HG := Lib.hid hg
  clear hg
  go_loopw [31] (fun kv wr => ∃ k : Nat, k ≤ m ∧ kv = .int .i64 (k : Int) ∧ Hid (Num w1 g m (refK rows P k 0) wr)) (fun kv _ => m - (intOf kv).toNat)
  case atStart => exact ⟨0, Nat.zero_le _, rfl, HN1⟩
  case round =>
    clear HN1 k1
    obtain ⟨k, hk, rfl, HN⟩ := hrel
    by_cases hlt : k < m
    case neg =>
      have hke : k = m := by omega
      have HRD : Hid (Rd wr (some ⟨g, 0, none⟩) (ic (lev rows P m))) := by
        have := (HN.out.1.rds (S := fun _ => True) trivial).rd
        rw [hke] at this
        have e : lev rows P m = (List.range m).map (refK rows P m 0) := map_range_congr (fun j hj => by unfold refK; rw [if_pos hj])
        show Rd _ _ _
        rw [e]
        exact this
      have HBB : Hid (Below w.heap.size w wr) := HB0.out.trans ((HB1.out.trans (HN.out.2.mono (by rw [← HG.out]; exact HB1.out.size))).mono HB0.out.size)
      have hd0 : decide (k < m) = false := by simpa using hlt
      clear hke
      go_wp2_with fail
      go_ret2
      exact ⟨_, _, by rw [HR.out, HLL.out]; rfl, by rw [HR.out]; exact HRD.out, HBB.out⟩
    have hd0 : decide (k < m) = true := by simpa using hlt
    have k1 : wr.cell? ⟨w.heap.size, 1, none⟩ = some (.slice (some ⟨b, off, none⟩) L.length c) := by rw [HN.out.2.cell (by exact hww)]; exact HK1.out
    obtain ⟨K, hK⟩ : ∃ K, k * P = K := ⟨_, rfl⟩
    have hKP : K + P ≤ n0 := by
      have h3 : (k + 1) * P ≤ m * P := Nat.mul_le_mul_right P hlt
      have h4 := HMP.out
      rw [Nat.add_mul, Nat.one_mul, hK] at h3
      omega
    obtain ⟨K2, hK2⟩ : ∃ K2, K + P = K2 := ⟨_, rfl⟩
    have HKI : Hid ((k : Int) * (P : Int) = (K : Int)) := by show _ = _; rw [← hK]; simp
    have HKJ : Hid (((k : Int) + 1) * (P : Int) = (K2 : Int)) := by show _ = _; rw [Int.add_mul, HKI.out, Int.one_mul, ← hK2]; simp
    have HK2 := Lib.hid hK2
    rw [hK2] at hKP
    have hKK : K < K2 := by omega
    have hKs : K2 - K = P := by omega
    clear hK2
    have HKK := Lib.hid hK
    clear hK
    go_wp2_with fail
    go_loopw [37] (fun tv wr => ∃ t : Nat, t ≤ L.length ∧ tv = .int .i64 (t : Int) ∧ Hid (Num w1 g m (refK rows P k (levK rows P k t)) wr)) (fun tv _ => L.length - (intOf tv).toNat)
    case atStart => exact ⟨0, Nat.zero_le _, rfl, HN⟩
    case round =>
      clear HN k1
      obtain ⟨t, ht, rfl, HN⟩ := hrel
      by_cases htl : t < L.length
      case neg =>
        have hte : t = L.length := by omega
        have HN2 : Hid (Num w1 g m (refK rows P (k + 1) 0) wr) := HN.out.congr (fun j _ => by rw [refK_start, hte, HRL.out])
        have hd1 : decide (t < L.length) = false := by simpa using htl
        clear hte
        go_wp2_with fail
        go_roundw
        case rel => exact ⟨k + 1, by omega, by go_num, HN2⟩
        case measure => simp [intOf]; omega
      have hd1 : decide (t < L.length) = true := by simpa using htl
      have hck : wr.cell? ⟨b, off + t, none⟩ = some (.slice L[t].a n0 L[t].c) := by rw [HN.out.2.cell (by exact hbw)]; exact HCW.out t htl
      obtain ⟨hrdt, hcap⟩ := HRW.out L[t] (List.getElem_mem htl)
      obtain ⟨hlen, hrng⟩ := HLT.out t htl
      have e4' : rows.getD t [] = L[t].xs := HRA.out t htl
      have HTA : Hid (∀ i (hi : i < L[t].xs.length), trA rows t i = ab L[t].xs[i]) := fun i hi => by
        unfold trA; rw [e4', List.getD_eq_getElem?_getD, List.getElem?_eq_getElem hi, Option.getD_some]
      have hrl : ∀ j, 0 ≤ refS (trA rows t) (k * P) j ∧ refS (trA rows t) (k * P) j ≤ 8388608 * (j : Int) := HTR.out t (k * P)
      have HRG := Lib.hid hrl
      generalize L[t] = s at *
      obtain ⟨a, cc, xs⟩ := s
      simp only at hck hrdt hlen hrng HTA hcap
      have HRNG := Lib.hid hrng
      have HLEN := Lib.hid hlen
      have hxl : K2 ≤ xs.length := by omega
      obtain ⟨b2, off2, rfl, hb2, hc2⟩ := hrdt.at_ (by simp [ic_length]; omega)
      have hb2g : b2 < g := by rw [← HG.out]; exact hb2
      have HC2 : Hid (∀ i (hi : i < xs.length), w1.cell? ⟨b2, off2 + i, none⟩ = some (.int .i64 xs[i])) := fun i hi => hc2 i _ (ic_at xs i hi)
      have j0 : (0 : Int) ≤ (K : Int) := by omega
      have j1 : (K : Int) ≤ (K2 : Int) := by omega
      have j2 : (K2 : Int) ≤ (cc : Int) := by omega
      have hcK : ¬ cc = K := by omega
      have hcK' : ¬ cc - K = 0 := by omega
      have hw0' : wrap64 ((k : Int) * (P : Int)) = (K : Int) := by rw [HKI.out]; exact IntWalk.wrap64_in _ (by omega)
      have hw1' : wrap64 (((k : Int) + 1) * (P : Int)) = (K2 : Int) := by rw [HKJ.out]; exact IntWalk.wrap64_in _ (by omega)
      clear hrng hlen hrdt hc2 e4' hrl
      go_wp2_with fail
      go_loopw [51] (fun jv wr => ∃ j : Nat, j ≤ P ∧ jv = .int .i64 (j : Int) ∧ Hid (Num w1 g m (refK rows P k (levK rows P k t + refS (trA rows t) (k * P) j)) wr)) (fun jv _ => P - (intOf jv).toNat)
      case atStart => exact ⟨0, Nat.zero_le _, rfl, HN.out.congr (fun _ _ => by simp [refS])⟩
      case round =>
        clear HN hck hw0' hw1'
        obtain ⟨j, hj, rfl, HN⟩ := hrel
        by_cases hjP : j < P
        case neg =>
          have hje : j = P := by omega
          have HN2 : Hid (Num w1 g m (refK rows P k (levK rows P k (t + 1))) wr) := HN.out.congr (fun _ _ => by rw [hje, levK])
          have hd2 : decide (j < P) = false := by simpa using hjP
          clear hje
          go_wp2_with fail
          go_roundw
          case rel => exact ⟨t + 1, by omega, by go_num, HN2⟩
          case measure => simp [intOf]; omega
        have hd2 : decide (j < P) = true := by simpa using hjP
        have hix : K + j < xs.length := by have := HK2.out; omega
        have hcj : wr.cell? ⟨b2, off2 + K + j, none⟩ = some (.int .i64 xs[K + j]) := by rw [HN.out.2.cell (by exact hb2g), Nat.add_assoc]; exact HC2.out (K + j) hix
        have hcq := HN.out.cell hlt
        rw [refK_at] at hcq
        have hfz := HN.out.1.frozen k
        have hv := HTA.out (K + j) hix
        obtain ⟨hy1, hy2⟩ := HRNG.out xs[K + j] (List.getElem_mem hix)
        have hlv := HLV.out k t
        have hcl := HRG.out j
        have HST : Hid (∀ v, v = levK rows P k t + refS (trA rows t) (k * P) j + ab xs[K + j] → Num w1 g m (refK rows P k (levK rows P k t + refS (trA rows t) (k * P) (j + 1))) (wr.setCell ⟨g, k, none⟩ (.int .i64 v))) := fun v hv2 => by
          refine HN.out.store k v (fun i _ => ?_)
          have e : levK rows P k t + refS (trA rows t) (k * P) (j + 1) = v := by rw [hv2, refS, HKK.out, hv]; omega
          rw [e]
          exact refK_set rows P k _ v i
        generalize xs[K + j] = y at *
        obtain ⟨u, hu⟩ : ∃ u, levK rows P k t + refS (trA rows t) (k * P) j = u := ⟨_, rfl⟩
        rw [hu] at hcq HST
        have hu1 : 0 ≤ u := by omega
        have hu2 : u ≤ 20000000000000 := by omega
        have jq0 : (0 : Int) ≤ (k : Int) := by omega
        have jq1 : (k : Int) < (m : Int) := by omega
        have ji0 : (0 : Int) ≤ (j : Int) := by omega
        have ji1 : (j : Int) < (P : Int) := by omega
        clear hv hlv hcl hu HN
        by_cases hneg : y < 0
        · have hmx : max y (-y) = -y := by omega
          have hab : Hid (ab y = -y) := by show _ = _; unfold ab; rw [if_pos hneg]
          go_wp2_with fail
          go_roundw
          case rel => exact ⟨j + 1, by omega, by go_num, HST.out _ (by rw [hab.out])⟩
          case measure => simp [intOf]; omega
        · have hmx : max y (-y) = y := by omega
          have hab : Hid (ab y = y) := by show _ = _; unfold ab; rw [if_neg hneg]
          go_wp2_with fail
          go_roundw
          case rel => exact ⟨j + 1, by omega, by go_num, HST.out _ (by rw [hab.out])⟩
          case measure => simp [intOf]; omega
end Go.Proofs.Ytlmgdofhmgpljaa
