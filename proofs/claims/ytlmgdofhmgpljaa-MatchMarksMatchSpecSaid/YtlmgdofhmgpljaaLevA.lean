/- The contract of match.levels. -/
import Derived.Test.YtlmgdofhmgpljaaSndA
namespace Go.Proofs.Ytlmgdofhmgpljaa
open Go.RowKit Go.Dw
attribute [local go_sem ↓] Go.wp_at_zero Go.wp_at_succ

theorem info_int : (Try.prog.info? 3).map (fun i => (i.zero, i.size, i.bytes)) = some (some (.int .i64 0), 1, 8) := by kernel_rfl
/-- a row of m numbers of the call's own -/
def Num (w1 : World) (g m : Nat) (f : Nat → Int) (wr : World) : Prop := Blk wr g 3 (ic ((List.range m).map f)) ∧ Below g w1 wr
theorem Num.store {w1 wr : World} {g m : Nat} {f f' : Nat → Int} (h : Num w1 g m f wr) (j : Nat) (v : Int) (hf : ∀ k, k < m → f' k = if k = j then v else f k) : Num w1 g m f' (wr.setCell ⟨g, j, none⟩ (.int .i64 v)) := by
  refine ⟨?_, h.2.setCell (Nat.le_refl _) _⟩
  have h1 := h.1.set_ j (.int .i64 v)
  have e : (ic ((List.range m).map f)).set j (.int .i64 v) = ic ((List.range m).map f') := by
    unfold ic
    rw [← List.map_set, map_range_set, map_range_congr hf]
  rw [e] at h1
  exact h1
theorem Num.cell {w1 wr : World} {g m : Nat} {f : Nat → Int} (h : Num w1 g m f wr) {j : Nat} (hj : j < m) : wr.cell? ⟨g, j, none⟩ = some (.int .i64 (f j)) := by
  rw [h.1.cell j]; simp [ic, hj]
theorem Num.congr {w1 wr : World} {g m : Nat} {f f' : Nat → Int} (h : Num w1 g m f wr) (e : ∀ k, k < m → f k = f' k) : Num w1 g m f' wr := by
  unfold Num; rw [← map_range_congr e]; exact h
theorem zs_ic (m : Nat) : zs m (.int .i64 0) = ic ((List.range m).map fun _ => (0 : Int)) := by
  apply List.ext_getElem
  · simp [zs, ic]
  · intro i h1 h2; simp [zs, ic]
theorem colS_rng {f : Nat → Int} (hf : ∀ i, 0 ≤ f i ∧ f i ≤ 8388608) {P : Nat} (hP1 : 1 ≤ P) (hP2 : P ≤ 100000) (k i : Nat) : 0 ≤ colS f P k i ∧ colS f P k i ≤ 838860800000 := by
  rw [colS_eq f P k (by omega)]
  have := refS_rng f hf (k * P) (min (i - k * P) P)
  omega
theorem colS_full {f : Nat → Int} {P m k : Nat} (hP1 : 1 ≤ P) (hk : k < m) : colS f P k (m * P) = refS f (k * P) P := by
  rw [colS_eq f P k (by omega)]
  have h1 : (k + 1) * P ≤ m * P := Nat.mul_le_mul_right P hk
  rw [Nat.add_mul, Nat.one_mul] at h1
  rw [show min (m * P - k * P) P = P by omega]
set_option maxHeartbeats 2000000 in
theorem levels_any (x : Snd) (P : Nat) (w : World) (h : x.Ok w) (hs : SndOk x.rate x.rows x.n) (hP1 : 1 ≤ P) (hP2 : P ≤ 100000) :
    Calls Try.prog 14 #[x.v, .int .i64 (P : Int)] w fun e w' => ∃ A c, e = .returned (.slice A (x.n / P) c) ∧ Rd w' A (ic (lev x.rows P (x.n / P))) ∧ Below w.heap.size w w' := by
  have HRA := Lib.hid x.rows_at
  have HRL := Lib.hid x.rows_len
  have hb0 : Below w.heap.size w (w.alloc (.cells #[.int .i64 x.rate, x.p.v] 24)) := (Below.refl _ _).alloc (Nat.le_refl _) _
  have h1 := h.below hb0
  have HB0 := Lib.hid hb0
  have HNE : Hid (x.n = (x.rows.getD 0 []).length) := rfl
  have HOK := Lib.hid hs
  have HLV := Lib.hid (fun k t => levK_rng hs P k hP2 t)
  have HTR := Lib.hid (fun t => refS_rng (trA x.rows t) (trA_rng hs t))
  have hn0 : x.n ≤ 100000 := hs.2.2.2.2.1
  have hT0 : 0 < x.p.xs.length := by rw [← x.rows_len]; exact hs.2.2.1
  have hT1 : x.p.xs.length ≤ 16 := by rw [← x.rows_len]; exact hs.2.2.2.1
  have HLT : Hid (∀ k (hk : k < x.p.xs.length), x.p.xs[k].xs.length = x.n ∧ ∀ y ∈ x.p.xs[k].xs, -8388608 ≤ y ∧ y ≤ 8388607) := fun k hk => by
    have := hs.2.2.2.2.2 k (by rw [x.rows_len]; exact hk)
    have e : x.rows[k]'(by rw [x.rows_len]; exact hk) = x.p.xs[k].xs := by simp [Snd.rows]
    rw [e] at this
    exact this
  clear hb0 hs
  generalize x.n = n0 at *
  generalize x.rows = rows at *
  obtain ⟨rate, ⟨A, c, L⟩⟩ := x
  obtain ⟨hn, hrd, hrs⟩ := h1
  clear h
  simp only [Snd.v, Slc.v] at *
  have HRS := Lib.hid hrs
  clear hrs
  obtain ⟨b, off, rfl, hb, hc⟩ := hrd.at_ (by simp; omega)
  have HCE : Hid (∀ k (hk : k < L.length), (w.alloc (.cells #[.int .i64 rate, .slice (some ⟨b, off, none⟩) L.length c] 24)).cell? ⟨b, off + k, none⟩ = some (.slice L[k].a n0 L[k].c)) := fun k hk => by
    have := hc k (L[k].v) (by simp [hk])
    rw [this, ← (HLT.out k hk).1]; rfl
  have c0 := HCE.out 0 hT0
  rw [Nat.add_zero] at c0
  generalize L[0].a = a0 at c0
  generalize L[0].c = cc0 at c0
  clear hc
  obtain ⟨m, hm⟩ : ∃ m, n0 / P = m := ⟨_, rfl⟩
  have hmP : m * P ≤ n0 := by rw [← hm]; exact Nat.div_mul_le_self n0 P
  have hm1 : m ≤ n0 := by rw [← hm]; exact Nat.div_le_self n0 P
  have HM := Lib.hid hm
  rw [hm]
  obtain ⟨i0, hi0, hz00, hz01, hz02⟩ := info_parts info_int
  have hmk := run_mk (P := Try.prog) 25 3 i0 _ 8 Try.underlying25 hi0 hz00 hz01 hz02 rfl (m : Int) m rfl (by omega) (by omega)
  have hqq : Int.tdiv (n0 : Int) (P : Int) = (m : Int) := by rw [← hm]; rfl
  clear hm hi0 hz00 hz01 hz02
  have hP0 : ((P : Int) == 0) = false := by simp; omega
  go_enter Try.func14, Try.ntmps14
  go_wp2_with fail
  have hn1 : Num (w.alloc (.cells #[.int .i64 rate, .slice (some ⟨b, off, none⟩) L.length c] 24)) (w.heap.size + 1) m (fun k => levK rows P k 0) ((w.alloc (.cells #[.int .i64 rate, .slice (some ⟨b, off, none⟩) L.length c] 24)).alloc (.cells (zs m (.int .i64 0)).toArray 3)) := by
    refine ⟨?_, (Below.refl _ _).alloc (by simp) _⟩
    have := Blk.new (w.alloc (.cells #[.int .i64 rate, .slice (some ⟨b, off, none⟩) L.length c] 24)) 3 (zs m (.int .i64 0))
    rw [zs_ic] at this ⊢
    simpa [levK] using this
  have HN1 := Lib.hid hn1
  clear hn1 hmk hqq c0
  have hg1 : (w.alloc (.cells #[.int .i64 rate, .slice (some ⟨b, off, none⟩) L.length c] 24)).heap.size = w.heap.size + 1 := by simp
  have HG1 := Lib.hid hg1
  generalize w.alloc (.cells #[.int .i64 rate, .slice (some ⟨b, off, none⟩) L.length c] 24) = w1 at *
  clear hg1
  obtain ⟨g, hg⟩ : ∃ g, w.heap.size + 1 = g := ⟨_, rfl⟩
  rw [hg] at HN1 HG1
  rw [hg]
  clear hg
  obtain ⟨M, hM⟩ : ∃ M, m * P = M := ⟨_, rfl⟩
  have HMI : Hid ((m : Int) * (P : Int) = (M : Int)) := by show _ = _; rw [← hM]; simp
  have HMM := Lib.hid hM
  rw [hM] at hmP
  clear hM
  go_loopw [21] (fun tv wr => ∃ t : Nat, t ≤ L.length ∧ tv = .int .i64 (t : Int) ∧ Hid (Num w1 g m (fun k => levK rows P k t) wr)) (fun tv _ => L.length - (intOf tv).toNat)
  case atStart => exact ⟨0, Nat.zero_le _, rfl, HN1⟩
  case round =>
    clear HN1
    obtain ⟨t, ht, rfl, HN⟩ := hrel
    by_cases hlt : t < L.length
    case neg =>
      have hte : t = L.length := by omega
      have HRD : Hid (Rd wr (some ⟨g, 0, none⟩) (ic (lev rows P m))) := by
        have := (HN.out.1.rds (S := fun _ => True) trivial).rd
        rw [hte] at this
        show Rd _ _ _
        unfold lev
        rw [HRL.out]
        exact this
      have HBB : Hid (Below w.heap.size w wr) := HB0.out.trans ((HN.out.2.mono (by rw [← HG1.out]; exact HB0.out.size)))
      have hd0 : decide (t < L.length) = false := by simpa using hlt
      clear hte
      go_wp2_with fail
      go_ret
      exact ⟨_, _, rfl, HRD.out, HBB.out⟩
    have hd0 : decide (t < L.length) = true := by simpa using hlt
    have hbg : b < g := by rw [← HG1.out]; exact hb
    have hck : wr.cell? ⟨b, off + t, none⟩ = some (.slice L[t].a n0 L[t].c) := by rw [HN.out.2.cell (by exact hbg)]; exact HCE.out t hlt
    obtain ⟨_, hrdt, hcap⟩ := HRS.out L[t] (List.getElem_mem hlt)
    obtain ⟨hlen, hrng⟩ := HLT.out t hlt
    have e4 := HRA.out t hlt
    have e4' : rows.getD t [] = L[t].xs := e4
    have HTA : Hid (∀ i (hi : i < L[t].xs.length), trA rows t i = ab L[t].xs[i]) := fun i hi => by
      unfold trA; rw [e4', List.getD_eq_getElem?_getD, List.getElem?_eq_getElem hi, Option.getD_some]
    have hrng2 := HTR.out t
    have HRG := Lib.hid (fun k i => colS_rng (trA_rng HOK.out t) hP1 hP2 k i)
    generalize L[t] = s at *
    obtain ⟨a, cc, xs⟩ := s
    simp only at hck hrdt hlen hrng HTA hcap
    have HRNG := Lib.hid hrng
    have hMc : (M : Int) ≤ (cc : Int) := by omega
    have hMc0 : (0 : Int) ≤ (M : Int) := by omega
    have HLEN := Lib.hid hlen
    have hMn : M ≤ xs.length := by omega
    have hw0 : IntKind.i64.wrap ((m : Int) * (P : Int)) = (M : Int) := by rw [HMI.out]; exact IntWalk.i64_in _ (by omega)
    have hw0' : wrap64 ((m : Int) * (P : Int)) = (M : Int) := by rw [HMI.out]; exact IntWalk.wrap64_in _ (by omega)
    have HRX := Lib.hid hrdt
    clear e4 e4' hrng hrng2 hlen hrdt
    go_wp2_with fail
    go_loopw [32] (fun iv wr => ∃ i : Nat, i ≤ M ∧ iv = .int .i64 (i : Int) ∧ Hid (Num w1 g m (fun k => levK rows P k t + colS (trA rows t) P k i) wr)) (fun iv _ => M - (intOf iv).toNat)
    case atStart => exact ⟨0, Nat.zero_le _, rfl, HN.out.congr (fun k _ => by simp [colS])⟩
    case round =>
      clear HN hck hw0 hw0'
      obtain ⟨i, hi, rfl, HN⟩ := hrel
      by_cases hil : i < M
      case neg =>
        have hie : i = M := by omega
        have HN2 : Hid (Num w1 g m (fun k => levK rows P k (t + 1)) wr) := HN.out.congr (fun k hk => by
          rw [hie, ← HMM.out, colS_full hP1 hk, levK])
        have hd1 : decide (i < M) = false := by simpa using hil
        clear hie
        go_wp2_with fail
        go_roundw
        case rel => exact ⟨t + 1, by omega, by go_num, HN2⟩
        case measure => simp [intOf]; omega
      have hd1 : decide (i < M) = true := by simpa using hil
      have hix : i < xs.length := by omega
      obtain ⟨b2, off2, rfl, hb2, hc2⟩ := HRX.out.at_ (by simp [ic_length]; omega)
      have hbg2 : b2 < g := by rw [← HG1.out]; exact hb2
      have hcj : wr.cell? ⟨b2, off2 + i, none⟩ = some (.int .i64 xs[i]) := by rw [HN.out.2.cell (by exact hbg2)]; exact hc2 i _ (ic_at xs i hix)
      clear hc2
      obtain ⟨q, hq⟩ : ∃ q, i / P = q := ⟨_, rfl⟩
      have hqm : q < m := by
        rw [← hq, Nat.div_lt_iff_lt_mul (by omega)]
        rw [HMM.out]; exact hil
      have hqq : Int.tdiv (i : Int) (P : Int) = (q : Int) := by rw [← hq]; rfl
      have hcq := HN.out.cell hqm
      have hfz := HN.out.1.frozen q
      have hv := HTA.out i hix
      have hy := HRNG.out xs[i] (List.getElem_mem hix)
      obtain ⟨hy1, hy2⟩ := hy
      have hlv := HLV.out q t
      have hcl := HRG.out q i
      have HST : Hid (∀ v, v = levK rows P q t + colS (trA rows t) P q i + ab xs[i] → Num w1 g m (fun k => levK rows P k t + colS (trA rows t) P k (i + 1)) (wr.setCell ⟨g, q, none⟩ (.int .i64 v))) := fun v hv2 => by
        refine HN.out.store q v (fun k hk => ?_)
        rw [colS, hv2, hv]
        by_cases he : k = q
        · subst he; rw [if_pos rfl, if_pos hq]; omega
        · rw [if_neg he, if_neg (by rw [hq]; exact fun h => he h.symm), Int.add_zero]
      try simp only at hcq
      generalize xs[i] = y at *
      obtain ⟨u, hu⟩ : ∃ u, levK rows P q t + colS (trA rows t) P q i = u := ⟨_, rfl⟩
      rw [hu] at hcq HST
      have hu1 : 0 ≤ u := by omega
      have hu2 : u ≤ 20000000000000 := by omega
      have jq0 : (0 : Int) ≤ (q : Int) := by omega
      have jq1 : (q : Int) < (m : Int) := by omega
      have ji0 : (0 : Int) ≤ (i : Int) := by omega
      have ji1 : (i : Int) < (M : Int) := by omega
      have hP0 : ((P : Int) == 0) = false := by simp; omega
      clear hv hlv hcl hu hq
      have HN' := HN
      clear HN
      by_cases hneg : y < 0
      · have hmx : max y (-y) = -y := by omega
        have hab : Hid (ab y = -y) := by show _ = _; unfold ab; rw [if_pos hneg]
        go_wp2_with fail
        go_roundw
        case rel => exact ⟨i + 1, by omega, by go_num, HST.out _ (by rw [hab.out])⟩
        case measure => simp [intOf]; omega
      · have hmx : max y (-y) = y := by omega
        have hab : Hid (ab y = y) := by show _ = _; unfold ab; rw [if_neg hneg]
        go_wp2_with fail
        go_roundw
        case rel => exact ⟨i + 1, by omega, by go_num, HST.out _ (by rw [hab.out])⟩
        case measure => simp [intOf]; omega
end Go.Proofs.Ytlmgdofhmgpljaa
