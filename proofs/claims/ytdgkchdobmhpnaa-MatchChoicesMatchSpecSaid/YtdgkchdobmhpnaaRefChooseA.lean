/- The contract of the reference's after. -/
import Derived.Test.YtdgkchdobmhpnaaRefChooseP
import Derived.Test.YtdgkchdobmhpnaaTab
namespace Go.Proofs.Ytdgkchdobmhpnaa
open Go.RowKit Go.Dw

/-- the entries of the reference's tables are in bounds -/
def TabR (T M : Nat) (rows : List (List Int)) : Prop := rows.length = T ∧ ∀ u, u < T → (rows.getD u []).length = M + 1 ∧ ∀ c, c ≤ M → -1125899906842624 ≤ en rows u c ∧ en rows u c ≤ 1000000000
theorem RelT.tabR {d T M : Nat} {rows rrows : List (List Int)} (h : RelT d T M rows rrows) (hd : d ≤ 100) : TabR T M rrows := by
  refine ⟨h.1, fun u hu => ⟨h.2.1 u hu, fun c hc => ?_⟩⟩
  rcases h.2.2 u c hu hc with ⟨_, q2, q3⟩ | ⟨_, q2, q3, q4⟩
  · simp only [NT] at *; omega
  · omega
theorem amax_b {T M : Nat} {rows : List (List Int)} (h : TabR T M rows) {cost : Int} (h0 : 0 ≤ cost) {t c : Nat} (ht : t < T) (hc : c ≤ M) : ∀ u, u ≤ T → -1125899906842624 ≤ amax rows cost t c u ∧ amax rows cost t c u ≤ 1000000000
  | 0, _ => (h.2 t ht).2 c hc
  | u + 1, hu => by
    have ih := amax_b h h0 ht hc u (by omega)
    have := (h.2 u (by omega)).2 (c - 1) (by omega)
    unfold amax
    split <;> omega

def aft (n i : Nat) (rows : List (List Int)) (cost : Int) (t c T : Nat) : Int := if i + 1 = n then 0 else amax rows cost t c T
theorem aft_t {n i : Nat} {rows : List (List Int)} {cost : Int} {t c T : Nat} (h : i + 1 = n) : aft n i rows cost t c T = 0 := by unfold aft; rw [if_pos h]
theorem aft_f {n i : Nat} {rows : List (List Int)} {cost : Int} {t c T : Nat} (h : ¬ i + 1 = n) : aft n i rows cost t c T = amax rows cost t c T := by unfold aft; rw [if_neg h]
set_option maxRecDepth 100000 in
set_option maxHeartbeats 1600000 in
theorem after_any (S : Nat → Prop) (O n T M : Nat) (PA : Option Addr) (pcap : Nat) (cost : Int) (i t c : Nat) (rows : List (List Int)) (v1 : Value) (w : World) (hi : i < n) (hn : n ≤ 60) (hT : T ≤ 20) (hM : M ≤ 60) (ht : t < T) (hc : c ≤ M) (hc0 : 0 ≤ cost) (hc1 : cost ≤ 1000000)
    (hr : i + 1 < n → w.cell? ⟨O, i + 1, none⟩ = some v1 ∧ RdIIs S w v1 rows ∧ TabR T M rows ∧ O < w.heap.size) :
    Calls Try.prog 54 #[.agg #[.int .i64 T, .slice PA n pcap, .int .i64 cost, .int .i64 M], .slice (some ⟨O, 0, none⟩) n n, .int .i64 i, .int .i64 t, .int .i64 c] w fun e w' => e = .returned (.int .i64 (aft n i rows cost t c T)) ∧ Below w.heap.size w w' := by
  have hb0 : Below w.heap.size w (w.alloc (.cells #[.int .i64 T, .slice PA n pcap, .int .i64 cost, .int .i64 M] 41)) := (Below.refl _ _).alloc (Nat.le_refl _) _
  have HB0 := Lib.hid hb0
  by_cases hl : i + 1 = n
  · have h1 : ((i : Int) + 1 == (n : Int)) = true := by simp; omega
    have HL := Lib.hid hl
    clear hl hr hb0
    go_enter Try.func54, Try.ntmps54
    go_wp2
    go_ret
    exact ⟨ret_int (aft_t HL.out).symm, HB0.out⟩
  have h1 : ((i : Int) + 1 == (n : Int)) = false := by simp; omega
  have hs2 : i + 1 < n := by omega
  obtain ⟨ho, hrd, hTab, hO⟩ := hr hs2
  have hTL := hTab.1
  have HAB := Lib.hid (fun u hu => amax_b hTab hc0 ht hc u hu)
  have hgetl : ∀ u, u < T → ∀ hu : u < rows.length, rows[u].length = M + 1 := fun u h hu => by rw [← getRow hu]; exact (hTab.2 u h).1
  -- the cells of an entry
  have hent : ∀ u k, u < T → k ≤ M → ∃ b off c1 b2 off2 c2, v1 = .slice (some ⟨b, off, none⟩) T c1 ∧ w.cell? ⟨b, off + u, none⟩ = some (.slice (some ⟨b2, off2, none⟩) (M + 1) c2) ∧ w.cell? ⟨b2, off2 + k, none⟩ = some (.int .i64 (en rows u k)) ∧ b < w.heap.size ∧ b2 < w.heap.size := by
    intro u k hu hk
    have hul : u < rows.length := by omega
    obtain ⟨b, off, c1, b2, off2, c2, e1, e2, e3⟩ := hrd.at_ hul (show k < rows[u].length by rw [hgetl u hu hul]; omega)
    rw [hgetl u hu hul] at e2
    rw [hTL] at e1
    rw [← en_at hul (by rw [hgetl u hu hul]; omega)] at e3
    exact ⟨b, off, c1, b2, off2, c2, e1, e2, e3, World.block_lt_of_cell? w _ e2, World.block_lt_of_cell? w _ e3⟩
  have HENT := Lib.hid hent
  have HL := Lib.hid hl
  have HTab := Lib.hid hTab
  obtain ⟨b, off, cc1, b2, off2, cc2, rfl, e2, e3, hb1, hb2⟩ := hent t c ht hc
  have hoa : (w.alloc (.cells #[.int .i64 T, .slice PA n pcap, .int .i64 cost, .int .i64 M] 41)).cell? ⟨O, i + 1, none⟩ = some (.slice (some ⟨b, off, none⟩) T cc1) := (hb0.cell (by exact hO)).trans ho
  have e2a : (w.alloc (.cells #[.int .i64 T, .slice PA n pcap, .int .i64 cost, .int .i64 M] 41)).cell? ⟨b, off + t, none⟩ = some (.slice (some ⟨b2, off2, none⟩) (M + 1) cc2) := (hb0.cell (by exact hb1)).trans e2
  have e3a : (w.alloc (.cells #[.int .i64 T, .slice PA n pcap, .int .i64 cost, .int .i64 M] 41)).cell? ⟨b2, off2 + c, none⟩ = some (.int .i64 (en rows t c)) := (hb0.cell (by exact hb2)).trans e3
  clear hent hl hTab hrd hr hgetl hTL ho e2 e3
  go_enter Try.func54, Try.ntmps54
  go_wp2
  clear e2a e3a
  go_loopw [11, 32] (fun v ui wr => ∃ u nq : Nat, u ≤ T ∧ ui = .int .i64 u ∧ v = .int .i64 (amax rows cost t c u) ∧ wr = (w.alloc (.cells #[.int .i64 T, .slice PA n pcap, .int .i64 cost, .int .i64 M] 41)).drewN nq) (fun _ ui _ => T - (intOf ui).toNat)
  case atStart => exact ⟨0, 0, Nat.zero_le _, rfl, rfl, rfl⟩
  case round =>
    obtain ⟨u, nq, hu, rfl, rfl, rfl⟩ := hrel
    by_cases hul : u < T
    · have hM' := HAB.out u hu
      have HA : Hid (amax rows cost t c (u + 1) = if u ≠ t ∧ 0 < c then max (amax rows cost t c u) (en rows u (c - 1) - cost) else amax rows cost t c u) := rfl
      by_cases hut : u = t
      · have hd : ((u : Int) != (t : Int)) = false := by simp; omega
        have HA2 : Hid (amax rows cost t c (u + 1) = amax rows cost t c u) := by show _ = _; rw [HA.out, if_neg (fun hh => hh.1 hut)]
        clear hut
        go_wp2
        go_roundw
        case rel => exact ⟨u + 1, nq, by omega, by go_num, by rw [HA2.out], rfl⟩
        case measure => simp [intOf]; omega
      have hd : ((u : Int) != (t : Int)) = true := by simp; omega
      by_cases hcz : c = 0
      · have hdc : decide (0 < c) = false := by simp; omega
        have HA2 : Hid (amax rows cost t c (u + 1) = amax rows cost t c u) := by show _ = _; rw [HA.out, if_neg (fun hh => by omega)]
        clear hut hcz
        go_wp2
        go_roundw
        case rel => exact ⟨u + 1, nq, by omega, by go_num, by rw [HA2.out], rfl⟩
        case measure => simp [intOf]; omega
      have hdc : decide (0 < c) = true := by simp; omega
      have HA2 : Hid (amax rows cost t c (u + 1) = max (amax rows cost t c u) (en rows u (c - 1) - cost)) := by show _ = _; rw [HA.out, if_pos ⟨hut, by omega⟩]
      obtain ⟨b', off', cc1', b2', off2', cc2', heq, e2, e3, hb1', hb2'⟩ := HENT.out u (c - 1) hul (by omega)
      have heq1 : b' = b ∧ off' = off := by injection heq with h1 _ _; injection h1 with h1; injection h1 with h1 h2 _; exact ⟨h1.symm, h2.symm⟩
      obtain ⟨rfl, rfl⟩ := heq1
      have e2a : (w.alloc (.cells #[.int .i64 T, .slice PA n pcap, .int .i64 cost, .int .i64 M] 41)).cell? ⟨b', off' + u, none⟩ = some (.slice (some ⟨b2', off2', none⟩) (M + 1) cc2') := (HB0.out.cell (by exact hb1)).trans e2
      have e3a : (w.alloc (.cells #[.int .i64 T, .slice PA n pcap, .int .i64 cost, .int .i64 M] 41)).cell? ⟨b2', off2' + (c - 1), none⟩ = some (.int .i64 (en rows u (c - 1))) := (HB0.out.cell (by exact hb2')).trans e3
      have hen := ((HTab.out.2 u hul).2 (c - 1) (by omega))
      have hi1 : (i : Int) + 1 < (n : Int) := by omega
      have hi2 : (u : Int) < (T : Int) := by omega
      have hi3 : (c : Int) - 1 < (M : Int) + 1 := by omega
      have hi4 : (1 : Int) ≤ (c : Int) := by omega
      have hi5 : ((c : Int) - 1).toNat = c - 1 := by omega
      have hi6 : ((i : Int) + 1).toNat = i + 1 := by omega
      clear hut hcz heq e2 e3
      by_cases hmx : amax rows cost t c u < en rows u (c - 1) - cost
      · have HA3 : Hid (amax rows cost t c (u + 1) = en rows u (c - 1) - cost) := by show _ = _; rw [HA2.out]; omega
        have hmx2 : ¬ en rows u (c - 1) - cost < amax rows cost t c u := by omega
        go_wp2
        have hw1 : IntKind.i64.wrap ((c : Int) - 1) = (c : Int) - 1 := IntWalk.i64_in _ (by omega)
        have hw2 : IntKind.i64.wrap ((i : Int) + 1) = (i : Int) + 1 := IntWalk.i64_in _ (by omega)
        have hw3 : IntKind.i64.wrap (en rows u (c - 1) - cost) = en rows u (c - 1) - cost := IntWalk.i64_in _ (by omega)
        go_quiet (fail)
        clear hw1 hw2 hw3
        go_wp2
        go_roundw
        case rel => exact ⟨u + 1, _, by omega, by go_num, by rw [HA3.out], rfl⟩
        case measure => simp [intOf]; omega
      · have HA3 : Hid (amax rows cost t c (u + 1) = amax rows cost t c u) := by show _ = _; rw [HA2.out]; omega
        go_wp2
        have hw1 : IntKind.i64.wrap ((c : Int) - 1) = (c : Int) - 1 := IntWalk.i64_in _ (by omega)
        have hw2 : IntKind.i64.wrap ((i : Int) + 1) = (i : Int) + 1 := IntWalk.i64_in _ (by omega)
        have hw3 : IntKind.i64.wrap (en rows u (c - 1) - cost) = en rows u (c - 1) - cost := IntWalk.i64_in _ (by omega)
        go_quiet (fail)
        clear hw1 hw2 hw3
        go_wp2
        go_roundw
        case rel => exact ⟨u + 1, _, by omega, by go_num, by rw [HA3.out], rfl⟩
        case measure => simp [intOf]; omega
    · have HE : Hid (amax rows cost t c u = amax rows cost t c T) := by show _ = _; rw [show u = T by omega]
      go_wp2
      go_ret
      exact ⟨ret_int (by rw [aft_f HL.out]; exact HE.out), below_drewN HB0.out _⟩
end Go.Proofs.Ytdgkchdobmhpnaa
