/- The contract of sound.Silences. -/
import Derived.Test.YtlmgdofhmgpljaaLevA
import Derived.Deep.DeepCutAuto
import Derived.Deep.CutBlock
namespace Go.Proofs.Ytlmgdofhmgpljaa
open Go.RowKit Go.Dw
attribute [local go_sem ↓] Go.wp_at_zero Go.wp_at_succ

theorem drewN_add (w : World) (m n : Nat) : (w.drewN m).drewN n = w.drewN (m + n) := by simp [World.drewN, Nat.add_assoc]
theorem qui_false {T : List (List Int)} {level : Int} {i t : Nat} (h : level < trA T t i) : ∀ {n : Nat}, t < n → qui T level i n = false
  | 0, hn => by omega
  | n + 1, hn => by
    rw [qui]
    by_cases he : t = n
    · subst he; rw [decide_eq_false (by omega)]; simp
    · rw [qui_false h (by omega)]; rfl
theorem qui_true {T : List (List Int)} {level : Int} {i : Nat} : ∀ {n : Nat}, (∀ t, t < n → trA T t i ≤ level) → qui T level i n = true
  | 0, _ => rfl
  | n + 1, h => by rw [qui, qui_true (fun t ht => h t (by omega)), decide_eq_true (h n (by omega))]; rfl
/-- what the closure of Silences says, in every world in which the boxes and the sound lie -/
def QuiAt (w : World) (x : Snd) (level : Int) (B1 B2 : Nat) : Prop :=
  ∀ (W : World) (i : Nat), Below w.heap.size w W → i < x.n →
    Calls Try.prog 26 #[.int .i64 (i : Int), .pointer (some ⟨B1, 0, none⟩), .pointer (some ⟨B2, 0, none⟩)] W fun e W' => e = .returned (.bool (qui x.rows level i x.rows.length)) ∧ ∃ n, W' = W.drewN n
set_option maxHeartbeats 2000000 in
theorem quiAt_any (x : Snd) (level : Int) (B1 B2 : Nat) (w : World) (h : x.Ok w) (hs : SndOk x.rate x.rows x.n) (hB1 : B1 < w.heap.size) (hB2 : B2 < w.heap.size)
    (h1 : w.cell? ⟨B1, 1, none⟩ = some x.p.v) (h2 : w.cell? ⟨B2, 0, none⟩ = some (.int .i64 level)) : QuiAt w x level B1 B2 := by
  intro W i hW hi
  have k1 : W.cell? ⟨B1, 1, none⟩ = some x.p.v := by rw [hW.cell (by exact hB1)]; exact h1
  have k2 : W.cell? ⟨B2, 0, none⟩ = some (.int .i64 level) := by rw [hW.cell (by exact hB2)]; exact h2
  have h3 := h.below hW
  have HRA := Lib.hid x.rows_at
  have HRL := Lib.hid x.rows_len
  have hn0 : x.n ≤ 100000 := hs.2.2.2.2.1
  have hT1 : x.p.xs.length ≤ 16 := by rw [← x.rows_len]; exact hs.2.2.2.1
  have HLT : Hid (∀ k (hk : k < x.p.xs.length), x.p.xs[k].xs.length = x.n ∧ ∀ y ∈ x.p.xs[k].xs, -8388608 ≤ y ∧ y ≤ 8388607) := fun k hk => by
    have := hs.2.2.2.2.2 k (by rw [x.rows_len]; exact hk)
    have e : x.rows[k]'(by rw [x.rows_len]; exact hk) = x.p.xs[k].xs := by simp [Snd.rows]
    rw [e] at this
    exact this
  clear hs h h1 h2 hW
  generalize x.n = n0 at *
  generalize x.rows = rows at *
  obtain ⟨rate, ⟨A, c, L⟩⟩ := x
  obtain ⟨hn, hrd, hrs⟩ := h3
  simp only [Slc.v] at *
  have HRS := Lib.hid hrs
  clear hrs
  go_enter Try.func26, Try.ntmps26
  go_wp2_with fail
  go_loopw [10] (fun tv wr => ∃ t : Nat, t ≤ L.length ∧ tv = .int .i64 (t : Int) ∧ Hid (∀ j, j < t → trA rows j i ≤ level) ∧ ∃ m, wr = W.drewN m) (fun tv _ => L.length - (intOf tv).toNat)
  case atStart => exact ⟨0, Nat.zero_le _, rfl, by intro j hj; omega, 0, rfl⟩
  case round =>
    obtain ⟨t, ht, rfl, HALL, m, rfl⟩ := hrel
    by_cases hlt : t < L.length
    case neg =>
      have HE : Hid (qui rows level i rows.length = true) := qui_true (fun j hj => HALL.out j (by rw [HRL.out] at hj; have hj' : j < L.length := hj; omega))
      have hd0 : decide (t < L.length) = false := by simpa using hlt
      go_wp2_with fail
      go_ret
      exact ⟨ret_bool HE.out.symm, m, rfl⟩
    have hd0 : decide (t < L.length) = true := by simpa using hlt
    obtain ⟨b, off, rfl, hb, hc⟩ := hrd.at_ (by simp; omega)
    have hck : W.cell? ⟨b, off + t, none⟩ = some L[t].v := hc t (L[t].v) (by simp [hlt])
    obtain ⟨_, hrdt, _⟩ := HRS.out L[t] (List.getElem_mem hlt)
    obtain ⟨hlen, hrng⟩ := HLT.out t hlt
    have e4' : rows.getD t [] = L[t].xs := HRA.out t hlt
    have hix : i < L[t].xs.length := by rw [hlen]; exact hi
    have hv : trA rows t i = ab L[t].xs[i] := by
      unfold trA; rw [e4', List.getD_eq_getElem?_getD, List.getElem?_eq_getElem hix, Option.getD_some]
    obtain ⟨hy1, hy2⟩ := hrng L[t].xs[i] (List.getElem_mem hix)
    have HTL : Hid (t < rows.length) := by show _ < _; rw [HRL.out]; exact hlt
    clear hc e4' hrng
    generalize L[t] = s at *
    obtain ⟨a, cc, xs⟩ := s
    simp only [Slc.v] at hck hrdt hlen hix hv hy1 hy2
    obtain ⟨b2, off2, rfl, hb2, hc2⟩ := hrdt.at_ (by simp [ic_length]; omega)
    have c2 : W.cell? ⟨b2, off2 + i, none⟩ = some (.int .i64 xs[i]) := hc2 i _ (ic_at xs i hix)
    have HV := Lib.hid hv
    clear hc2 hrdt hv
    generalize xs[i] = y at *
    have j0 : (0 : Int) ≤ (i : Int) := by omega
    have j1 : (i : Int) < (xs.length : Int) := by omega
    obtain ⟨z, hz⟩ : ∃ z, ab y = z := ⟨_, rfl⟩
    have hmx : max y (-y) = z := by rw [ab_max, hz]
    rw [hz] at HV
    by_cases hneg : y < 0
    all_goals
      have hw : IntKind.i64.wrap (-y) = -y := IntWalk.i64_in _ (by omega)
      by_cases hl : level < z
      · have hl' : decide (level < z) = true := by simpa using hl
        have HE : Hid (qui rows level i rows.length = false) := qui_false (by rw [HV.out]; exact hl) HTL.out
        clear hz
        go_wp2_with fail
        go_quiet (fail)
        all_goals
          go_wp2_with fail
          go_ret
          exact ⟨ret_bool HE.out.symm, _, drewN_add _ _ _⟩
      · have hl' : decide (level < z) = false := by simpa using hl
        have HA2 : Hid (∀ j, j < t + 1 → trA rows j i ≤ level) := fun j hj => by
          by_cases he : j = t
          · subst he; rw [HV.out]; omega
          · exact HALL.out j (by omega)
        clear hz
        go_wp2_with fail
        go_quiet (fail)
        all_goals
          go_wp2_with fail
          go_roundw
          case rel => exact ⟨t + 1, by omega, by go_num, HA2, _, rfl⟩
          case measure => simp [intOf]; omega
end Go.Proofs.Ytlmgdofhmgpljaa
