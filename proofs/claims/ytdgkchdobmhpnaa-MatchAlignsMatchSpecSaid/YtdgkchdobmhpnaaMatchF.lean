/- Contracts of match.Text (whole) and of the reference's Text. -/
import Derived.Test.YtdgkchdobmhpnaaMatchC
namespace Go.Proofs.Ytdgkchdobmhpnaa
open Go.RowKit Go.Dw

/-- Text: the bytes and the fault -/
def txr (xs : List Int) : List UInt8 × Int := if chk xs = 0 then (txt xs, 0) else ([], chk xs)
theorem chk_zero {xs : List Int} (h : chk xs = 0) : ¬ 500 < xs.length ∧ xs.all okM = true := by
  unfold chk at h
  split at h
  · simp at h
  · rename_i h1
    split at h
    · rename_i h2; exact ⟨h1, h2⟩
    · simp at h
theorem chk_vals (xs : List Int) : chk xs = 0 ∨ chk xs = 1 ∨ chk xs = 2 := by
  unfold chk; split
  · simp
  · split <;> simp
theorem chks_one (s : Sl) : chks [s] = chk s.xs := by
  unfold chks; split
  · rename_i h; rw [h]; rfl
  · rfl

set_option maxHeartbeats 400000 in
theorem text_bad (A : Option Addr) (c : Nat) (xs : List Int) (w : World) (h : Rd w A (ic xs)) (hn : xs.length ≤ 9223372036854775807) (hb : chk xs ≠ 0) :
    Calls Try.prog 9 #[.slice A xs.length c] w fun e w' => e = .returned (.tuple #[.string ⟨#[]⟩, .int .i64 (chk xs)]) ∧ Below w.heap.size w w' := by
  have hb0 : Below w.heap.size w (w.alloc (.cells #[.slice A xs.length c] 22)) := (Below.refl _ _).alloc (Nat.le_refl _) _
  go_enter Try.func9, Try.ntmps9
  go_wp2_with fail
  refine (checkMarks_any (some ⟨w.heap.size, 0, none⟩) 1 [⟨A, c, xs⟩] _ ?_ (by simp) ?_).mono ?_
  · refine .inr ⟨_, _, rfl, by simp, ?_⟩
    intro j u hu
    cases j with
    | zero => simp at hu; subst hu; simp [Sl.v]
    | succ j => simp at hu
  · intro s hs
    simp at hs
    subst hs
    exact ⟨h.below hb0, hn⟩
  rintro e w' ⟨rfl, rfl⟩
  rw [chks_one]
  have Hb0 := Lib.hid hb0
  have hne : (chk xs != 0) = true := by simpa using hb
  clear hb0 hb
  go_wp2_with fail
  go_ret2
  exact ⟨rfl, Hb0.out⟩
theorem text_any (A : Option Addr) (c : Nat) (xs : List Int) (w : World) (h : Rd w A (ic xs)) (hn : xs.length ≤ 9223372036854775807) :
    Calls Try.prog 9 #[.slice A xs.length c] w fun e w' => e = .returned (.tuple #[.string ⟨(txr xs).1.toArray⟩, .int .i64 (txr xs).2]) ∧ Below w.heap.size w w' := by
  by_cases h0 : chk xs = 0
  · have h1 := chk_zero h0
    have : txr xs = (txt xs, 0) := by simp [txr, h0]
    rw [this]
    exact text_ok A c xs w h hn h1.1 h1.2
  · have : txr xs = ([], chk xs) := by simp [txr, h0]
    rw [this]
    exact text_bad A c xs w h hn h0

theorem run_hexs (w : World) (i : Int) (h0 : 0 ≤ i) (h1 : i < 16) :
    Sem.run Try.prog (Instr.slice 9 (.string ⟨#[48, 49, 50, 51, 52, 53, 54, 55, 56, 57, 97, 98, 99, 100, 101, 102]⟩) (some (.int .i64 i)) (some (.int .i64 (i + 1))) none) w = .ok (.string ⟨#[hx i]⟩) w := by
  go_simp
  rw [if_pos (by omega), if_pos (by omega)]
  obtain ⟨n, rfl⟩ := Int.eq_ofNat_of_zero_le h0
  have hn : n < 16 := by omega
  unfold hx hexB
  match n, hn with
  | 0, _ | 1, _ | 2, _ | 3, _ | 4, _ | 5, _ | 6, _ | 7, _ | 8, _ | 9, _ | 10, _ | 11, _ | 12, _ | 13, _ | 14, _ | 15, _ => rfl
theorem run_add2 (w : World) (a b : UInt8) : Sem.run Try.prog (binOp .add 9 (.string ⟨#[a]⟩) (.string ⟨#[b]⟩)) w = .ok (.string ⟨#[a, b]⟩) w := by
  go_simp; rfl
theorem run_addl (w : World) (a b : UInt8) (l : List UInt8) (h : l.length ≤ 1000) : Sem.run Try.prog (binOp .add 9 (.string ⟨l.toArray⟩) (.string ⟨#[a, b]⟩)) w = .ok (.string ⟨(l ++ [a, b]).toArray⟩) w := by
  go_simp
  rw [if_neg (by omega)]
  congr 2

set_option maxHeartbeats 400000 in
theorem rtext_ok (A : Option Addr) (c : Nat) (xs : List Int) (w : World) (h : Rd w A (ic xs)) (hn : xs.length ≤ 9223372036854775807) (hl : ¬ 500 < xs.length) (ha : xs.all okM = true) :
    Calls Try.prog 10 #[.slice A xs.length c] w fun e w' => e = .returned (.tuple #[.string ⟨(txt xs).toArray⟩, .int .i64 0]) ∧ Below w.heap.size w w' := by
  have HA := Lib.hid ha
  clear ha
  have h0 := Lib.hid (chk_ok hl HA.out)
  go_enter Try.func10, Try.ntmps10
  go_wp2_with fail
  refine (check_any A c xs _ h hn).mono ?_
  rintro e w' ⟨rfl, rfl⟩
  rw [h0.out]
  go_wp2_with fail
  go_loopw [5, 15] (fun v i wr => ∃ k : Nat, k ≤ xs.length ∧ i = .int .i64 k ∧ v = .string ⟨(txt (xs.take k)).toArray⟩ ∧ ∃ n, wr = w.drewN n) (fun _ i _ => xs.length - (intOf i).toNat)
  case atStart => exact ⟨0, Nat.zero_le _, rfl, rfl, 0, rfl⟩
  case round =>
    obtain ⟨k, hk, rfl, rfl, n, rfl⟩ := hrel
    by_cases hlt : k < xs.length
    · obtain ⟨b, off, rfl, hb, hc⟩ := h.at_ (by simp [ic_length]; omega)
      have hck := hc k _ (ic_at xs k hlt)
      have hm := okM_t (List.all_eq_true.1 HA.out _ (List.getElem_mem hlt))
      obtain ⟨hm1, hm2⟩ := hm
      have HT := Lib.hid (txt_succ xs k hlt)
      have hlen : (txt (xs.take k)).length ≤ 1000 := by rw [txt_length, List.length_take]; omega
      generalize txt (xs.take k) = tk at *
      generalize xs[k] = m at *
      have hi1 := fun W => run_hexs W (m / 16) (by omega) (by omega)
      have hi2 := fun W => run_hexs W (m % 16) (by omega) (by omega)
      have ha1 := fun W => run_add2 W (hx (m / 16)) (hx (m % 16))
      have ha2 := fun W => run_addl W (hx (m / 16)) (hx (m % 16)) tk hlen
      clear hc
      go_wp2_with fail
      go_quiet (fail)
      go_wp2_with fail
      go_roundw
      case rel => exact ⟨k + 1, by omega, by go_num, by rw [HT.out]; rfl, _, rfl⟩
      case measure => simp [intOf]; omega
    · have hfull : xs.take k = xs := List.take_of_length_le (by omega)
      rw [hfull]
      go_wp2_with fail
      go_ret2
      exact ⟨rfl, ⟨rfl, rfl, rfl, Nat.le_refl _, fun _ _ => rfl⟩⟩
set_option maxHeartbeats 400000 in
theorem rtext_bad (A : Option Addr) (c : Nat) (xs : List Int) (w : World) (h : Rd w A (ic xs)) (hn : xs.length ≤ 9223372036854775807) (hb : chk xs ≠ 0) :
    Calls Try.prog 10 #[.slice A xs.length c] w fun e w' => e = .returned (.tuple #[.string ⟨#[]⟩, .int .i64 (chk xs)]) ∧ Below w.heap.size w w' := by
  go_enter Try.func10, Try.ntmps10
  go_wp2_with fail
  refine (check_any A c xs _ h hn).mono ?_
  rintro e w' ⟨rfl, rfl⟩
  have hne : (chk xs != 0) = true := by simpa using hb
  clear hb
  go_wp2_with fail
  go_ret2
  exact ⟨rfl, Below.refl _ _⟩
theorem rtext_any (A : Option Addr) (c : Nat) (xs : List Int) (w : World) (h : Rd w A (ic xs)) (hn : xs.length ≤ 9223372036854775807) :
    Calls Try.prog 10 #[.slice A xs.length c] w fun e w' => e = .returned (.tuple #[.string ⟨(txr xs).1.toArray⟩, .int .i64 (txr xs).2]) ∧ Below w.heap.size w w' := by
  by_cases h0 : chk xs = 0
  · have h1 := chk_zero h0
    have : txr xs = (txt xs, 0) := by simp [txr, h0]
    rw [this]
    exact rtext_ok A c xs w h hn h1.1 h1.2
  · have : txr xs = ([], chk xs) := by simp [txr, h0]
    rw [this]
    exact rtext_bad A c xs w h hn h0
end Go.Proofs.Ytdgkchdobmhpnaa
