/- Contracts of within, check. -/
import Derived.Test.YtoiobhjbikfpmaaBase
import Derived.Test.YtoiobhjbikfpmaaProg
namespace Go.Proofs.Ytoiobhjbikfpmaa
open Go.RowKit Go.Dw

def wIn (n lo hi : Int) : Bool := decide (lo ≤ n) && decide (n ≤ hi)
set_option maxHeartbeats 400000 in
theorem within_any (n lo hi : Int) (w : World) :
    Calls Try.prog 20 #[.int .i64 n, .int .i64 lo, .int .i64 hi] w fun e w' => e = .returned (.bool (wIn n lo hi)) ∧ w = w' := by
  by_cases h1 : lo ≤ n
  · go_enter Try.func20, Try.ntmps20
    go_wp2
    go_ret
    exact ⟨ret_bool (by simp [wIn, h1]), rfl⟩
  · go_enter Try.func20, Try.ntmps20
    go_wp2
    go_ret
    exact ⟨ret_bool (by simp [wIn]; omega), rfl⟩

theorem within_t (n lo hi : Int) (w : World) (h : lo ≤ n ∧ n ≤ hi) :
    Calls Try.prog 20 #[.int .i64 n, .int .i64 lo, .int .i64 hi] w fun e w' => e = .returned (.bool true) ∧ w = w' :=
  (within_any n lo hi w).mono fun _ _ ⟨he, hw⟩ => ⟨by rw [he]; exact ret_bool (by simp [wIn, h]), hw⟩
theorem within_f (n lo hi : Int) (w : World) (h : ¬ (lo ≤ n ∧ n ≤ hi)) :
    Calls Try.prog 20 #[.int .i64 n, .int .i64 lo, .int .i64 hi] w fun e w' => e = .returned (.bool false) ∧ w = w' :=
  (within_any n lo hi w).mono fun _ _ ⟨he, hw⟩ => ⟨by rw [he]; exact ret_bool (by simp [wIn]; omega), hw⟩

def okM (m : Int) : Bool := decide (0 ≤ m) && decide (m ≤ 255)
theorem okM_t {m : Int} (h : okM m = true) : 0 ≤ m ∧ m ≤ 255 := by simpa [okM] using h
theorem okM_f {m : Int} (h : okM m = false) : ¬ (0 ≤ m ∧ m ≤ 255) := by simp [okM] at h; omega
def chk (xs : List Int) : Int := if 500 < xs.length then 2 else if xs.all okM then 0 else 1

theorem all_take_succ {α : Type} (p : α → Bool) (xs : List α) (k : Nat) (h : k < xs.length) : (xs.take (k + 1)).all p = ((xs.take k).all p && p xs[k]) := by
  rw [List.take_succ_eq_append_getElem h, List.all_append]; simp
theorem chk_big {xs : List Int} (h : 500 < xs.length) : chk xs = 2 := by simp [chk, h]
theorem chk_ok {xs : List Int} (h : ¬ 500 < xs.length) (ha : xs.all okM = true) : chk xs = 0 := by simp [chk, h]; simpa using ha
theorem chk_bad {xs : List Int} (h : ¬ 500 < xs.length) {k : Nat} (hk : k < xs.length) (hv : okM xs[k] = false) : chk xs = 1 := by
  have : xs.all okM = false := by
    rw [List.all_eq_false]; exact ⟨xs[k], List.getElem_mem hk, by simp [hv]⟩
  unfold chk; rw [if_neg h, this]; rfl

set_option maxHeartbeats 400000 in
theorem check_any (A : Option Addr) (c : Nat) (xs : List Int) (w : World) (h : Rd w A (ic xs)) (hn : xs.length ≤ 9223372036854775807) :
    Calls Try.prog 19 #[.slice A xs.length c] w fun e w' => e = .returned (.int .i64 (chk xs)) ∧ w = w' := by
  by_cases hl : 500 < xs.length
  · go_enter Try.func19, Try.ntmps19
    go_wp2
    go_ret
    exact ⟨ret_int (chk_big hl).symm, rfl⟩
  · go_enter Try.func19, Try.ntmps19
    go_wp2
    go_loop [4, 10] (fun _ i => ∃ k : Nat, k ≤ xs.length ∧ i = .int .i64 k ∧ Hid ((xs.take k).all okM = true)) (fun _ i => xs.length - (intOf i).toNat)
    case atStart => exact ⟨0, Nat.zero_le _, rfl, by simp [Hid]⟩
    case round =>
      obtain ⟨k, hk, rfl, hall⟩ := hrel
      by_cases hlt : k < xs.length
      · obtain ⟨b, off, rfl, hb, hc⟩ := h.at_ (by simp [ic_length]; omega)
        have hck := hc k _ (ic_at xs k hlt)
        clear hc h
        have hsn : Hid ((xs.take (k + 1)).all okM = ((xs.take k).all okM && okM xs[k])) := all_take_succ _ _ _ hlt
        cases hv : okM xs[k] with
        | true =>
          have hb := okM_t hv
          have Hv := Lib.hid hv
          clear hv
          go_wp2_with (go_at_call 20; refine (within_t _ _ _ _ hb).mono ?_; rintro e w' ⟨rfl, rfl⟩)
          go_round
          case rel => exact ⟨k + 1, by omega, by go_num, by show _ = _; rw [hsn.out, hall.out, Hv.out]; rfl⟩
          case measure => simp [intOf]; omega
        | false =>
          have hb := okM_f hv
          have Hv := Lib.hid hv
          clear hv
          go_wp2_with (go_at_call 20; refine (within_f _ _ _ _ hb).mono ?_; rintro e w' ⟨rfl, rfl⟩)
          go_ret
          exact ⟨ret_int (chk_bad hl hlt Hv.out).symm, rfl⟩
      · go_wp2
        go_ret
        have : xs.take k = xs := List.take_of_length_le (by omega)
        exact ⟨ret_int (by have h3 := hall.out; rw [this] at h3; exact (chk_ok hl h3).symm), rfl⟩
end Go.Proofs.Ytoiobhjbikfpmaa
