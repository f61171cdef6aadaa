/- The contract of cmp.Or at ints, however many. -/
import Derived.Test.YtoiobhjbikfpmaaCmp
namespace Go.Proofs.Ytoiobhjbikfpmaa
open Go.RowKit Go.Dw

def orL : List Int → Int
  | [] => 0
  | x :: t => orI x (orL t)
theorem orL_zero : ∀ (xs : List Int) (k : Nat) (h : k < xs.length), (∀ j (hj : j < k), xs[j]'(by omega) = 0) → xs[k] ≠ 0 → orL xs = xs[k]
  | [], _, h, _, _ => by simp at h
  | x :: t, 0, _, _, hx => by simp at hx; simp [orL, orI, hx]
  | x :: t, k + 1, h, hz, hx => by
    have h0 : x = 0 := hz 0 (by omega)
    have := orL_zero t k (by simpa using h) (fun j hj => by have := hz (j + 1) (by omega); simpa using this) (by simpa using hx)
    simp [orL, orI, h0, this]
theorem orL_none : ∀ (xs : List Int), (∀ j (hj : j < xs.length), xs[j] = 0) → orL xs = 0
  | [], _ => rfl
  | x :: t, hz => by
    have h0 : x = 0 := hz 0 (by simp)
    have := orL_none t (fun j hj => by have := hz (j + 1) (by simpa using hj); simpa using this)
    simp [orL, orI, h0, this]
set_option maxHeartbeats 1000000 in
theorem or_any (b off c : Nat) (xs : List Int) (w : World) (hn : xs.length ≤ 1000) (h : ∀ j (hj : j < xs.length), w.cell? ⟨b, off + j, none⟩ = some (.int .i64 xs[j])) :
    Calls Try.prog 17 #[.slice (some ⟨b, off, none⟩) xs.length c] w fun e w' => e = .returned (.int .i64 (orL xs)) ∧ w = w' := by
  have H := Lib.hid h
  clear h
  go_enter Try.func17, Try.ntmps17
  go_wp2
  go_loop [5, 8] (fun _ i => ∃ k : Nat, k ≤ xs.length ∧ i = .int .i64 k ∧ Hid (∀ j (hj : j < xs.length), j < k → xs[j] = 0)) (fun _ i => xs.length - (intOf i).toNat)
  case atStart => exact ⟨0, by omega, rfl, fun j _ hj => by omega⟩
  case round =>
    obtain ⟨k, hk, rfl, hz⟩ := hrel
    by_cases hlt : k < xs.length
    · have hc := H.out k hlt
      by_cases e : xs[k] = 0
      · have e' : (xs[k] == 0) = true := by simpa using e
        have E := Lib.hid e
        clear e
        go_wp2
        go_round
        case rel => exact ⟨k + 1, by omega, by go_num, fun j hj hjk => by
          by_cases hjk2 : j = k
          · subst hjk2; exact E.out
          · exact hz.out j hj (by omega)⟩
        case measure => simp [intOf]; omega
      · have e' : (xs[k] == 0) = false := by simpa using e
        go_wp2
        go_ret
        exact ⟨ret_int (by rw [orL_zero xs k hlt (fun j hj => hz.out j (by omega) hj) e]), rfl⟩
    · go_wp2
      go_ret
      exact ⟨ret_int (by rw [orL_none xs (fun j hj => hz.out j hj (by omega))]), rfl⟩
end Go.Proofs.Ytoiobhjbikfpmaa
