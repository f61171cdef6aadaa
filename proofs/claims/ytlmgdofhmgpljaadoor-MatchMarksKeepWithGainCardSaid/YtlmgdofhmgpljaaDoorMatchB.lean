/- The contract of checkMarks. -/
import Derived.Test.YtlmgdofhmgpljaaDoorMrkD
namespace Go.Proofs.YtlmgdofhmgpljaaDoor
open Go.RowKit Go.Dw

/-- a slice of integers: where it lies, its capacity, its numbers -/
structure Sl where
  a : Option Addr
  c : Nat
  xs : List Int
def Sl.v (s : Sl) : Value := .slice s.a s.xs.length s.c
def chks : List Sl → Int
  | [] => 0
  | s :: t => if chk s.xs = 0 then chks t else chk s.xs
theorem chks_ok {L : List Sl} (h : ∀ s ∈ L, chk s.xs = 0) : chks L = 0 := by
  induction L with
  | nil => rfl
  | cons s t ih => rw [chks, if_pos (h s (by simp))]; exact ih fun u hu => h u (by simp [hu])
theorem chks_bad {L : List Sl} {k : Nat} (hk : k < L.length) (h : ∀ s ∈ L.take k, chk s.xs = 0) (hb : chk L[k].xs ≠ 0) : chks L = chk L[k].xs := by
  induction L generalizing k with
  | nil => simp at hk
  | cons s t ih =>
    cases k with
    | zero => simp at hb ⊢; rw [chks, if_neg hb]
    | succ k => rw [chks, if_pos (h s (by simp))]; simp at hb hk ⊢; exact ih hk (fun u hu => h u (by simp [hu])) hb
theorem chk_take_succ {L : List Sl} {k : Nat} (hk : k < L.length) (h : ∀ s ∈ L.take k, chk s.xs = 0) (hb : chk L[k].xs = 0) : ∀ s ∈ L.take (k + 1), chk s.xs = 0 := by
  rw [List.take_succ_eq_append_getElem hk]
  intro s hs
  rcases List.mem_append.1 hs with h1 | h1
  · exact h s h1
  · simp at h1; subst h1; exact hb

set_option maxHeartbeats 400000 in
theorem checkMarks_any (A : Option Addr) (c : Nat) (L : List Sl) (w : World) (h : Rd w A (L.map Sl.v)) (hn : L.length ≤ 1000) (hr : ∀ s ∈ L, Rd w s.a (ic s.xs) ∧ s.xs.length ≤ 9223372036854775807) :
    Calls Tryd.prog 23 #[.slice A L.length c] w fun e w' => e = .returned (.int .i64 (chks L)) ∧ w = w' := by
  have HR := Lib.hid hr
  clear hr
  go_enter Tryd.func23, Tryd.ntmps23
  go_wp2
  go_loop [9] (fun i => ∃ k : Nat, k ≤ L.length ∧ i = .int .i64 k ∧ Hid (∀ s ∈ L.take k, chk s.xs = 0)) (fun i => L.length - (intOf i).toNat)
  case atStart => exact ⟨0, Nat.zero_le _, rfl, by simp [Hid]⟩
  case round =>
    obtain ⟨k, hk, rfl, hall⟩ := hrel
    by_cases hlt : k < L.length
    · obtain ⟨b, off, rfl, hb, hc⟩ := h.at_ (by simp; omega)
      have hck := hc k (L[k].v) (by simp [hlt])
      clear hc h
      obtain ⟨hrd, hlen⟩ := HR.out L[k] (List.getElem_mem hlt)
      have Hb := @chks_bad L k hlt
      have Hs := @chk_take_succ L k hlt
      have HB := Lib.hid Hb
      have HS := Lib.hid Hs
      clear Hb Hs
      generalize L[k] = s at *
      obtain ⟨a, cc, xs⟩ := s
      simp only [Sl.v] at hck hrd hlen HB HS
      by_cases hl : 500 < xs.length
      · go_wp2
        go_ret
        exact ⟨ret_int (by rw [HB.out hall.out (by rw [chk_big hl]; decide), chk_big hl]), rfl⟩
      · go_wp2
        go_loop [18] (fun i => ∃ k : Nat, k ≤ xs.length ∧ i = .int .i64 k ∧ Hid ((xs.take k).all okM = true)) (fun i => xs.length - (intOf i).toNat)
        case atStart => exact ⟨0, Nat.zero_le _, rfl, by simp [Hid]⟩
        case round =>
          obtain ⟨j, hj, rfl, hall2⟩ := hrel
          by_cases hlj : j < xs.length
          · obtain ⟨b2, off2, rfl, hb2, hc2⟩ := hrd.at_ (by simp [ic_length]; omega)
            have hcj := hc2 j _ (ic_at xs j hlj)
            clear hc2 hrd
            have hsn : Hid ((xs.take (j + 1)).all okM = ((xs.take j).all okM && okM xs[j])) := all_take_succ _ _ _ hlj
            cases hv : okM xs[j] with
            | true =>
              have hb := okM_t hv
              have Hv := Lib.hid hv
              clear hv
              obtain ⟨hb1, hb2⟩ := hb
              go_wp2
              go_round
              case rel => exact ⟨j + 1, by omega, by go_num, by show _ = _; rw [hsn.out, hall2.out, Hv.out]; rfl⟩
              case measure => simp [intOf]; omega
            | false =>
              have hb := okM_f hv
              have Hv := Lib.hid hv
              clear hv
              rcases (show xs[j] < 0 ∨ (¬ xs[j] < 0 ∧ 255 < xs[j]) by omega) with hb1 | hb1
              all_goals
                go_wp2
                go_ret
                exact ⟨ret_int (by rw [HB.out hall.out (by rw [chk_bad hl hlj Hv.out]; decide), chk_bad hl hlj Hv.out]), rfl⟩
          · go_wp2
            have hfull : xs.take j = xs := List.take_of_length_le (by omega)
            have h3 := hall2.out
            rw [hfull] at h3
            go_round
            case rel => exact ⟨k + 1, by omega, by go_num, HS.out hall.out (chk_ok hl h3)⟩
            case measure => simp [intOf]; omega
    · go_wp2
      go_ret
      have : L.take k = L := List.take_of_length_le (by omega)
      exact ⟨ret_int (by have h3 := hall.out; rw [this] at h3; exact (chks_ok h3).symm), rfl⟩
end Go.Proofs.YtlmgdofhmgpljaaDoor
