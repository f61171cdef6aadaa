/- Contracts of slices.Index and slices.Contains at strings. -/
import Derived.Test.YtnlnaglaipjlfaaGreatDoorEqS
import Derived.Test.YtnlnaglaipjlfaaGreatDoorFnd
namespace Go.Proofs.YtnlnaglaipjlfaaGreatDoor
open Go.RowKit Go.Dw

def memL (l : List ByteArray) (q : ByteArray) : Bool := l.any fun x => decide (x = q)
theorem cont_find (l : List ByteArray) (q : ByteArray) : memL l q = decide (l.findIdx (fun x => decide (x = q)) < l.length) := by
  unfold memL
  rw [Bool.eq_iff_iff, decide_eq_true_eq, List.findIdx_lt_length, List.any_eq_true]
set_option maxHeartbeats 1000000 in
theorem idxS_any (A : Option Addr) (c : Nat) (L : List ByteArray) (q : ByteArray) (w : World) (h : Rd w A (sb L)) (hn : L.length ≤ 9223372036854775807) :
    Calls Tryz.prog 38 #[.slice A L.length c, .string q] w fun e w' => e = .returned (.int .i64 (idxI (L.findIdx fun x => decide (x = q)) L.length)) ∧ w = w' := by
  have HR := Lib.hid h
  obtain ⟨ix, hix⟩ : ∃ ix, (L.findIdx fun x => decide (x = q)) = ix := ⟨_, rfl⟩
  have HIX := Lib.hid hix
  rw [hix]
  clear h hix
  go_enter Tryz.func38, Tryz.ntmps38
  go_wp2_with fail
  go_loop [8] (fun kv => ∃ k : Nat, k ≤ L.length ∧ kv = .int .i64 (k : Int) ∧ Hid (∀ j (hj : j < L.length), j < k → decide (L[j] = q) = false)) (fun kv => L.length - (intOf kv).toNat)
  case atStart => exact ⟨0, Nat.zero_le _, rfl, by intro j hj hj0; omega⟩
  case round =>
    obtain ⟨k, hk, rfl, HALL⟩ := hrel
    by_cases hkl : k < L.length
    case neg =>
      have hd1 : decide (k < L.length) = false := by simpa using hkl
      have HE : Hid (idxI ix L.length = -1) := by
        show _ = _
        rw [← HIX.out, find_no (fun j hj => HALL.out j hj (by omega))]
        unfold idxI; rw [if_neg (by omega)]
      go_wp2_with fail
      go_ret
      exact ⟨ret_int HE.out.symm, rfl⟩
    have hd1 : decide (k < L.length) = true := by simpa using hkl
    obtain ⟨b, off, rfl, hb, hcs⟩ := HR.out.at_ (by rw [sb_len]; omega)
    have d0 := hcs k _ (sb_at L k hkl)
    have HTR : Hid (decide (L[k] = q) = true → idxI ix L.length = (k : Int)) := fun ht => by
      rw [← HIX.out, find_at hkl (fun j hj => HALL.out j (by omega) hj) ht]
      unfold idxI; rw [if_pos hkl]
    have HFL : Hid (decide (L[k] = q) = false → ∀ j (hj : j < L.length), j < k + 1 → decide (L[j] = q) = false) := fun hf j hj hj1 => by
      by_cases e : j = k
      · subst e; exact hf
      · exact HALL.out j hj (by omega)
    clear hcs
    generalize L[k] = x at *
    by_cases he : q = x
    · have HE := Lib.hid (HTR.out (by simp [he]))
      have hs := seq_t he
      clear he
      go_wp2_with fail
      go_ret
      exact ⟨ret_int HE.out.symm, rfl⟩
    · have HN := Lib.hid (HFL.out (by simp; exact fun e => he e.symm))
      have hs := seq_f he
      clear he
      go_wp2_with fail
      go_round
      case rel => exact ⟨k + 1, by omega, by go_num, HN⟩
      case measure => simp [intOf]; omega
set_option maxHeartbeats 1000000 in
theorem contS_any (A : Option Addr) (c : Nat) (L : List ByteArray) (q : ByteArray) (w : World) (h : Rd w A (sb L)) (hn : L.length ≤ 9223372036854775807) :
    Calls Tryz.prog 15 #[.slice A L.length c, .string q] w fun e w' => e = .returned (.bool (memL L q)) ∧ w = w' := by
  have HI := Lib.hid (idxS_any A c L q w h hn)
  rw [cont_find]
  clear h
  generalize (L.findIdx fun x => decide (x = q)) = ix at *
  rcases hasV ix L.length with ⟨e1, e2⟩ | ⟨e1, e2⟩
  · rw [e1] at HI
    have HE : Hid (decide (ix < L.length) = true) := by show _ = _; simpa using e2
    have hz : (0 : Int) ≤ (ix : Int) := by omega
    clear e1 e2
    go_enter Tryz.func15, Tryz.ntmps15
    go_wp2_with fail
    refine HI.out.mono ?_
    rintro e w1 ⟨rfl, rfl⟩
    go_wp2_with fail
    go_ret
    exact ⟨ret_bool (by rw [HE.out]), rfl⟩
  · rw [e1] at HI
    have HE : Hid (decide (ix < L.length) = false) := by show _ = _; simpa using e2
    clear e1 e2
    go_enter Tryz.func15, Tryz.ntmps15
    go_wp2_with fail
    refine HI.out.mono ?_
    rintro e w1 ⟨rfl, rfl⟩
    go_wp2_with fail
    go_ret
    exact ⟨ret_bool HE.out.symm, rfl⟩
end Go.Proofs.YtnlnaglaipjlfaaGreatDoor
