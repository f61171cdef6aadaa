/- The contracts of credit.isLine and of the reference's isLine. -/
import Derived.Test.YtnlnaglaipjlfaaGreatDoorBase
import Derived.Test.YtnlnaglaipjlfaaGreatDoorShelf
import Derived.Test.YtnlnaglaipjlfaaGreatDoorNameQ
namespace Go.Proofs.YtnlnaglaipjlfaaGreatDoor
open Go.RowKit Go.Dw

/-- the variable that internal/bytealg reads -/
def HasMax (w : World) : Prop := ∃ m : Int, w.cell? ⟨0, 0, none⟩ = some (.int .i64 m)
theorem HasMax.below {w w' : World} (h : HasMax w) (hb : Below w.heap.size w w') : HasMax w' := by
  obtain ⟨m, hm⟩ := h
  exact ⟨m, by rw [hb.cell (World.block_lt_of_cell? w _ hm)]; exact hm⟩
theorem contains2_any (s : ByteArray) (w : World) (hm : HasMax w) (hs : s.size ≤ 1000000) :
    Calls Tryz.prog 84 #[.string s, .string ⟨#[32, 32]⟩] w fun e w' => e = .returned (.bool (Lib.contains s.data.toList [32, 32])) ∧ w = w' := by
  obtain ⟨m, hm⟩ := hm
  exact (Any.strings_Contains Tryz.lays144 s ⟨#[32, 32]⟩ m w (by omega) hm).mono fun _ _ h => ⟨h.1, h.2.symm⟩
def okC (b : UInt8) : Bool := decide (32 ≤ b.toNat) && decide (b.toNat ≤ 126) && !decide (b.toNat = 124)
/-- a line -/
def isLn (s : ByteArray) : Bool :=
  if h : 0 < s.size then decide (s.size ≤ 60) && !decide ((s[0]'h).toNat = 32) && !decide ((s[s.size - 1]'(by omega)).toNat = 32) && !Lib.contains s.data.toList [32, 32] && s.data.toList.all okC else false
theorem lnAll_succ (s : ByteArray) (k : Nat) (h : k < s.size) : (s.data.toList.take (k + 1)).all okC = ((s.data.toList.take k).all okC && okC s[k]) := by
  rw [List.take_succ_eq_append_getElem (by simpa using h), List.all_append]
  simp; rfl
theorem lnAll_false (s : ByteArray) (k : Nat) (h : k < s.size) (hb : okC s[k] = false) : s.data.toList.all okC = false := by
  rw [List.all_eq_false]
  exact ⟨s[k], by have : s.data.toList[k]'(by simpa using h) ∈ s.data.toList := List.getElem_mem _; exact this, by rw [hb]; simp⟩
set_option maxHeartbeats 1000000 in
theorem isLine_any (s : ByteArray) (w : World) (hm : HasMax w) (hs : s.size ≤ 9223372036854775807) :
    Calls Tryz.prog 57 #[.string s] w fun e w' => e = .returned (.bool (isLn s)) ∧ w = w' := by
  by_cases h0 : 0 < s.size
  case neg =>
    have hf : isLn s = false := by unfold isLn; rw [dif_neg h0]
    have h0' : s.size < 1 := by omega
    rw [hf]
    clear hf h0
    go_enter Tryz.func57, Tryz.ntmps57
    go_wp2_with fail
    go_ret
    exact ⟨rfl, rfl⟩
  have hd0 : ¬ s.size < 1 := by omega
  by_cases h1 : 60 < s.size
  · have hf : isLn s = false := by unfold isLn; rw [dif_pos h0]; simp; intro h; omega
    rw [hf]
    go_enter Tryz.func57, Tryz.ntmps57
    go_wp2_with fail
    go_ret
    exact ⟨rfl, rfl⟩
  have hw : IntKind.i64.wrap ((s.size : Int) - 1) = (s.size : Int) - 1 := IntWalk.i64_in _ (by omega)
  by_cases h2 : (s[0]'h0).toNat = 32
  · have hf : isLn s = false := by unfold isLn; rw [dif_pos h0]; simp [h2]
    have h2' : (((s[0]'h0).toNat : Int) == 32) = true := by simp [h2]
    rw [hf]
    clear h2
    go_enter Tryz.func57, Tryz.ntmps57
    go_wp2_with fail
    go_ret
    exact ⟨rfl, rfl⟩
  have h2' : (((s[0]'h0).toNat : Int) == 32) = false := by simp; omega
  have hl : s.size - 1 < s.size := by omega
  have hln : ((s.size : Int) - 1).toNat = s.size - 1 := by omega
  have hl0 : (0 : Int) ≤ (s.size : Int) - 1 := by omega
  have hl1 : (s.size : Int) - 1 < (s.size : Int) := by omega
  have hl2 : (1 : Int) ≤ (s.size : Int) := by omega
  by_cases h3 : (s[s.size - 1]'hl).toNat = 32
  · have hf : isLn s = false := by unfold isLn; rw [dif_pos h0]; simp [h3]
    have h3' : (((s[s.size - 1]'hl).toNat : Int) == 32) = true := by simp [h3]
    rw [hf]
    clear h3 h2
    go_enter Tryz.func57, Tryz.ntmps57
    go_wp2_with fail
    go_ret
    exact ⟨rfl, rfl⟩
  have h3' : (((s[s.size - 1]'hl).toNat : Int) == 32) = false := by simp; omega
  have HCT := Lib.hid (contains2_any s w hm (by omega))
  have HF : Hid (isLn s = (!Lib.contains s.data.toList [32, 32] && s.data.toList.all okC)) := by
    show _ = _
    unfold isLn; rw [dif_pos h0]
    simp [h2, h3, show s.size ≤ 60 by omega]
  obtain ⟨ct, hct⟩ : ∃ ct, Lib.contains s.data.toList [32, 32] = ct := ⟨_, rfl⟩
  rw [hct] at HCT HF
  clear hct h2 h3 hm
  cases ct with
  | true =>
    go_enter Tryz.func57, Tryz.ntmps57
    go_wp2_with fail
    refine HCT.out.mono ?_
    rintro e w1 ⟨rfl, rfl⟩
    go_wp2_with fail
    go_ret
    exact ⟨ret_bool (by rw [HF.out]; rfl), rfl⟩
  | false =>
    go_enter Tryz.func57, Tryz.ntmps57
    go_wp2_with fail
    refine HCT.out.mono ?_
    rintro e w1 ⟨rfl, rfl⟩
    go_wp2_with fail
    go_loop [31] (fun i => ∃ k : Nat, k ≤ s.size ∧ i = .int .i64 k ∧ Hid ((s.data.toList.take k).all okC = true)) (fun i => s.size - (intOf i).toNat)
    case atStart => exact ⟨0, Nat.zero_le _, rfl, by simp [Hid]⟩
    case round =>
      obtain ⟨k, hk, rfl, HALL⟩ := hrel
      by_cases hlt : k < s.size
      case neg =>
        have hd : decide (k < s.size) = false := by simpa using hlt
        have HE : Hid (isLn s = true) := by
          show _ = _
          have := HALL.out
          rw [List.take_of_length_le (by simp; omega)] at this
          rw [HF.out, this]; rfl
        go_wp2_with fail
        go_ret
        exact ⟨ret_bool HE.out.symm, rfl⟩
      have hd : decide (k < s.size) = true := by simpa using hlt
      have HS := Lib.hid (lnAll_succ s k hlt)
      cases hv : okC s[k] with
      | true =>
        have HV : Hid ((s.data.toList.take (k + 1)).all okC = true) := by show _ = _; rw [HS.out, HALL.out, hv]; rfl
        have hcs : 32 ≤ s[k].toNat ∧ s[k].toNat ≤ 126 ∧ ¬ s[k].toNat = 124 := by
          unfold okC at hv; simp at hv; omega
        clear hv
        obtain ⟨g1, g2, g3⟩ := hcs
        have g1' : (32 : Int) ≤ (s[k].toNat : Int) := by omega
        have g2' : (s[k].toNat : Int) ≤ 126 := by omega
        have g4 : ((s[k].toNat : Int) == 124) = false := by simp; omega
        go_wp2_with fail
        go_round
        case rel => exact ⟨k + 1, by omega, by go_num, HV⟩
        case measure => simp [intOf]; omega
      | false =>
        have HE : Hid (isLn s = false) := by show _ = _; rw [HF.out, lnAll_false s k hlt hv]; rfl
        have hcs : s[k].toNat < 32 ∨ 126 < s[k].toNat ∨ s[k].toNat = 124 := by
          unfold okC at hv; simp at hv; omega
        clear hv
        rcases hcs with g1 | g1 | g1
        · have g1' : (s[k].toNat : Int) < 32 := by omega
          go_wp2_with fail
          go_ret
          exact ⟨ret_bool HE.out.symm, rfl⟩
        · have g1' : (126 : Int) < (s[k].toNat : Int) := by omega
          have g2' : (32 : Int) ≤ (s[k].toNat : Int) := by omega
          go_wp2_with fail
          go_ret
          exact ⟨ret_bool HE.out.symm, rfl⟩
        · have g2' : (32 : Int) ≤ (s[k].toNat : Int) := by omega
          have g3' : (s[k].toNat : Int) ≤ 126 := by omega
          have g4 : ((s[k].toNat : Int) == 124) = true := by simp [g1]
          clear g1
          go_wp2_with fail
          go_ret
          exact ⟨ret_bool HE.out.symm, rfl⟩
set_option maxHeartbeats 1000000 in
theorem isLineR_any (s : ByteArray) (w : World) (hm : HasMax w) (hs : s.size ≤ 9223372036854775807) :
    Calls Tryz.prog 77 #[.string s] w fun e w' => e = .returned (.bool (isLn s)) ∧ w = w' := by
  by_cases h0 : 0 < s.size
  case neg =>
    have hf : isLn s = false := by unfold isLn; rw [dif_neg h0]
    rw [hf]
    clear hf
    obtain ⟨e1, e2⟩ := emp_t h0
    clear e2
    go_enter Tryz.func77, Tryz.ntmps77
    go_wp2_with fail
    go_ret
    exact ⟨rfl, rfl⟩
  have e1 := emp_f h0
  by_cases h1 : 60 < s.size
  · have hf : isLn s = false := by unfold isLn; rw [dif_pos h0]; simp; intro h; omega
    rw [hf]
    go_enter Tryz.func77, Tryz.ntmps77
    go_wp2_with fail
    go_ret
    exact ⟨rfl, rfl⟩
  have hw : IntKind.i64.wrap ((s.size : Int) - 1) = (s.size : Int) - 1 := IntWalk.i64_in _ (by omega)
  by_cases h2 : (s[0]'h0).toNat = 32
  · have hf : isLn s = false := by unfold isLn; rw [dif_pos h0]; simp [h2]
    have h2' : (((s[0]'h0).toNat : Int) == 32) = true := by simp [h2]
    rw [hf]
    clear h2
    go_enter Tryz.func77, Tryz.ntmps77
    go_wp2_with fail
    go_ret
    exact ⟨rfl, rfl⟩
  have h2' : (((s[0]'h0).toNat : Int) == 32) = false := by simp; omega
  have hl : s.size - 1 < s.size := by omega
  have hln : ((s.size : Int) - 1).toNat = s.size - 1 := by omega
  have hl0 : (0 : Int) ≤ (s.size : Int) - 1 := by omega
  have hl1 : (s.size : Int) - 1 < (s.size : Int) := by omega
  have hl2 : (1 : Int) ≤ (s.size : Int) := by omega
  by_cases h3 : (s[s.size - 1]'hl).toNat = 32
  · have hf : isLn s = false := by unfold isLn; rw [dif_pos h0]; simp [h3]
    have h3' : (((s[s.size - 1]'hl).toNat : Int) == 32) = true := by simp [h3]
    rw [hf]
    clear h3 h2
    go_enter Tryz.func77, Tryz.ntmps77
    go_wp2_with fail
    go_ret
    exact ⟨rfl, rfl⟩
  have h3' : (((s[s.size - 1]'hl).toNat : Int) == 32) = false := by simp; omega
  have HCT := Lib.hid (contains2_any s w hm (by omega))
  have HF : Hid (isLn s = (!Lib.contains s.data.toList [32, 32] && s.data.toList.all okC)) := by
    show _ = _
    unfold isLn; rw [dif_pos h0]
    simp [h2, h3, show s.size ≤ 60 by omega]
  obtain ⟨ct, hct⟩ : ∃ ct, Lib.contains s.data.toList [32, 32] = ct := ⟨_, rfl⟩
  rw [hct] at HCT HF
  clear hct h2 h3 hm
  cases ct with
  | true =>
    go_enter Tryz.func77, Tryz.ntmps77
    go_wp2_with fail
    refine HCT.out.mono ?_
    rintro e w1 ⟨rfl, rfl⟩
    go_wp2_with fail
    go_ret
    exact ⟨ret_bool (by rw [HF.out]; rfl), rfl⟩
  | false =>
    go_enter Tryz.func77, Tryz.ntmps77
    go_wp2_with fail
    refine HCT.out.mono ?_
    rintro e w1 ⟨rfl, rfl⟩
    go_wp2_with fail
    go_loop [30] (fun i => ∃ k : Nat, k ≤ s.size ∧ i = .int .i64 k ∧ Hid ((s.data.toList.take k).all okC = true)) (fun i => s.size - (intOf i).toNat)
    case atStart => exact ⟨0, Nat.zero_le _, rfl, by simp [Hid]⟩
    case round =>
      obtain ⟨k, hk, rfl, HALL⟩ := hrel
      by_cases hlt : k < s.size
      case neg =>
        have hd : decide (k < s.size) = false := by simpa using hlt
        have HE : Hid (isLn s = true) := by
          show _ = _
          have := HALL.out
          rw [List.take_of_length_le (by simp; omega)] at this
          rw [HF.out, this]; rfl
        go_wp2_with fail
        go_ret
        exact ⟨ret_bool HE.out.symm, rfl⟩
      have hd : decide (k < s.size) = true := by simpa using hlt
      have HS := Lib.hid (lnAll_succ s k hlt)
      cases hv : okC s[k] with
      | true =>
        have HV : Hid ((s.data.toList.take (k + 1)).all okC = true) := by show _ = _; rw [HS.out, HALL.out, hv]; rfl
        have hcs : 32 ≤ s[k].toNat ∧ s[k].toNat ≤ 126 ∧ ¬ s[k].toNat = 124 := by
          unfold okC at hv; simp at hv; omega
        clear hv
        obtain ⟨g1, g2, g3⟩ := hcs
        have g1' : (32 : Int) ≤ (s[k].toNat : Int) := by omega
        have g2' : (s[k].toNat : Int) ≤ 126 := by omega
        have g4 : ((s[k].toNat : Int) == 124) = false := by simp; omega
        go_wp2_with fail
        go_round
        case rel => exact ⟨k + 1, by omega, by go_num, HV⟩
        case measure => simp [intOf]; omega
      | false =>
        have HE : Hid (isLn s = false) := by show _ = _; rw [HF.out, lnAll_false s k hlt hv]; rfl
        have hcs : s[k].toNat < 32 ∨ 126 < s[k].toNat ∨ s[k].toNat = 124 := by
          unfold okC at hv; simp at hv; omega
        clear hv
        rcases hcs with g1 | g1 | g1
        · have g1' : (s[k].toNat : Int) < 32 := by omega
          go_wp2_with fail
          go_ret
          exact ⟨ret_bool HE.out.symm, rfl⟩
        · have g1' : (126 : Int) < (s[k].toNat : Int) := by omega
          have g2' : (32 : Int) ≤ (s[k].toNat : Int) := by omega
          go_wp2_with fail
          go_ret
          exact ⟨ret_bool HE.out.symm, rfl⟩
        · have g2' : (32 : Int) ≤ (s[k].toNat : Int) := by omega
          have g3' : (s[k].toNat : Int) ≤ 126 := by omega
          have g4 : ((s[k].toNat : Int) == 124) = true := by simp [g1]
          clear g1
          go_wp2_with fail
          go_ret
          exact ⟨ret_bool HE.out.symm, rfl⟩
end Go.Proofs.YtnlnaglaipjlfaaGreatDoor
