/- Several texts laid into one: The contract of sound.IsName; Plain: a name is at most 40 bytes long; -/
import Derived.Test.YtmppccnioiodgaaGreatDoorBase
import Derived.Test.YtmppccnioiodgaaGreatDoorShelf
/- The contract of sound.IsName. -/
namespace Go.Proofs.YtmppccnioiodgaaGreatDoor
open Go.RowKit Go.Dw

def nameCs : ByteArray := ⟨#[97, 98, 99, 100, 101, 102, 103, 104, 105, 106, 107, 108, 109, 110, 111, 112, 113, 114, 115, 116, 117, 118, 119, 120, 121, 122, 48, 49, 50, 51, 52, 53, 54, 55, 56, 57, 45]⟩
def nmTail (s : ByteArray) : Bool := (Lib.trimS s.data.toList nameCs.data.toList).isEmpty
def isNm (s : ByteArray) : Bool := if h : 0 < s.size then decide (s.size ≤ 40) && (decide (97 ≤ (s[0]'h).toNat) && decide ((s[0]'h).toNat ≤ 122)) && nmTail s else false
set_option maxHeartbeats 400000 in
theorem trim_any (s : ByteArray) (w : World) (hs : s.size ≤ 9223372036854775807) :
    Calls Tryz.prog 45 #[.string s, .string nameCs] w fun e w' => e = .returned (.string ⟨(Lib.trimS s.data.toList nameCs.data.toList).toArray⟩) ∧ Below w.heap.size w w' :=
  Any.strings_Trim_laid Tryz.lays160 (by kernel_rfl) s nameCs w hs (by decide) (ascii_of_all (by decide))
set_option maxHeartbeats 1000000 in
theorem isName_any (s : ByteArray) (w : World) (hs : s.size ≤ 9223372036854775807) :
    Calls Tryz.prog 34 #[.string s] w fun e w' => e = .returned (.bool (isNm s)) ∧ Below w.heap.size w w' := by
  by_cases h0 : 0 < s.size
  · by_cases h1 : 40 < s.size
    · have hf : isNm s = false := by unfold isNm; rw [dif_pos h0]; simp; intro h; omega
      rw [hf]
      go_enter Tryz.func34, Tryz.ntmps34
      go_wp2_with fail
      go_ret
      exact ⟨rfl, Below.refl _ _⟩
    · by_cases h2 : (s[0]'h0).toNat < 97
      · have hf : isNm s = false := by unfold isNm; rw [dif_pos h0]; simp; intro _ h; omega
        rw [hf]
        have h2' : ((s[0]'h0).toNat : Int) < 97 := by omega
        go_enter Tryz.func34, Tryz.ntmps34
        go_wp2_with fail
        go_ret
        exact ⟨rfl, Below.refl _ _⟩
      · by_cases h3 : 122 < (s[0]'h0).toNat
        · have hf : isNm s = false := by unfold isNm; rw [dif_pos h0]; simp; intro _ _ h; omega
          rw [hf]
          have h3' : (122 : Int) < ((s[0]'h0).toNat : Int) := by omega
          go_enter Tryz.func34, Tryz.ntmps34
          go_wp2_with fail
          go_ret
          exact ⟨rfl, Below.refl _ _⟩
        · have hf : isNm s = nmTail s := by unfold isNm; rw [dif_pos h0]; simp [show s.size ≤ 40 by omega, show 97 ≤ (s[0]'h0).toNat by omega, show (s[0]'h0).toNat ≤ 122 by omega]
          rw [hf]

          clear hf
          go_enter Tryz.func34, Tryz.ntmps34
          go_wp2_with fail
          refine (trim_any s _ hs).mono ?_
          rintro e w' ⟨rfl, hb⟩
          have HB := Lib.hid hb
          clear hb
          go_wp2_with fail
          go_ret
          exact ⟨rfl, HB.out⟩
  · have hf : isNm s = false := by unfold isNm; rw [dif_neg h0]
    rw [hf]
    go_enter Tryz.func34, Tryz.ntmps34
    go_wp2_with fail
    go_ret
    exact ⟨rfl, Below.refl _ _⟩
end Go.Proofs.YtmppccnioiodgaaGreatDoor
/- Plain: a name is at most 40 bytes long. -/
namespace Go.Proofs.YtmppccnioiodgaaGreatDoor
open Go.RowKit Go.Dw

theorem isNm_len (s : ByteArray) (h : isNm s = true) : s.size ≤ 40 := by
  unfold isNm at h
  split at h
  · simp only [Bool.and_eq_true, decide_eq_true_eq] at h; exact h.1.1
  · cases h
end Go.Proofs.YtmppccnioiodgaaGreatDoor
