/- The contracts of credit.Agree and of awake. -/
import Derived.Test.YtnlnaglaipjlfaaGreatDoorAgrA
import Derived.Deep.DeepCutAuto
namespace Go.Proofs.YtnlnaglaipjlfaaGreatDoor
open Go.RowKit Go.Dw

theorem words_small {s : ByteArray} (hs : s.size ≤ 1048576) : (wordsP s.data.toList).length ≤ 1048577 ∧ ∀ x ∈ wordsP s.data.toList, x.length ≤ 1048576 := by
  constructor
  · unfold wordsP
    have h1 := List.length_filter_le (fun w : List UInt8 => !w.isEmpty) ((splitB 32 (s.data.toList.map lowB)).map trimDot)
    rw [List.length_map, split_len] at h1
    have h2 := List.count_le_length (a := (32 : UInt8)) (l := s.data.toList.map lowB)
    rw [List.length_map, size_list] at h2
    omega
  · intro x hx
    unfold wordsP at hx
    have h1 := (List.mem_filter.1 hx).1
    obtain ⟨p, hp, rfl⟩ := List.mem_map.1 h1
    have h2 := split_mem 32 _ p hp
    rw [List.length_map, size_list] at h2
    exact Nat.le_trans (trim_le p) (by omega)
set_option maxHeartbeats 1000000 in
theorem Agree_any (s t : ByteArray) (w : World) (hs : s.size ≤ 1048576) (ht : t.size ≤ 1048576) :
    Calls Tryz.prog 32 #[.string s, .string t] w fun e w' => e = .returned (.bool (agr s.data.toList t.data.toList)) ∧ Below w.heap.size w w' := by
  have H1 := Lib.hid (words_any s w hs)
  have H2 := Lib.hid (fun W => words_any t W ht)
  have HR : Hid (agr s.data.toList t.data.toList = agreeW (wordsP s.data.toList) (wordsP t.data.toList)) := rfl
  obtain ⟨hl1, hw1⟩ := words_small hs
  obtain ⟨_, hw2⟩ := words_small ht
  have HW1 := Lib.hid hw1
  have HW2 := Lib.hid hw2
  clear hw1 hw2
  generalize agr s.data.toList t.data.toList = r at *
  generalize wordsP s.data.toList = a at *
  generalize wordsP t.data.toList = b at *
  go_enter Tryz.func32, Tryz.ntmps32
  go_wp2_with fail
  refine H1.out.mono ?_
  rintro e w1 ⟨A, c, rfl, hr1, hb1⟩
  go_wp2_with fail
  refine (H2.out _).mono ?_
  rintro e w2 ⟨B, d, rfl, hr2, hb2⟩
  have hr1' := hr1.below hb2
  have HB := Lib.hid (hb1.trans (hb2.mono hb1.size))
  clear hb1 hb2 hr1
  go_wp2_with fail
  refine (agree_any A B c d a b w2 hr1' hr2 (by omega) HW1.out HW2.out).mono ?_
  rintro e w' ⟨rfl, rfl⟩
  go_wp2_with fail
  go_ret
  exact ⟨ret_bool HR.out.symm, HB.out⟩
theorem hasP (s p : ByteArray) (w : World) (hs : s.size ≤ 1048576) (hp : p.size ≤ 1048576) : Calls Tryz.prog 80 #[.string s, .string p] w fun e w' => e = .returned (.bool (preB p.data.toList s.data.toList)) ∧ w' = w :=
  (str_HasPrefix s p w hs hp).mono fun _ _ h => ⟨h.1, h.2.symm⟩
theorem awake5 (w : World) :
    Calls Tryz.prog 7 #[] w fun e w' => e = .returned (.bool true) ∧ Below w.heap.size w w' := by
  have h1 : agr (⟨#[74, 46, 32, 68, 111, 101]⟩ : ByteArray).data.toList (⟨#[106, 97, 110, 101, 32, 100, 111, 101]⟩ : ByteArray).data.toList = true := by decide +kernel
  have h2 : agr (⟨#[]⟩ : ByteArray).data.toList (⟨#[]⟩ : ByteArray).data.toList = false := by decide +kernel
  have H1 := Lib.hid (Agree_any ⟨#[74, 46, 32, 68, 111, 101]⟩ ⟨#[106, 97, 110, 101, 32, 100, 111, 101]⟩ w (by decide) (by decide))
  have H2 := Lib.hid (fun W => Agree_any ⟨#[]⟩ ⟨#[]⟩ W (by decide) (by decide))
  rw [h1] at H1
  rw [h2] at H2
  clear h1 h2
  go_enter Tryz.func7, Tryz.ntmps7
  go_wp2_with fail
  refine H1.out.mono ?_
  rintro e w1 ⟨rfl, hb1⟩
  have HB1 := Lib.hid hb1
  clear hb1
  go_wp2_with fail
  refine (H2.out _).mono ?_
  rintro e w2 ⟨rfl, hb2⟩
  have HB2 := Lib.hid (HB1.out.trans (hb2.mono HB1.out.size))
  clear hb2
  go_wp2_with fail
  go_ret
  exact ⟨rfl, HB2.out⟩
end Go.Proofs.YtnlnaglaipjlfaaGreatDoor
