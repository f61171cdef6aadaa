/- Contracts of strings.Index, Count at a blank; of HasPrefix, HasSuffix, TrimSuffix. -/
import Derived.Test.YtnlnaglaipjlfaaGreatDoorAgrP
import Derived.Test.YtnlnaglaipjlfaaGreatDoorProg
import Derived.Lib.Walk
import Derived.Test.YtnlnaglaipjlfaaGreatDoorTab
namespace Go.Proofs.YtnlnaglaipjlfaaGreatDoor
open Go.RowKit Go.Dw

set_option maxRecDepth 100000 in
set_option maxHeartbeats 400000 in
theorem lite_IndexByte (s : ByteArray) (c : Int) (w : World) :
    Calls Tryz.prog 121 #[.string s, .int .u8 c] w fun e w' => e = .returned (.int .i64 (Lib.indexByte s.data.toList c.toNat.toUInt8)) ∧ w = w' := by
  go_enter Tryz.func121, Tryz.ntmps121
  go_wp2
  rw [run_callFunc_extern Tryz.func127 (by kernel_rfl) (by kernel_rfl) (by kernel_rfl) (e := Extern.BytealgIndexByte.indexByte) (by kernel_rfl), Lib.run_indexByteString]
  simp only [Result.andThen]
  rw [Oper.upon_value]
  go_wp2
  go_ret
  exact ⟨rfl, rfl⟩
set_option maxHeartbeats 1000000 in
theorem lite_Index (s : ByteArray) (w : World) :
    Calls Tryz.prog 115 #[.string s, .string ⟨#[32]⟩] w fun e w' => e = .returned (.int .i64 (Lib.indexByte s.data.toList 32)) ∧ w = w' := by
  have ht : s.toList = s.data.toList := ByteArray.toList_eq s
  by_cases he : s.data.toList = [32]
  · have hb : ([32] == s.toList) = true := by rw [ht, he]; rfl
    have HE := Lib.hid he
    clear he ht
    go_enter Tryz.func115, Tryz.ntmps115
    go_wp2_with fail
    go_ret
    exact ⟨ret_int (by rw [HE.out]; rfl), rfl⟩
  · have hb : ([32] == s.toList) = false := by rw [ht, beq_eq_false_iff_ne]; exact fun h => he h.symm
    clear he ht
    go_enter Tryz.func115, Tryz.ntmps115
    go_wp2_with fail
    refine (lite_IndexByte s 32 _).mono ?_
    rintro e w' ⟨rfl, rfl⟩
    go_wp2_with fail
    go_ret
    exact ⟨rfl, rfl⟩
theorem str_Index (s : ByteArray) (w : World) :
    Calls Tryz.prog 105 #[.string s, .string ⟨#[32]⟩] w fun e w' => e = .returned (.int .i64 (Lib.indexByte s.data.toList 32)) ∧ w = w' := by
  go_enter Tryz.func105, Tryz.ntmps105
  go_wp2_with fail
  refine (lite_Index s _).mono ?_
  rintro e w' ⟨rfl, rfl⟩
  go_wp2_with fail
  go_ret
  exact ⟨rfl, rfl⟩
set_option maxRecDepth 100000 in
set_option maxHeartbeats 1000000 in
theorem str_Count (s : ByteArray) (w : World) :
    Calls Tryz.prog 109 #[.string s, .string ⟨#[32]⟩] w fun e w' => e = .returned (.int .i64 (s.data.toList.count 32 : Nat)) ∧ w = w' := by
  go_enter Tryz.func109, Tryz.ntmps109
  go_wp2
  rw [run_callFunc_extern Tryz.func117 (by kernel_rfl) (by kernel_rfl) (by kernel_rfl) (e := Extern.BytealgCount.count) (by kernel_rfl), Lib.run_countString]
  simp only [Result.andThen]
  rw [Oper.upon_value]
  go_wp2
  go_ret
  exact ⟨rfl, rfl⟩
theorem ext_list (s : ByteArray) (a b : Nat) : (s.extract a b).toList = (s.data.toList.take b).drop a := by
  rw [ByteArray.toList_eq, ByteArray.data_extract, Array.toList_extract, List.extract_eq_take_drop]
  rw [List.drop_take]
def dotB (l : List UInt8) : Bool := decide (l.getLast? = some 46)
theorem size_list (s : ByteArray) : s.data.toList.length = s.size := by rw [Array.length_toList]; rfl
theorem last_ext (s : ByteArray) (h : 1 ≤ s.size) : ((s.extract (s.size - 1) s.size).toList == [46]) = dotB s.data.toList := by
  have e := size_list s
  have hl : s.size - 1 < s.data.toList.length := by omega
  rw [ext_list, List.take_of_length_le (by omega), List.drop_eq_getElem_cons hl, List.drop_of_length_le (by omega)]
  unfold dotB
  rw [List.getLast?_eq_getElem?, e, List.getElem?_eq_getElem hl]
  simp
  rfl
set_option maxHeartbeats 1000000 in
theorem lite_HasSuffix (s : ByteArray) (w : World) (hs : s.size ≤ 1048576) :
    Calls Tryz.prog 110 #[.string s, .string ⟨#[46]⟩] w fun e w' => e = .returned (.bool (dotB s.data.toList)) ∧ w = w' := by
  by_cases h0 : s.size = 0
  · have hd : decide ((1 : Int) ≤ (s.size : Int)) = false := by simp [h0]
    have HN : Hid (dotB s.data.toList = false) := by
      show _ = _
      have : s.data.toList = [] := List.eq_nil_of_length_eq_zero (by rw [size_list]; exact h0)
      rw [this]; rfl
    clear h0
    go_enter Tryz.func110, Tryz.ntmps110
    go_wp2_with fail
    go_ret
    exact ⟨ret_bool HN.out.symm, rfl⟩
  · have hd : decide ((1 : Int) ≤ (s.size : Int)) = true := by simp; omega
    have hp : 1 ≤ s.size := by omega
    have HL := Lib.hid (last_ext s hp)
    clear h0
    go_enter Tryz.func110, Tryz.ntmps110
    go_wp2_with fail
    go_ret
    exact ⟨ret_bool HL.out, rfl⟩
set_option maxHeartbeats 1000000 in
/-- TrimSuffix of a point: some string that reads so -/
theorem lite_TrimSuffix (s : ByteArray) (w : World) (hs : s.size ≤ 1048576) :
    Calls Tryz.prog 97 #[.string s, .string ⟨#[46]⟩] w fun e w' => e = .returned (.string ⟨(trimDot s.data.toList).toArray⟩) ∧ w = w' := by
  have HS := Lib.hid (lite_HasSuffix s w hs)
  obtain ⟨b, hb⟩ : ∃ b, dotB s.data.toList = b := ⟨_, rfl⟩
  rw [hb] at HS
  cases b with
  | true =>
    have hl : s.data.toList.getLast? = some 46 := by simpa [dotB] using hb
    have hp : 1 ≤ s.size := by
      rw [← size_list s]
      cases h : s.data.toList with
      | nil => rw [h] at hl; cases hl
      | cons => simp
    have HR : Hid (s.extract 0 (s.size - 1) = ⟨(trimDot s.data.toList).toArray⟩) := by
      show _ = _
      unfold trimDot
      rw [if_pos hl, List.dropLast_eq_take, size_list]
      apply ByteArray.ext
      apply Array.ext'
      rw [List.toList_toArray, ← ByteArray.toList_eq, ext_list]
      simp
    clear hb hl
    go_enter Tryz.func97, Tryz.ntmps97
    go_wp2_with fail
    refine HS.out.mono ?_
    rintro e w' ⟨rfl, rfl⟩
    go_wp2_with fail
    go_ret
    refine ⟨?_, rfl⟩
    rw [← HR.out]; rfl
  | false =>
    have hl : ¬ s.data.toList.getLast? = some 46 := by simpa [dotB] using hb
    have HR : Hid (s = ⟨(trimDot s.data.toList).toArray⟩) := by
      show _ = _
      unfold trimDot
      rw [if_neg hl]
    clear hb hl
    go_enter Tryz.func97, Tryz.ntmps97
    go_wp2_with fail
    refine HS.out.mono ?_
    rintro e w' ⟨rfl, rfl⟩
    go_wp2_with fail
    go_ret
    refine ⟨?_, rfl⟩
    rw [← HR.out]; rfl
theorem str_TrimSuffix (s : ByteArray) (w : World) (hs : s.size ≤ 1048576) :
    Calls Tryz.prog 82 #[.string s, .string ⟨#[46]⟩] w fun e w' => e = .returned (.string ⟨(trimDot s.data.toList).toArray⟩) ∧ w = w' := by
  go_enter Tryz.func82, Tryz.ntmps82
  go_wp2_with fail
  refine (lite_TrimSuffix s _ hs).mono ?_
  rintro e w' ⟨rfl, rfl⟩
  go_wp2_with fail
  go_ret
  exact ⟨rfl, rfl⟩
def preB (p s : List UInt8) : Bool := p.isPrefixOf s
theorem pre_iff (x y : List UInt8) : ((y.take x.length) == x) = preB x y := by
  unfold preB
  rw [Bool.eq_iff_iff, beq_iff_eq, List.isPrefixOf_iff_prefix]
  constructor
  · intro h; rw [← h]; exact List.take_prefix _ _
  · intro ⟨t, ht⟩; rw [← ht]; simp
set_option maxHeartbeats 1000000 in
theorem lite_HasPrefix (s p : ByteArray) (w : World) (_hs : s.size ≤ 1048576) (_hp : p.size ≤ 1048576) :
    Calls Tryz.prog 95 #[.string s, .string p] w fun e w' => e = .returned (.bool (preB p.data.toList s.data.toList)) ∧ w = w' := by
  by_cases h0 : p.size ≤ s.size
  · have hd : decide (p.size ≤ s.size) = true := by simp; omega
    have HL : Hid (((s.extract 0 p.size).toList == p.toList) = preB p.data.toList s.data.toList) := by
      show _ = _
      rw [ext_list, ByteArray.toList_eq, List.drop_zero, ← size_list p]
      exact pre_iff _ _
    go_enter Tryz.func95, Tryz.ntmps95
    go_wp2_with fail
    go_ret
    exact ⟨ret_bool HL.out, rfl⟩
  · have hd : decide (p.size ≤ s.size) = false := by simp; omega
    have HN : Hid (preB p.data.toList s.data.toList = false) := by
      show _ = _
      unfold preB
      rw [Bool.eq_false_iff]
      intro hh
      have := (List.isPrefixOf_iff_prefix.1 hh).length_le
      rw [size_list, size_list] at this
      omega
    clear h0
    go_enter Tryz.func95, Tryz.ntmps95
    go_wp2_with fail
    go_ret
    exact ⟨ret_bool HN.out.symm, rfl⟩
theorem str_HasPrefix (s p : ByteArray) (w : World) (hs : s.size ≤ 1048576) (hp : p.size ≤ 1048576) :
    Calls Tryz.prog 80 #[.string s, .string p] w fun e w' => e = .returned (.bool (preB p.data.toList s.data.toList)) ∧ w = w' := by
  go_enter Tryz.func80, Tryz.ntmps80
  go_wp2_with fail
  refine (lite_HasPrefix s p _ hs hp).mono ?_
  rintro e w' ⟨rfl, rfl⟩
  go_wp2_with fail
  go_ret
  exact ⟨rfl, rfl⟩
end Go.Proofs.YtnlnaglaipjlfaaGreatDoor
