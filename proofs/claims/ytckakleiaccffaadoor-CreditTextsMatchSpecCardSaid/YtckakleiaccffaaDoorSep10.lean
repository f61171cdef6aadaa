/- Generated (gen/sep.py): strings.Index, Cut at the byte 10. -/
import Derived.Test.YtckakleiaccffaaDoorSplit
import Derived.Test.YtckakleiaccffaaDoorRdP
import Derived.Test.YtckakleiaccffaaDoorSRes
namespace Go.Proofs.YtckakleiaccffaaDoor
open Go.RowKit Go.Dw

set_option maxHeartbeats 1000000 in
theorem lite_Index10 (s : ByteArray) (w : World) :
    Calls Tryd.prog 41 #[.string s, .string ⟨#[10]⟩] w fun e w' => e = .returned (.int .i64 (Lib.indexByte s.data.toList 10)) ∧ w = w' := by
  have ht : s.toList = s.data.toList := ByteArray.toList_eq s
  by_cases he : s.data.toList = [10]
  · have hb : ([10] == s.toList) = true := by rw [ht, he]; rfl
    have HE := Lib.hid he
    clear he ht
    go_enter Tryd.func41, Tryd.ntmps41
    go_wp2_with fail
    go_ret
    exact ⟨ret_int (by rw [HE.out]; rfl), rfl⟩
  · have hb : ([10] == s.toList) = false := by rw [ht, beq_eq_false_iff_ne]; exact fun h => he h.symm
    clear he ht
    go_enter Tryd.func41, Tryd.ntmps41
    go_wp2_with fail
    refine (lite_IndexByte s 10 _).mono ?_
    rintro e w' ⟨rfl, rfl⟩
    go_wp2_with fail
    go_ret
    exact ⟨rfl, rfl⟩
/-- what Cut says -/
def cutV10 (s : ByteArray) : Value := if s.data.toList.count 10 = 0 then .tuple #[.string s, .string ⟨#[]⟩, .bool false]
  else .tuple #[.string (s.extract 0 (Lib.indexByte s.data.toList 10).toNat), .string (s.extract ((Lib.indexByte s.data.toList 10).toNat + 1) s.size), .bool true]
set_option maxHeartbeats 1000000 in
theorem lite_Cut10 (s : ByteArray) (w : World) (hs : s.size ≤ 1048576) :
    Calls Tryd.prog 28 #[.string s, .string ⟨#[10]⟩] w fun e w' => e = .returned (cutV10 s) ∧ ∃ n, w' = w.drewN n := by
  have HIX := Lib.hid (lite_Index10 s w)
  by_cases h0 : s.data.toList.count 10 = 0
  · have HR : Hid (cutV10 s = .tuple #[.string s, .string ⟨#[]⟩, .bool false]) := by show _ = _; unfold cutV10; rw [if_pos h0]
    have h1 := cut_none h0
    rw [h1] at HIX
    clear h0 h1
    go_enter Tryd.func28, Tryd.ntmps28
    go_wp2_with fail
    refine HIX.out.mono ?_
    rintro e w' ⟨rfl, rfl⟩
    go_wp2_with fail
    go_ret3
    exact ⟨by rw [HR.out]; rfl, 0, rfl⟩
  · obtain ⟨m, h1, h2⟩ := cut_at (z := 10) (t := s.data.toList) (by omega)
    have HR : Hid (cutV10 s = .tuple #[.string (s.extract 0 m), .string (s.extract (m + 1) s.size), .bool true]) := by show _ = _; unfold cutV10; rw [if_neg h0, h1]; rfl
    rw [h1] at HIX
    rw [size_list] at h2
    have hm : (0 : Int) ≤ (m : Int) := by omega
    have hd : decide ((0 : Int) ≤ (m : Int)) = true := by simp
    have hw : IntKind.i64.wrap ((m : Int) + 1) = (m : Int) + 1 := IntWalk.i64_in _ (by omega)
    have ht : ((m : Int) + 1).toNat = m + 1 := by omega
    clear h0 h1
    go_enter Tryd.func28, Tryd.ntmps28
    go_wp2_with fail
    refine HIX.out.mono ?_
    rintro e w' ⟨rfl, rfl⟩
    go_wp2_with fail
    go_quiet (fail)
    go_wp2
    go_ret3
    exact ⟨by rw [HR.out]; rfl, _, rfl⟩
theorem str_Cut10 (s : ByteArray) (w : World) (hs : s.size ≤ 1048576) :
    Calls Tryd.prog 16 #[.string s, .string ⟨#[10]⟩] w fun e w' => e = .returned (cutV10 s) ∧ ∃ n, w' = w.drewN n := by
  have HC := Lib.hid (lite_Cut10 s w hs)
  have HF : Hid (∃ a b c, cutV10 s = .tuple #[.string a, .string b, .bool c]) := by
    show ∃ a b c, _
    unfold cutV10
    split
    · exact ⟨_, _, _, rfl⟩
    · exact ⟨_, _, _, rfl⟩
  obtain ⟨a, b, c, hv⟩ := HF.out
  rw [hv] at HC
  have HV := Lib.hid hv
  clear hv
  go_enter Tryd.func16, Tryd.ntmps16
  go_wp2_with fail
  refine HC.out.mono ?_
  rintro e w' ⟨rfl, n, rfl⟩
  go_wp2_with fail
  go_ret3
  exact ⟨by rw [HV.out]; rfl, n, rfl⟩
end Go.Proofs.YtckakleiaccffaaDoor
