/- Generated (gen/sep.py): strings.Index, Count, Split at the byte 124. -/
import Derived.Test.YtckakleiaccffaaDoorSplit
import Derived.Test.YtckakleiaccffaaDoorRdP
import Derived.Test.YtckakleiaccffaaDoorSRes
namespace Go.Proofs.YtckakleiaccffaaDoor
open Go.RowKit Go.Dw

set_option maxHeartbeats 1000000 in
theorem lite_Index124 (s : ByteArray) (w : World) :
    Calls Tryd.prog 41 #[.string s, .string ⟨#[124]⟩] w fun e w' => e = .returned (.int .i64 (Lib.indexByte s.data.toList 124)) ∧ w = w' := by
  have ht : s.toList = s.data.toList := ByteArray.toList_eq s
  by_cases he : s.data.toList = [124]
  · have hb : ([124] == s.toList) = true := by rw [ht, he]; rfl
    have HE := Lib.hid he
    clear he ht
    go_enter Tryd.func41, Tryd.ntmps41
    go_wp2_with fail
    go_ret
    exact ⟨ret_int (by rw [HE.out]; rfl), rfl⟩
  · have hb : ([124] == s.toList) = false := by rw [ht, beq_eq_false_iff_ne]; exact fun h => he h.symm
    clear he ht
    go_enter Tryd.func41, Tryd.ntmps41
    go_wp2_with fail
    refine (lite_IndexByte s 124 _).mono ?_
    rintro e w' ⟨rfl, rfl⟩
    go_wp2_with fail
    go_ret
    exact ⟨rfl, rfl⟩
theorem str_Index124 (s : ByteArray) (w : World) :
    Calls Tryd.prog 52 #[.string s, .string ⟨#[124]⟩] w fun e w' => e = .returned (.int .i64 (Lib.indexByte s.data.toList 124)) ∧ w = w' := by
  go_enter Tryd.func52, Tryd.ntmps52
  go_wp2_with fail
  refine (lite_Index124 s _).mono ?_
  rintro e w' ⟨rfl, rfl⟩
  go_wp2_with fail
  go_ret
  exact ⟨rfl, rfl⟩
set_option maxRecDepth 100000 in
set_option maxHeartbeats 1000000 in
theorem str_Count124 (s : ByteArray) (w : World) :
    Calls Tryd.prog 65 #[.string s, .string ⟨#[124]⟩] w fun e w' => e = .returned (.int .i64 (s.data.toList.count 124 : Nat)) ∧ w = w' := by
  go_enter Tryd.func65, Tryd.ntmps65
  go_wp2
  rw [run_callFunc_extern Tryd.func84 (by kernel_rfl) (by kernel_rfl) (by kernel_rfl) (e := Extern.BytealgCount.count) (by kernel_rfl), Lib.run_countString]
  simp only [Result.andThen]
  rw [Oper.upon_value]
  go_wp2
  go_ret
  exact ⟨rfl, rfl⟩
set_option maxRecDepth 100000 in
set_option maxHeartbeats 1000000 in
theorem gsplit_any124 (s : ByteArray) (w : World) (hs : s.size ≤ 1048576) :
    Calls Tryd.prog 42 #[.string s, .string ⟨#[124]⟩, .int .i64 0, .int .i64 (-1)] w (SResN w (splitB 124 s.data.toList)) := by
  obtain ⟨i0, hi0, hz0, hz1, hz2⟩ := info_parts info_str
  have hcl : s.data.toList.count 124 ≤ s.size := by rw [← size_list]; exact List.count_le_length
  have HLN := Lib.hid (split_len 124 s.data.toList)
  obtain ⟨N, hN⟩ : ∃ N, s.data.toList.count 124 = N := ⟨_, rfl⟩
  have HCT := Lib.hid (str_Count124 s)
  rw [hN] at HCT hcl HLN
  have hmk := run_mk (P := Tryd.prog) 36 9 i0 _ 16 Tryd.underlying36 hi0 hz0 hz1 hz2 rfl ((N : Int) + 1) (N + 1) (by omega) (by omega) (by omega)
  have HIX := Lib.hid (fun (t : ByteArray) (W : World) => str_Index124 t W)
  have HN := Lib.hid hN
  have hmin : min (N : Int) (s.size : Int) = (N : Int) := by omega
  clear hN hi0 hz0 hz1 hz2
  go_enter Tryd.func42, Tryd.ntmps42
  go_wp2_with fail
  refine (HCT.out _).mono ?_
  rintro e w' ⟨rfl, rfl⟩
  go_wp2_with fail
  have HB0 : Hid (Below w.heap.size w (w.alloc (.cells (zs (N + 1) (.string ByteArray.empty)).toArray 9))) := (Below.refl _ _).alloc (Nat.le_refl _) _
  have HK0 : Hid (Blk (w.alloc (.cells (zs (N + 1) (.string ByteArray.empty)).toArray 9)) w.heap.size 9 (zs (N + 1) (.string ByteArray.empty))) := Blk.new w _ _
  clear hmk
  generalize w.alloc (.cells (zs (N + 1) (.string ByteArray.empty)).toArray 9) = w1 at *
  clear hmin
  go_loopw [0, 10] (fun sv0 iv wr => ∃ (t : ByteArray) (done : List (List UInt8)) (k : Nat), sv0 = .string t ∧ iv = .int .i64 (k : Int) ∧ done.length = k ∧ Hid (splitB 124 s.data.toList = done ++ splitB 124 t.data.toList) ∧ Hid (t.data.toList.count 124 + k = N) ∧ k ≤ N ∧ t.size ≤ s.size ∧ Below w.heap.size w wr ∧ Blk wr w.heap.size 9 (sc done ++ zs (N + 1 - k) (.string ByteArray.empty))) (fun _ iv _ => N - (intOf iv).toNat)
  case atStart => exact ⟨s, [], 0, rfl, rfl, rfl, rfl, by show _ = _; rw [HN.out]; rfl, Nat.zero_le _, Nat.le_refl _, HB0.out, HK0.out⟩
  case round =>
    obtain ⟨t, done, k, rfl, rfl, hdl, HSP, HCN, hkN, hts, hB, hK⟩ := hrel
    have hdl2 : (sc done).length = k := by rw [sc_len]; exact hdl
    have hkz := hK.lt
    have hcell : wr.cell? ⟨w.heap.size, k, none⟩ = some (.string ByteArray.empty) := by
      rw [hK.cell k, List.getElem?_append_right (by omega), hdl2, Nat.sub_self, zs_at _ _ _ (by omega)]
    have hfz := hK.frozen k
    by_cases hkl : k < N
    · obtain ⟨m, h1, h2, h3, h4⟩ := split_at 124 t.data.toList (by have := HCN.out; omega)
      rw [size_list] at h2
      have HIX2 := Lib.hid (HIX.out t)
      rw [h1] at HIX2
      have HNEW : Hid (splitB 124 s.data.toList = (done ++ [t.data.toList.take m]) ++ splitB 124 (t.extract (m + 1) t.size).data.toList) := by
        show _ = _
        rw [HSP.out, h3, ext_end]; simp
      have HCN2 : Hid ((t.extract (m + 1) t.size).data.toList.count 124 + (k + 1) = N) := by
        show _ = _
        rw [ext_end]; have := HCN.out; omega
      have hsz2 : (t.extract (m + 1) t.size).size ≤ s.size := by
        rw [← size_list, ext_end, List.length_drop, size_list]; omega
      have HBK : Hid (Blk (wr.setCell ⟨w.heap.size, k, none⟩ (.string (t.extract 0 m))) w.heap.size 9 (sc (done ++ [t.data.toList.take m]) ++ zs (N + 1 - (k + 1)) (.string ByteArray.empty))) := by
        have h5 := hK.set_ k (.string (t.extract 0 m))
        have h6 : (sc done ++ zs (N + 1 - k) (.string ByteArray.empty)).set k (.string (t.extract 0 m)) = sc (done ++ [t.data.toList.take m]) ++ zs (N + 1 - (k + 1)) (.string ByteArray.empty) := by
          have := zs_set (d := sc done) (z := .string ByteArray.empty) (u := .string (t.extract 0 m)) (n := N + 1 - k) (by omega)
          rw [hdl2] at this
          rw [this, sc_app, sv_ext, List.drop_zero, show N + 1 - k - 1 = N + 1 - (k + 1) by omega]
          rfl
        rw [h6] at h5
        exact h5
      have HBL : Hid (Below w.heap.size w (wr.setCell ⟨w.heap.size, k, none⟩ (.string (t.extract 0 m)))) := Below.setCell (p := ⟨w.heap.size, k, none⟩) hB (Nat.le_refl _) _
      have HDL := Lib.hid hdl
      have hm2 : ¬ ((m : Int) < 0) := by omega
      clear h1 h3 h4 hK hB hdl2 hdl
      go_wp2_with fail
      refine (HIX2.out _).mono ?_
      rintro e w' ⟨rfl, rfl⟩
      go_wp2_with fail
      go_roundw
      case rel => exact ⟨_, done ++ [t.data.toList.take m], k + 1, rfl, by go_num, by simp [HDL.out], HNEW, HCN2, by omega, hsz2, HBL.out, HBK.out⟩
      case measure => simp [intOf]; omega
    · have hkN2 : k = N := by omega
      have HLAST : Hid (splitB 124 s.data.toList = done ++ [t.data.toList]) := by
        show _ = _
        rw [HSP.out, split_none 124 _ (by have := HCN.out; omega)]
      have HBK : Hid (Blk (wr.setCell ⟨w.heap.size, k, none⟩ (.string t)) w.heap.size 9 (sc (done ++ [t.data.toList]))) := by
        have h5 := hK.set_ k (.string t)
        have h6 : (sc done ++ zs (N + 1 - k) (.string ByteArray.empty)).set k (.string t) = sc (done ++ [t.data.toList]) := by
          have := zs_set (d := sc done) (z := .string ByteArray.empty) (u := .string t) (n := N + 1 - k) (by omega)
          rw [hdl2] at this
          rw [this, sc_app, show N + 1 - k - 1 = 0 by omega]
          simp [sc, zs]; rfl
        rw [h6] at h5
        exact h5
      have HBL : Hid (Below w.heap.size w (wr.setCell ⟨w.heap.size, k, none⟩ (.string t))) := Below.setCell (p := ⟨w.heap.size, k, none⟩) hB (Nat.le_refl _) _
      have HDL := Lib.hid hdl
      have hd : ¬ k < N := hkl
      clear hK hB hdl2 hdl hkN2
      go_wp2_with fail
      go_ret
      refine ⟨w.heap.size, N + 1, Nat.le_refl _, ?_, ?_, HBL.out⟩
      · rw [HLAST.out, List.length_append, HDL.out]; rfl
      · rw [HLAST.out]; exact (HBK.out.rds (S := fun _ => True) trivial).rd
theorem split_any124 (s : ByteArray) (w : World) (hs : s.size ≤ 1048576) :
    Calls Tryd.prog 29 #[.string s, .string ⟨#[124]⟩] w (SResN w (splitB 124 s.data.toList)) := by
  have HG := Lib.hid (gsplit_any124 s w hs)
  go_enter Tryd.func29, Tryd.ntmps29
  go_wp2_with fail
  refine HG.out.mono ?_
  rintro e w1 ⟨b, c, hle, rfl, hr, hb⟩
  go_wp2_with fail
  go_ret
  exact ⟨b, c, hle, rfl, hr, hb⟩
end Go.Proofs.YtckakleiaccffaaDoor
