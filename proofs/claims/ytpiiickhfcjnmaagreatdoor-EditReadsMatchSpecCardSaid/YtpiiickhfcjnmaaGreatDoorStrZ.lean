/- Several texts laid into one: Contracts of strings.Index, Count at a blank; The contract of strings.Split at a blank; What Split says: a new row; Generated (gen/sep.py): strings.Index, Cut at the byte 58; Generated (gen/sep.py): strings.Index, Cut at the byte 47; Generated (gen/sep.py): strings.Index, Count, Split at the byte 32; Generated (gen/sep.py): strings.Index, Cut at the byte 10; -/
import Derived.Test.YtpiiickhfcjnmaaGreatDoorPlnF
import Derived.Test.YtpiiickhfcjnmaaGreatDoorProg
import Derived.Lib.Walk
import Derived.Test.YtpiiickhfcjnmaaGreatDoorNumB
import Derived.Laws.OwnMore
/- Contracts of strings.Index, Count at a blank. -/
namespace Go.Proofs.YtpiiickhfcjnmaaGreatDoor
open Go.RowKit Go.Dw

set_option maxRecDepth 100000 in
set_option maxHeartbeats 400000 in
theorem lite_IndexByte (s : ByteArray) (c : Int) (w : World) :
    Calls Tryz.prog 176 #[.string s, .int .u8 c] w fun e w' => e = .returned (.int .i64 (Lib.indexByte s.data.toList c.toNat.toUInt8)) ∧ w = w' := by
  go_enter Tryz.func176, Tryz.ntmps176
  go_wp2
  rw [run_callFunc_extern Tryz.func212 (by kernel_rfl) (by kernel_rfl) (by kernel_rfl) (e := Extern.BytealgIndexByte.indexByte) (by kernel_rfl), Lib.run_indexByteString]
  simp only [Result.andThen]
  rw [Oper.upon_value]
  go_wp2
  go_ret
  exact ⟨rfl, rfl⟩
set_option maxHeartbeats 1000000 in
theorem lite_Index (s : ByteArray) (w : World) :
    Calls Tryz.prog 124 #[.string s, .string ⟨#[32]⟩] w fun e w' => e = .returned (.int .i64 (Lib.indexByte s.data.toList 32)) ∧ w = w' := by
  have ht : s.toList = s.data.toList := ByteArray.toList_eq s
  by_cases he : s.data.toList = [32]
  · have hb : ([32] == s.toList) = true := by rw [ht, he]; rfl
    have HE := Lib.hid he
    clear he ht
    go_enter Tryz.func124, Tryz.ntmps124
    go_wp2_with fail
    go_ret
    exact ⟨ret_int (by rw [HE.out]; rfl), rfl⟩
  · have hb : ([32] == s.toList) = false := by rw [ht, beq_eq_false_iff_ne]; exact fun h => he h.symm
    clear he ht
    go_enter Tryz.func124, Tryz.ntmps124
    go_wp2_with fail
    refine (lite_IndexByte s 32 _).mono ?_
    rintro e w' ⟨rfl, rfl⟩
    go_wp2_with fail
    go_ret
    exact ⟨rfl, rfl⟩
theorem str_Index (s : ByteArray) (w : World) :
    Calls Tryz.prog 127 #[.string s, .string ⟨#[32]⟩] w fun e w' => e = .returned (.int .i64 (Lib.indexByte s.data.toList 32)) ∧ w = w' := by
  go_enter Tryz.func127, Tryz.ntmps127
  go_wp2_with fail
  refine (lite_Index s _).mono ?_
  rintro e w' ⟨rfl, rfl⟩
  go_wp2_with fail
  go_ret
  exact ⟨rfl, rfl⟩
set_option maxRecDepth 100000 in
set_option maxHeartbeats 1000000 in
theorem str_Count (s : ByteArray) (w : World) :
    Calls Tryz.prog 126 #[.string s, .string ⟨#[32]⟩] w fun e w' => e = .returned (.int .i64 (s.data.toList.count 32 : Nat)) ∧ w = w' := by
  go_enter Tryz.func126, Tryz.ntmps126
  go_wp2
  rw [run_callFunc_extern Tryz.func182 (by kernel_rfl) (by kernel_rfl) (by kernel_rfl) (e := Extern.BytealgCount.count) (by kernel_rfl), Lib.run_countString]
  simp only [Result.andThen]
  rw [Oper.upon_value]
  go_wp2
  go_ret
  exact ⟨rfl, rfl⟩
theorem ext_list (s : ByteArray) (a b : Nat) : (s.extract a b).toList = (s.data.toList.take b).drop a := by
  rw [ByteArray.toList_eq, ByteArray.data_extract, Array.toList_extract, List.extract_eq_take_drop]
  rw [List.drop_take]
theorem size_list (s : ByteArray) : s.data.toList.length = s.size := by rw [Array.length_toList]; rfl
end Go.Proofs.YtpiiickhfcjnmaaGreatDoor
/- The contract of strings.Split at a blank. -/
namespace Go.Proofs.YtpiiickhfcjnmaaGreatDoor
open Go.RowKit Go.Dw

/-- a string as a value -/
def sv (l : List UInt8) : Value := .string ⟨l.toArray⟩
def sc (ls : List (List UInt8)) : List Value := ls.map sv
theorem sc_len (ls : List (List UInt8)) : (sc ls).length = ls.length := by simp [sc]
theorem sc_app (a b : List (List UInt8)) : sc (a ++ b) = sc a ++ sc b := by simp [sc]
theorem sc_at (ls : List (List UInt8)) (k : Nat) (h : k < ls.length) : (sc ls)[k]? = some (sv ls[k]) := by simp [sc, h]
theorem sv_of (s : ByteArray) : Value.string s = sv s.data.toList := rfl
theorem sv_ext (s : ByteArray) (a b : Nat) : Value.string (s.extract a b) = sv ((s.data.toList.take b).drop a) := by
  unfold sv
  congr 1
  apply ByteArray.ext
  apply Array.ext'
  rw [List.toList_toArray, ← ByteArray.toList_eq, ext_list]
theorem ext_end (s : ByteArray) (a : Nat) : (s.extract a s.size).data.toList = s.data.toList.drop a := by
  rw [← ByteArray.toList_eq, ext_list, List.take_of_length_le (by rw [size_list]; exact Nat.le_refl _)]
def SRes (w : World) (ls : List (List UInt8)) (e : Ending) (w' : World) : Prop := ∃ A c, e = .returned (.slice A ls.length c) ∧ Rd w' A (sc ls) ∧ Below w.heap.size w w'
theorem info_str : (Tryz.prog.info? 9).map (fun i => (i.zero, i.size, i.bytes)) = some (some (.string ByteArray.empty), 1, 16) := by kernel_rfl
theorem zs_set {d : List Value} {n : Nat} {z u : Value} (hn : 0 < n) : (d ++ zs n z).set d.length u = (d ++ [u]) ++ zs (n - 1) z := by
  obtain ⟨m, rfl⟩ : ∃ m, n = m + 1 := ⟨n - 1, by omega⟩
  rw [List.set_append_right _ _ (Nat.le_refl _), Nat.sub_self]
  simp [zs, List.replicate_succ]

set_option maxRecDepth 100000 in
set_option maxHeartbeats 1000000 in
theorem gsplit_any (s : ByteArray) (w : World) (hs : s.size ≤ 1048576) :
    Calls Tryz.prog 71 #[.string s, .string ⟨#[32]⟩, .int .i64 0, .int .i64 (-1)] w (SRes w (splitB 32 s.data.toList)) := by
  obtain ⟨i0, hi0, hz0, hz1, hz2⟩ := info_parts info_str
  have hcl : s.data.toList.count 32 ≤ s.size := by rw [← size_list]; exact List.count_le_length
  have HLN := Lib.hid (split_len 32 s.data.toList)
  obtain ⟨N, hN⟩ : ∃ N, s.data.toList.count 32 = N := ⟨_, rfl⟩
  have HCT := Lib.hid (str_Count s)
  rw [hN] at HCT hcl HLN
  have hmk := run_mk (P := Tryz.prog) 61 9 i0 _ 16 Tryz.underlying61 hi0 hz0 hz1 hz2 rfl ((N : Int) + 1) (N + 1) (by omega) (by omega) (by omega)
  have HIX := Lib.hid (fun (t : ByteArray) (W : World) => str_Index t W)
  have HN := Lib.hid hN
  have hmin : min (N : Int) (s.size : Int) = (N : Int) := by omega
  clear hN hi0 hz0 hz1 hz2
  go_enter Tryz.func71, Tryz.ntmps71
  go_wp2_with fail
  refine (HCT.out _).mono ?_
  rintro e w' ⟨rfl, rfl⟩
  go_wp2_with fail
  have HB0 : Hid (Below w.heap.size w (w.alloc (.cells (zs (N + 1) (.string ByteArray.empty)).toArray 9))) := (Below.refl _ _).alloc (Nat.le_refl _) _
  have HK0 : Hid (Blk (w.alloc (.cells (zs (N + 1) (.string ByteArray.empty)).toArray 9)) w.heap.size 9 (zs (N + 1) (.string ByteArray.empty))) := Blk.new w _ _
  clear hmk
  generalize w.alloc (.cells (zs (N + 1) (.string ByteArray.empty)).toArray 9) = w1 at *
  clear hmin
  go_loopw [0, 10] (fun sv0 iv wr => ∃ (t : ByteArray) (done : List (List UInt8)) (k : Nat), sv0 = .string t ∧ iv = .int .i64 (k : Int) ∧ done.length = k ∧ Hid (splitB 32 s.data.toList = done ++ splitB 32 t.data.toList) ∧ Hid (t.data.toList.count 32 + k = N) ∧ k ≤ N ∧ t.size ≤ s.size ∧ Below w.heap.size w wr ∧ Blk wr w.heap.size 9 (sc done ++ zs (N + 1 - k) (.string ByteArray.empty))) (fun _ iv _ => N - (intOf iv).toNat)
  case atStart => exact ⟨s, [], 0, rfl, rfl, rfl, rfl, by show _ = _; rw [HN.out]; rfl, Nat.zero_le _, Nat.le_refl _, HB0.out, HK0.out⟩
  case round =>
    obtain ⟨t, done, k, rfl, rfl, hdl, HSP, HCN, hkN, hts, hB, hK⟩ := hrel
    have hdl2 : (sc done).length = k := by rw [sc_len]; exact hdl
    have hkz := hK.lt
    have hcell : wr.cell? ⟨w.heap.size, k, none⟩ = some (.string ByteArray.empty) := by
      rw [hK.cell k, List.getElem?_append_right (by omega), hdl2, Nat.sub_self, zs_at _ _ _ (by omega)]
    have hfz := hK.frozen k
    by_cases hkl : k < N
    · obtain ⟨m, h1, h2, h3, h4⟩ := split_at 32 t.data.toList (by have := HCN.out; omega)
      rw [size_list] at h2
      have HIX2 := Lib.hid (HIX.out t)
      rw [h1] at HIX2
      have HNEW : Hid (splitB 32 s.data.toList = (done ++ [t.data.toList.take m]) ++ splitB 32 (t.extract (m + 1) t.size).data.toList) := by
        show _ = _
        rw [HSP.out, h3, ext_end]; simp
      have HCN2 : Hid ((t.extract (m + 1) t.size).data.toList.count 32 + (k + 1) = N) := by
        show _ = _
        rw [ext_end]; have := HCN.out; omega
      have hsz2 : (t.extract (m + 1) t.size).size ≤ s.size := by
        rw [← size_list, ext_end, List.length_drop, size_list]; omega
      have HBK : Hid (Blk (wr.setCell ⟨w.heap.size, k, none⟩ (.string (t.extract 0 m))) w.heap.size 9 (sc (done ++ [t.data.toList.take m]) ++ zs (N + 1 - (k + 1)) (.string ByteArray.empty))) := by
        have h5 := hK.set_ k (.string (t.extract 0 m))
        have h6 : (sc done ++ zs (N + 1 - k) (.string ByteArray.empty)).set k (.string (t.extract 0 m)) = sc (done ++ [t.data.toList.take m]) ++ zs (N + 1 - (k + 1)) (.string ByteArray.empty) := by
          have := zs_set (d := sc done) (z := .string ByteArray.empty) (u := .string (t.extract 0 m)) (n := N + 1 - k) (by omega)
          rw [hdl2] at this
          rw [this, sc_app, sv_ext, List.drop_zero, show N + 1 - k - 1 = N + 1 - (k + 1) by omega]
          rfl
        rw [h6] at h5
        exact h5
      have HBL : Hid (Below w.heap.size w (wr.setCell ⟨w.heap.size, k, none⟩ (.string (t.extract 0 m)))) := Below.setCell (p := ⟨w.heap.size, k, none⟩) hB (Nat.le_refl _) _
      have HDL := Lib.hid hdl
      have hm2 : ¬ ((m : Int) < 0) := by omega
      clear h1 h3 h4 hK hB hdl2 hdl
      go_wp2_with fail
      refine (HIX2.out _).mono ?_
      rintro e w' ⟨rfl, rfl⟩
      go_wp2_with fail
      go_roundw
      case rel => exact ⟨_, done ++ [t.data.toList.take m], k + 1, rfl, by go_num, by simp [HDL.out], HNEW, HCN2, by omega, hsz2, HBL.out, HBK.out⟩
      case measure => simp [intOf]; omega
    · have hkN2 : k = N := by omega
      have HLAST : Hid (splitB 32 s.data.toList = done ++ [t.data.toList]) := by
        show _ = _
        rw [HSP.out, split_none 32 _ (by have := HCN.out; omega)]
      have HBK : Hid (Blk (wr.setCell ⟨w.heap.size, k, none⟩ (.string t)) w.heap.size 9 (sc (done ++ [t.data.toList]))) := by
        have h5 := hK.set_ k (.string t)
        have h6 : (sc done ++ zs (N + 1 - k) (.string ByteArray.empty)).set k (.string t) = sc (done ++ [t.data.toList]) := by
          have := zs_set (d := sc done) (z := .string ByteArray.empty) (u := .string t) (n := N + 1 - k) (by omega)
          rw [hdl2] at this
          rw [this, sc_app, show N + 1 - k - 1 = 0 by omega]
          simp [sc, zs]; rfl
        rw [h6] at h5
        exact h5
      have HBL : Hid (Below w.heap.size w (wr.setCell ⟨w.heap.size, k, none⟩ (.string t))) := Below.setCell (p := ⟨w.heap.size, k, none⟩) hB (Nat.le_refl _) _
      have HDL := Lib.hid hdl
      have hd : ¬ k < N := hkl
      clear hK hB hdl2 hdl hkN2
      go_wp2_with fail
      go_ret
      refine ⟨some ⟨w.heap.size, 0, none⟩, N + 1, ?_, ?_, HBL.out⟩
      · rw [HLAST.out, List.length_append, HDL.out]; rfl
      · rw [HLAST.out]; exact (HBK.out.rds (S := fun _ => True) trivial).rd
theorem split_any (s : ByteArray) (w : World) (hs : s.size ≤ 1048576) :
    Calls Tryz.prog 24 #[.string s, .string ⟨#[32]⟩] w (SRes w (splitB 32 s.data.toList)) := by
  have HG := Lib.hid (gsplit_any s w hs)
  go_enter Tryz.func24, Tryz.ntmps24
  go_wp2_with fail
  refine HG.out.mono ?_
  rintro e w1 ⟨A, c, rfl, hr, hb⟩
  go_wp2_with fail
  go_ret
  exact ⟨A, c, rfl, hr, hb⟩
end Go.Proofs.YtpiiickhfcjnmaaGreatDoor
/- What Split says: a new row. -/
namespace Go.Proofs.YtpiiickhfcjnmaaGreatDoor
open Go.RowKit Go.Dw
def SResN (w : World) (ls : List (List UInt8)) (e : Ending) (w' : World) : Prop := ∃ b c, w.heap.size ≤ b ∧ e = .returned (.slice (some ⟨b, 0, none⟩) ls.length c) ∧ Rd w' (some ⟨b, 0, none⟩) (sc ls) ∧ Below w.heap.size w w'
end Go.Proofs.YtpiiickhfcjnmaaGreatDoor
/- Generated (gen/sep.py): strings.Index, Cut at the byte 58. -/
namespace Go.Proofs.YtpiiickhfcjnmaaGreatDoor
open Go.RowKit Go.Dw

set_option maxHeartbeats 1000000 in
theorem lite_Index58 (s : ByteArray) (w : World) :
    Calls Tryz.prog 124 #[.string s, .string ⟨#[58]⟩] w fun e w' => e = .returned (.int .i64 (Lib.indexByte s.data.toList 58)) ∧ w = w' := by
  have ht : s.toList = s.data.toList := ByteArray.toList_eq s
  by_cases he : s.data.toList = [58]
  · have hb : ([58] == s.toList) = true := by rw [ht, he]; rfl
    have HE := Lib.hid he
    clear he ht
    go_enter Tryz.func124, Tryz.ntmps124
    go_wp2_with fail
    go_ret
    exact ⟨ret_int (by rw [HE.out]; rfl), rfl⟩
  · have hb : ([58] == s.toList) = false := by rw [ht, beq_eq_false_iff_ne]; exact fun h => he h.symm
    clear he ht
    go_enter Tryz.func124, Tryz.ntmps124
    go_wp2_with fail
    refine (lite_IndexByte s 58 _).mono ?_
    rintro e w' ⟨rfl, rfl⟩
    go_wp2_with fail
    go_ret
    exact ⟨rfl, rfl⟩
/-- what Cut says -/
def cutV58 (s : ByteArray) : Value := if s.data.toList.count 58 = 0 then .tuple #[.string s, .string ⟨#[]⟩, .bool false]
  else .tuple #[.string (s.extract 0 (Lib.indexByte s.data.toList 58).toNat), .string (s.extract ((Lib.indexByte s.data.toList 58).toNat + 1) s.size), .bool true]
set_option maxHeartbeats 1000000 in
theorem lite_Cut58 (s : ByteArray) (w : World) (hs : s.size ≤ 1048576) :
    Calls Tryz.prog 70 #[.string s, .string ⟨#[58]⟩] w fun e w' => e = .returned (cutV58 s) ∧ ∃ n, w' = w.drewN n := by
  have HIX := Lib.hid (lite_Index58 s w)
  by_cases h0 : s.data.toList.count 58 = 0
  · have HR : Hid (cutV58 s = .tuple #[.string s, .string ⟨#[]⟩, .bool false]) := by show _ = _; unfold cutV58; rw [if_pos h0]
    have h1 := cut_none h0
    rw [h1] at HIX
    clear h0 h1
    go_enter Tryz.func70, Tryz.ntmps70
    go_wp2_with fail
    refine HIX.out.mono ?_
    rintro e w' ⟨rfl, rfl⟩
    go_wp2_with fail
    go_ret3
    exact ⟨by rw [HR.out]; rfl, 0, rfl⟩
  · obtain ⟨m, h1, h2⟩ := cut_at (z := 58) (t := s.data.toList) (by omega)
    have HR : Hid (cutV58 s = .tuple #[.string (s.extract 0 m), .string (s.extract (m + 1) s.size), .bool true]) := by show _ = _; unfold cutV58; rw [if_neg h0, h1]; rfl
    rw [h1] at HIX
    rw [size_list] at h2
    have hm : (0 : Int) ≤ (m : Int) := by omega
    have hd : decide ((0 : Int) ≤ (m : Int)) = true := by simp
    have hw : IntKind.i64.wrap ((m : Int) + 1) = (m : Int) + 1 := IntWalk.i64_in _ (by omega)
    have ht : ((m : Int) + 1).toNat = m + 1 := by omega
    clear h0 h1
    go_enter Tryz.func70, Tryz.ntmps70
    go_wp2_with fail
    refine HIX.out.mono ?_
    rintro e w' ⟨rfl, rfl⟩
    go_wp2_with fail
    go_quiet (fail)
    go_wp2
    go_ret3
    exact ⟨by rw [HR.out]; rfl, _, rfl⟩
theorem str_Cut58 (s : ByteArray) (w : World) (hs : s.size ≤ 1048576) :
    Calls Tryz.prog 23 #[.string s, .string ⟨#[58]⟩] w fun e w' => e = .returned (cutV58 s) ∧ ∃ n, w' = w.drewN n := by
  have HC := Lib.hid (lite_Cut58 s w hs)
  have HF : Hid (∃ a b c, cutV58 s = .tuple #[.string a, .string b, .bool c]) := by
    show ∃ a b c, _
    unfold cutV58
    split
    · exact ⟨_, _, _, rfl⟩
    · exact ⟨_, _, _, rfl⟩
  obtain ⟨a, b, c, hv⟩ := HF.out
  rw [hv] at HC
  have HV := Lib.hid hv
  clear hv
  go_enter Tryz.func23, Tryz.ntmps23
  go_wp2_with fail
  refine HC.out.mono ?_
  rintro e w' ⟨rfl, n, rfl⟩
  go_wp2_with fail
  go_ret3
  exact ⟨by rw [HV.out]; rfl, n, rfl⟩
end Go.Proofs.YtpiiickhfcjnmaaGreatDoor
/- Generated (gen/sep.py): strings.Index, Cut at the byte 47. -/
namespace Go.Proofs.YtpiiickhfcjnmaaGreatDoor
open Go.RowKit Go.Dw

set_option maxHeartbeats 1000000 in
theorem lite_Index47 (s : ByteArray) (w : World) :
    Calls Tryz.prog 124 #[.string s, .string ⟨#[47]⟩] w fun e w' => e = .returned (.int .i64 (Lib.indexByte s.data.toList 47)) ∧ w = w' := by
  have ht : s.toList = s.data.toList := ByteArray.toList_eq s
  by_cases he : s.data.toList = [47]
  · have hb : ([47] == s.toList) = true := by rw [ht, he]; rfl
    have HE := Lib.hid he
    clear he ht
    go_enter Tryz.func124, Tryz.ntmps124
    go_wp2_with fail
    go_ret
    exact ⟨ret_int (by rw [HE.out]; rfl), rfl⟩
  · have hb : ([47] == s.toList) = false := by rw [ht, beq_eq_false_iff_ne]; exact fun h => he h.symm
    clear he ht
    go_enter Tryz.func124, Tryz.ntmps124
    go_wp2_with fail
    refine (lite_IndexByte s 47 _).mono ?_
    rintro e w' ⟨rfl, rfl⟩
    go_wp2_with fail
    go_ret
    exact ⟨rfl, rfl⟩
/-- what Cut says -/
def cutV47 (s : ByteArray) : Value := if s.data.toList.count 47 = 0 then .tuple #[.string s, .string ⟨#[]⟩, .bool false]
  else .tuple #[.string (s.extract 0 (Lib.indexByte s.data.toList 47).toNat), .string (s.extract ((Lib.indexByte s.data.toList 47).toNat + 1) s.size), .bool true]
set_option maxHeartbeats 1000000 in
theorem lite_Cut47 (s : ByteArray) (w : World) (hs : s.size ≤ 1048576) :
    Calls Tryz.prog 70 #[.string s, .string ⟨#[47]⟩] w fun e w' => e = .returned (cutV47 s) ∧ ∃ n, w' = w.drewN n := by
  have HIX := Lib.hid (lite_Index47 s w)
  by_cases h0 : s.data.toList.count 47 = 0
  · have HR : Hid (cutV47 s = .tuple #[.string s, .string ⟨#[]⟩, .bool false]) := by show _ = _; unfold cutV47; rw [if_pos h0]
    have h1 := cut_none h0
    rw [h1] at HIX
    clear h0 h1
    go_enter Tryz.func70, Tryz.ntmps70
    go_wp2_with fail
    refine HIX.out.mono ?_
    rintro e w' ⟨rfl, rfl⟩
    go_wp2_with fail
    go_ret3
    exact ⟨by rw [HR.out]; rfl, 0, rfl⟩
  · obtain ⟨m, h1, h2⟩ := cut_at (z := 47) (t := s.data.toList) (by omega)
    have HR : Hid (cutV47 s = .tuple #[.string (s.extract 0 m), .string (s.extract (m + 1) s.size), .bool true]) := by show _ = _; unfold cutV47; rw [if_neg h0, h1]; rfl
    rw [h1] at HIX
    rw [size_list] at h2
    have hm : (0 : Int) ≤ (m : Int) := by omega
    have hd : decide ((0 : Int) ≤ (m : Int)) = true := by simp
    have hw : IntKind.i64.wrap ((m : Int) + 1) = (m : Int) + 1 := IntWalk.i64_in _ (by omega)
    have ht : ((m : Int) + 1).toNat = m + 1 := by omega
    clear h0 h1
    go_enter Tryz.func70, Tryz.ntmps70
    go_wp2_with fail
    refine HIX.out.mono ?_
    rintro e w' ⟨rfl, rfl⟩
    go_wp2_with fail
    go_quiet (fail)
    go_wp2
    go_ret3
    exact ⟨by rw [HR.out]; rfl, _, rfl⟩
theorem str_Cut47 (s : ByteArray) (w : World) (hs : s.size ≤ 1048576) :
    Calls Tryz.prog 23 #[.string s, .string ⟨#[47]⟩] w fun e w' => e = .returned (cutV47 s) ∧ ∃ n, w' = w.drewN n := by
  have HC := Lib.hid (lite_Cut47 s w hs)
  have HF : Hid (∃ a b c, cutV47 s = .tuple #[.string a, .string b, .bool c]) := by
    show ∃ a b c, _
    unfold cutV47
    split
    · exact ⟨_, _, _, rfl⟩
    · exact ⟨_, _, _, rfl⟩
  obtain ⟨a, b, c, hv⟩ := HF.out
  rw [hv] at HC
  have HV := Lib.hid hv
  clear hv
  go_enter Tryz.func23, Tryz.ntmps23
  go_wp2_with fail
  refine HC.out.mono ?_
  rintro e w' ⟨rfl, n, rfl⟩
  go_wp2_with fail
  go_ret3
  exact ⟨by rw [HV.out]; rfl, n, rfl⟩
end Go.Proofs.YtpiiickhfcjnmaaGreatDoor
/- Generated (gen/sep.py): strings.Index, Count, Split at the byte 32. -/
namespace Go.Proofs.YtpiiickhfcjnmaaGreatDoor
open Go.RowKit Go.Dw

/-- what Split says: a new row, its capacity its length -/
def SResC (w : World) (ls : List (List UInt8)) (e : Ending) (w' : World) : Prop := ∃ b, w.heap.size ≤ b ∧ e = .returned (.slice (some ⟨b, 0, none⟩) ls.length ls.length) ∧ Rd w' (some ⟨b, 0, none⟩) (sc ls) ∧ Below w.heap.size w w'
set_option maxHeartbeats 1000000 in
theorem lite_Index32 (s : ByteArray) (w : World) :
    Calls Tryz.prog 124 #[.string s, .string ⟨#[32]⟩] w fun e w' => e = .returned (.int .i64 (Lib.indexByte s.data.toList 32)) ∧ w = w' := by
  have ht : s.toList = s.data.toList := ByteArray.toList_eq s
  by_cases he : s.data.toList = [32]
  · have hb : ([32] == s.toList) = true := by rw [ht, he]; rfl
    have HE := Lib.hid he
    clear he ht
    go_enter Tryz.func124, Tryz.ntmps124
    go_wp2_with fail
    go_ret
    exact ⟨ret_int (by rw [HE.out]; rfl), rfl⟩
  · have hb : ([32] == s.toList) = false := by rw [ht, beq_eq_false_iff_ne]; exact fun h => he h.symm
    clear he ht
    go_enter Tryz.func124, Tryz.ntmps124
    go_wp2_with fail
    refine (lite_IndexByte s 32 _).mono ?_
    rintro e w' ⟨rfl, rfl⟩
    go_wp2_with fail
    go_ret
    exact ⟨rfl, rfl⟩
theorem str_Index32 (s : ByteArray) (w : World) :
    Calls Tryz.prog 127 #[.string s, .string ⟨#[32]⟩] w fun e w' => e = .returned (.int .i64 (Lib.indexByte s.data.toList 32)) ∧ w = w' := by
  go_enter Tryz.func127, Tryz.ntmps127
  go_wp2_with fail
  refine (lite_Index32 s _).mono ?_
  rintro e w' ⟨rfl, rfl⟩
  go_wp2_with fail
  go_ret
  exact ⟨rfl, rfl⟩
set_option maxRecDepth 100000 in
set_option maxHeartbeats 1000000 in
theorem str_Count32 (s : ByteArray) (w : World) :
    Calls Tryz.prog 126 #[.string s, .string ⟨#[32]⟩] w fun e w' => e = .returned (.int .i64 (s.data.toList.count 32 : Nat)) ∧ w = w' := by
  go_enter Tryz.func126, Tryz.ntmps126
  go_wp2
  rw [run_callFunc_extern Tryz.func182 (by kernel_rfl) (by kernel_rfl) (by kernel_rfl) (e := Extern.BytealgCount.count) (by kernel_rfl), Lib.run_countString]
  simp only [Result.andThen]
  rw [Oper.upon_value]
  go_wp2
  go_ret
  exact ⟨rfl, rfl⟩
set_option maxRecDepth 100000 in
set_option maxHeartbeats 1000000 in
theorem gsplit_any32 (s : ByteArray) (w : World) (hs : s.size ≤ 1048576) :
    Calls Tryz.prog 71 #[.string s, .string ⟨#[32]⟩, .int .i64 0, .int .i64 (-1)] w (SResC w (splitB 32 s.data.toList)) := by
  obtain ⟨i0, hi0, hz0, hz1, hz2⟩ := info_parts info_str
  have hcl : s.data.toList.count 32 ≤ s.size := by rw [← size_list]; exact List.count_le_length
  have HLN := Lib.hid (split_len 32 s.data.toList)
  obtain ⟨N, hN⟩ : ∃ N, s.data.toList.count 32 = N := ⟨_, rfl⟩
  have HCT := Lib.hid (str_Count32 s)
  rw [hN] at HCT hcl HLN
  have hmk := run_mk (P := Tryz.prog) 61 9 i0 _ 16 Tryz.underlying61 hi0 hz0 hz1 hz2 rfl ((N : Int) + 1) (N + 1) (by omega) (by omega) (by omega)
  have HIX := Lib.hid (fun (t : ByteArray) (W : World) => str_Index32 t W)
  have HN := Lib.hid hN
  have hmin : min (N : Int) (s.size : Int) = (N : Int) := by omega
  clear hN hi0 hz0 hz1 hz2
  go_enter Tryz.func71, Tryz.ntmps71
  go_wp2_with fail
  refine (HCT.out _).mono ?_
  rintro e w' ⟨rfl, rfl⟩
  go_wp2_with fail
  have HB0 : Hid (Below w.heap.size w (w.alloc (.cells (zs (N + 1) (.string ByteArray.empty)).toArray 9))) := (Below.refl _ _).alloc (Nat.le_refl _) _
  have HK0 : Hid (Blk (w.alloc (.cells (zs (N + 1) (.string ByteArray.empty)).toArray 9)) w.heap.size 9 (zs (N + 1) (.string ByteArray.empty))) := Blk.new w _ _
  clear hmk
  generalize w.alloc (.cells (zs (N + 1) (.string ByteArray.empty)).toArray 9) = w1 at *
  clear hmin
  go_loopw [0, 10] (fun sv0 iv wr => ∃ (t : ByteArray) (done : List (List UInt8)) (k : Nat), sv0 = .string t ∧ iv = .int .i64 (k : Int) ∧ done.length = k ∧ Hid (splitB 32 s.data.toList = done ++ splitB 32 t.data.toList) ∧ Hid (t.data.toList.count 32 + k = N) ∧ k ≤ N ∧ t.size ≤ s.size ∧ Below w.heap.size w wr ∧ Blk wr w.heap.size 9 (sc done ++ zs (N + 1 - k) (.string ByteArray.empty))) (fun _ iv _ => N - (intOf iv).toNat)
  case atStart => exact ⟨s, [], 0, rfl, rfl, rfl, rfl, by show _ = _; rw [HN.out]; rfl, Nat.zero_le _, Nat.le_refl _, HB0.out, HK0.out⟩
  case round =>
    obtain ⟨t, done, k, rfl, rfl, hdl, HSP, HCN, hkN, hts, hB, hK⟩ := hrel
    have hdl2 : (sc done).length = k := by rw [sc_len]; exact hdl
    have hkz := hK.lt
    have hcell : wr.cell? ⟨w.heap.size, k, none⟩ = some (.string ByteArray.empty) := by
      rw [hK.cell k, List.getElem?_append_right (by omega), hdl2, Nat.sub_self, zs_at _ _ _ (by omega)]
    have hfz := hK.frozen k
    by_cases hkl : k < N
    · obtain ⟨m, h1, h2, h3, h4⟩ := split_at 32 t.data.toList (by have := HCN.out; omega)
      rw [size_list] at h2
      have HIX2 := Lib.hid (HIX.out t)
      rw [h1] at HIX2
      have HNEW : Hid (splitB 32 s.data.toList = (done ++ [t.data.toList.take m]) ++ splitB 32 (t.extract (m + 1) t.size).data.toList) := by
        show _ = _
        rw [HSP.out, h3, ext_end]; simp
      have HCN2 : Hid ((t.extract (m + 1) t.size).data.toList.count 32 + (k + 1) = N) := by
        show _ = _
        rw [ext_end]; have := HCN.out; omega
      have hsz2 : (t.extract (m + 1) t.size).size ≤ s.size := by
        rw [← size_list, ext_end, List.length_drop, size_list]; omega
      have HBK : Hid (Blk (wr.setCell ⟨w.heap.size, k, none⟩ (.string (t.extract 0 m))) w.heap.size 9 (sc (done ++ [t.data.toList.take m]) ++ zs (N + 1 - (k + 1)) (.string ByteArray.empty))) := by
        have h5 := hK.set_ k (.string (t.extract 0 m))
        have h6 : (sc done ++ zs (N + 1 - k) (.string ByteArray.empty)).set k (.string (t.extract 0 m)) = sc (done ++ [t.data.toList.take m]) ++ zs (N + 1 - (k + 1)) (.string ByteArray.empty) := by
          have := zs_set (d := sc done) (z := .string ByteArray.empty) (u := .string (t.extract 0 m)) (n := N + 1 - k) (by omega)
          rw [hdl2] at this
          rw [this, sc_app, sv_ext, List.drop_zero, show N + 1 - k - 1 = N + 1 - (k + 1) by omega]
          rfl
        rw [h6] at h5
        exact h5
      have HBL : Hid (Below w.heap.size w (wr.setCell ⟨w.heap.size, k, none⟩ (.string (t.extract 0 m)))) := Below.setCell (p := ⟨w.heap.size, k, none⟩) hB (Nat.le_refl _) _
      have HDL := Lib.hid hdl
      have hm2 : ¬ ((m : Int) < 0) := by omega
      clear h1 h3 h4 hK hB hdl2 hdl
      go_wp2_with fail
      refine (HIX2.out _).mono ?_
      rintro e w' ⟨rfl, rfl⟩
      go_wp2_with fail
      go_roundw
      case rel => exact ⟨_, done ++ [t.data.toList.take m], k + 1, rfl, by go_num, by simp [HDL.out], HNEW, HCN2, by omega, hsz2, HBL.out, HBK.out⟩
      case measure => simp [intOf]; omega
    · have hkN2 : k = N := by omega
      have HLAST : Hid (splitB 32 s.data.toList = done ++ [t.data.toList]) := by
        show _ = _
        rw [HSP.out, split_none 32 _ (by have := HCN.out; omega)]
      have HBK : Hid (Blk (wr.setCell ⟨w.heap.size, k, none⟩ (.string t)) w.heap.size 9 (sc (done ++ [t.data.toList]))) := by
        have h5 := hK.set_ k (.string t)
        have h6 : (sc done ++ zs (N + 1 - k) (.string ByteArray.empty)).set k (.string t) = sc (done ++ [t.data.toList]) := by
          have := zs_set (d := sc done) (z := .string ByteArray.empty) (u := .string t) (n := N + 1 - k) (by omega)
          rw [hdl2] at this
          rw [this, sc_app, show N + 1 - k - 1 = 0 by omega]
          simp [sc, zs]; rfl
        rw [h6] at h5
        exact h5
      have HBL : Hid (Below w.heap.size w (wr.setCell ⟨w.heap.size, k, none⟩ (.string t))) := Below.setCell (p := ⟨w.heap.size, k, none⟩) hB (Nat.le_refl _) _
      have HDL := Lib.hid hdl
      have hd : ¬ k < N := hkl
      clear hK hB hdl2 hdl hkN2
      go_wp2_with fail
      go_ret
      refine ⟨w.heap.size, Nat.le_refl _, ?_, ?_, HBL.out⟩
      · rw [HLAST.out, List.length_append, HDL.out]; exact congrArg (fun n => Ending.returned (Value.slice (some ⟨w.heap.size, 0, none⟩) (k + 1) (n + 1))) (show N = k by omega)
      · rw [HLAST.out]; exact (HBK.out.rds (S := fun _ => True) trivial).rd
theorem split_any32 (s : ByteArray) (w : World) (hs : s.size ≤ 1048576) :
    Calls Tryz.prog 24 #[.string s, .string ⟨#[32]⟩] w (SResC w (splitB 32 s.data.toList)) := by
  have HG := Lib.hid (gsplit_any32 s w hs)
  go_enter Tryz.func24, Tryz.ntmps24
  go_wp2_with fail
  refine HG.out.mono ?_
  rintro e w1 ⟨b, hle, rfl, hr, hb⟩
  go_wp2_with fail
  go_ret
  exact ⟨b, hle, rfl, hr, hb⟩
end Go.Proofs.YtpiiickhfcjnmaaGreatDoor
/- Generated (gen/sep.py): strings.Index, Cut at the byte 10. -/
namespace Go.Proofs.YtpiiickhfcjnmaaGreatDoor
open Go.RowKit Go.Dw

set_option maxHeartbeats 1000000 in
theorem lite_Index10 (s : ByteArray) (w : World) :
    Calls Tryz.prog 124 #[.string s, .string ⟨#[10]⟩] w fun e w' => e = .returned (.int .i64 (Lib.indexByte s.data.toList 10)) ∧ w = w' := by
  have ht : s.toList = s.data.toList := ByteArray.toList_eq s
  by_cases he : s.data.toList = [10]
  · have hb : ([10] == s.toList) = true := by rw [ht, he]; rfl
    have HE := Lib.hid he
    clear he ht
    go_enter Tryz.func124, Tryz.ntmps124
    go_wp2_with fail
    go_ret
    exact ⟨ret_int (by rw [HE.out]; rfl), rfl⟩
  · have hb : ([10] == s.toList) = false := by rw [ht, beq_eq_false_iff_ne]; exact fun h => he h.symm
    clear he ht
    go_enter Tryz.func124, Tryz.ntmps124
    go_wp2_with fail
    refine (lite_IndexByte s 10 _).mono ?_
    rintro e w' ⟨rfl, rfl⟩
    go_wp2_with fail
    go_ret
    exact ⟨rfl, rfl⟩
/-- what Cut says -/
def cutV10 (s : ByteArray) : Value := if s.data.toList.count 10 = 0 then .tuple #[.string s, .string ⟨#[]⟩, .bool false]
  else .tuple #[.string (s.extract 0 (Lib.indexByte s.data.toList 10).toNat), .string (s.extract ((Lib.indexByte s.data.toList 10).toNat + 1) s.size), .bool true]
set_option maxHeartbeats 1000000 in
theorem lite_Cut10 (s : ByteArray) (w : World) (hs : s.size ≤ 1048576) :
    Calls Tryz.prog 70 #[.string s, .string ⟨#[10]⟩] w fun e w' => e = .returned (cutV10 s) ∧ ∃ n, w' = w.drewN n := by
  have HIX := Lib.hid (lite_Index10 s w)
  by_cases h0 : s.data.toList.count 10 = 0
  · have HR : Hid (cutV10 s = .tuple #[.string s, .string ⟨#[]⟩, .bool false]) := by show _ = _; unfold cutV10; rw [if_pos h0]
    have h1 := cut_none h0
    rw [h1] at HIX
    clear h0 h1
    go_enter Tryz.func70, Tryz.ntmps70
    go_wp2_with fail
    refine HIX.out.mono ?_
    rintro e w' ⟨rfl, rfl⟩
    go_wp2_with fail
    go_ret3
    exact ⟨by rw [HR.out]; rfl, 0, rfl⟩
  · obtain ⟨m, h1, h2⟩ := cut_at (z := 10) (t := s.data.toList) (by omega)
    have HR : Hid (cutV10 s = .tuple #[.string (s.extract 0 m), .string (s.extract (m + 1) s.size), .bool true]) := by show _ = _; unfold cutV10; rw [if_neg h0, h1]; rfl
    rw [h1] at HIX
    rw [size_list] at h2
    have hm : (0 : Int) ≤ (m : Int) := by omega
    have hd : decide ((0 : Int) ≤ (m : Int)) = true := by simp
    have hw : IntKind.i64.wrap ((m : Int) + 1) = (m : Int) + 1 := IntWalk.i64_in _ (by omega)
    have ht : ((m : Int) + 1).toNat = m + 1 := by omega
    clear h0 h1
    go_enter Tryz.func70, Tryz.ntmps70
    go_wp2_with fail
    refine HIX.out.mono ?_
    rintro e w' ⟨rfl, rfl⟩
    go_wp2_with fail
    go_quiet (fail)
    go_wp2
    go_ret3
    exact ⟨by rw [HR.out]; rfl, _, rfl⟩
theorem str_Cut10 (s : ByteArray) (w : World) (hs : s.size ≤ 1048576) :
    Calls Tryz.prog 23 #[.string s, .string ⟨#[10]⟩] w fun e w' => e = .returned (cutV10 s) ∧ ∃ n, w' = w.drewN n := by
  have HC := Lib.hid (lite_Cut10 s w hs)
  have HF : Hid (∃ a b c, cutV10 s = .tuple #[.string a, .string b, .bool c]) := by
    show ∃ a b c, _
    unfold cutV10
    split
    · exact ⟨_, _, _, rfl⟩
    · exact ⟨_, _, _, rfl⟩
  obtain ⟨a, b, c, hv⟩ := HF.out
  rw [hv] at HC
  have HV := Lib.hid hv
  clear hv
  go_enter Tryz.func23, Tryz.ntmps23
  go_wp2_with fail
  refine HC.out.mono ?_
  rintro e w' ⟨rfl, n, rfl⟩
  go_wp2_with fail
  go_ret3
  exact ⟨by rw [HV.out]; rfl, n, rfl⟩
end Go.Proofs.YtpiiickhfcjnmaaGreatDoor
