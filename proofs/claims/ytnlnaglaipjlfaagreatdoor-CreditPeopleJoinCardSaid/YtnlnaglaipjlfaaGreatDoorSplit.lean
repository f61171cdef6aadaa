/- The contract of strings.Split at a blank. -/
import Derived.Test.YtnlnaglaipjlfaaGreatDoorStr
import Derived.Laws.OwnMore
namespace Go.Proofs.YtnlnaglaipjlfaaGreatDoor
open Go.RowKit Go.Dw

/-- a string as a value -/
def sv (l : List UInt8) : Value := .string ⟨l.toArray⟩
def sc (ls : List (List UInt8)) : List Value := ls.map sv
theorem sc_len (ls : List (List UInt8)) : (sc ls).length = ls.length := by simp [sc]
theorem sc_app (a b : List (List UInt8)) : sc (a ++ b) = sc a ++ sc b := by simp [sc]
theorem sc_at (ls : List (List UInt8)) (k : Nat) (h : k < ls.length) : (sc ls)[k]? = some (sv ls[k]) := by simp [sc, h]
theorem sv_of (s : ByteArray) : Value.string s = sv s.data.toList := rfl
theorem sv_ext (s : ByteArray) (a b : Nat) : Value.string (s.extract a b) = sv ((s.data.toList.take b).drop a) := by
  unfold sv
  congr 1
  apply ByteArray.ext
  apply Array.ext'
  rw [List.toList_toArray, ← ByteArray.toList_eq, ext_list]
theorem ext_end (s : ByteArray) (a : Nat) : (s.extract a s.size).data.toList = s.data.toList.drop a := by
  rw [← ByteArray.toList_eq, ext_list, List.take_of_length_le (by rw [size_list]; exact Nat.le_refl _)]
def SRes (w : World) (ls : List (List UInt8)) (e : Ending) (w' : World) : Prop := ∃ A c, e = .returned (.slice A ls.length c) ∧ Rd w' A (sc ls) ∧ Below w.heap.size w w'
theorem info_str : (Tryz.prog.info? 9).map (fun i => (i.zero, i.size, i.bytes)) = some (some (.string ByteArray.empty), 1, 16) := by kernel_rfl
theorem zs_set {d : List Value} {n : Nat} {z u : Value} (hn : 0 < n) : (d ++ zs n z).set d.length u = (d ++ [u]) ++ zs (n - 1) z := by
  obtain ⟨m, rfl⟩ : ∃ m, n = m + 1 := ⟨n - 1, by omega⟩
  rw [List.set_append_right _ _ (Nat.le_refl _), Nat.sub_self]
  simp [zs, List.replicate_succ]

set_option maxRecDepth 100000 in
set_option maxHeartbeats 1000000 in
theorem gsplit_any (s : ByteArray) (w : World) (hs : s.size ≤ 1048576) :
    Calls Tryz.prog 96 #[.string s, .string ⟨#[32]⟩, .int .i64 0, .int .i64 (-1)] w (SRes w (splitB 32 s.data.toList)) := by
  obtain ⟨i0, hi0, hz0, hz1, hz2⟩ := info_parts info_str
  have hcl : s.data.toList.count 32 ≤ s.size := by rw [← size_list]; exact List.count_le_length
  have HLN := Lib.hid (split_len 32 s.data.toList)
  obtain ⟨N, hN⟩ : ∃ N, s.data.toList.count 32 = N := ⟨_, rfl⟩
  have HCT := Lib.hid (str_Count s)
  rw [hN] at HCT hcl HLN
  have hmk := run_mk (P := Tryz.prog) 35 9 i0 _ 16 Tryz.underlying35 hi0 hz0 hz1 hz2 rfl ((N : Int) + 1) (N + 1) (by omega) (by omega) (by omega)
  have HIX := Lib.hid (fun (t : ByteArray) (W : World) => str_Index t W)
  have HN := Lib.hid hN
  have hmin : min (N : Int) (s.size : Int) = (N : Int) := by omega
  clear hN hi0 hz0 hz1 hz2
  go_enter Tryz.func96, Tryz.ntmps96
  go_wp2_with fail
  refine (HCT.out _).mono ?_
  rintro e w' ⟨rfl, rfl⟩
  go_wp2_with fail
  have HB0 : Hid (Below w.heap.size w (w.alloc (.cells (zs (N + 1) (.string ByteArray.empty)).toArray 9))) := (Below.refl _ _).alloc (Nat.le_refl _) _
  have HK0 : Hid (Blk (w.alloc (.cells (zs (N + 1) (.string ByteArray.empty)).toArray 9)) w.heap.size 9 (zs (N + 1) (.string ByteArray.empty))) := Blk.new w _ _
  clear hmk
  generalize w.alloc (.cells (zs (N + 1) (.string ByteArray.empty)).toArray 9) = w1 at *
  clear hmin
  go_loopw [0, 10] (fun sv0 iv wr => ∃ (t : ByteArray) (done : List (List UInt8)) (k : Nat), sv0 = .string t ∧ iv = .int .i64 (k : Int) ∧ done.length = k ∧ Hid (splitB 32 s.data.toList = done ++ splitB 32 t.data.toList) ∧ Hid (t.data.toList.count 32 + k = N) ∧ k ≤ N ∧ t.size ≤ s.size ∧ Below w.heap.size w wr ∧ Blk wr w.heap.size 9 (sc done ++ zs (N + 1 - k) (.string ByteArray.empty))) (fun _ iv _ => N - (intOf iv).toNat)
  case atStart => exact ⟨s, [], 0, rfl, rfl, rfl, rfl, by show _ = _; rw [HN.out]; rfl, Nat.zero_le _, Nat.le_refl _, HB0.out, HK0.out⟩
  case round =>
    obtain ⟨t, done, k, rfl, rfl, hdl, HSP, HCN, hkN, hts, hB, hK⟩ := hrel
    have hdl2 : (sc done).length = k := by rw [sc_len]; exact hdl
    have hkz := hK.lt
    have hcell : wr.cell? ⟨w.heap.size, k, none⟩ = some (.string ByteArray.empty) := by
      rw [hK.cell k, List.getElem?_append_right (by omega), hdl2, Nat.sub_self, zs_at _ _ _ (by omega)]
    have hfz := hK.frozen k
    by_cases hkl : k < N
    · obtain ⟨m, h1, h2, h3, h4⟩ := split_at 32 t.data.toList (by have := HCN.out; omega)
      rw [size_list] at h2
      have HIX2 := Lib.hid (HIX.out t)
      rw [h1] at HIX2
      have HNEW : Hid (splitB 32 s.data.toList = (done ++ [t.data.toList.take m]) ++ splitB 32 (t.extract (m + 1) t.size).data.toList) := by
        show _ = _
        rw [HSP.out, h3, ext_end]; simp
      have HCN2 : Hid ((t.extract (m + 1) t.size).data.toList.count 32 + (k + 1) = N) := by
        show _ = _
        rw [ext_end]; have := HCN.out; omega
      have hsz2 : (t.extract (m + 1) t.size).size ≤ s.size := by
        rw [← size_list, ext_end, List.length_drop, size_list]; omega
      have HBK : Hid (Blk (wr.setCell ⟨w.heap.size, k, none⟩ (.string (t.extract 0 m))) w.heap.size 9 (sc (done ++ [t.data.toList.take m]) ++ zs (N + 1 - (k + 1)) (.string ByteArray.empty))) := by
        have h5 := hK.set_ k (.string (t.extract 0 m))
        have h6 : (sc done ++ zs (N + 1 - k) (.string ByteArray.empty)).set k (.string (t.extract 0 m)) = sc (done ++ [t.data.toList.take m]) ++ zs (N + 1 - (k + 1)) (.string ByteArray.empty) := by
          have := zs_set (d := sc done) (z := .string ByteArray.empty) (u := .string (t.extract 0 m)) (n := N + 1 - k) (by omega)
          rw [hdl2] at this
          rw [this, sc_app, sv_ext, List.drop_zero, show N + 1 - k - 1 = N + 1 - (k + 1) by omega]
          rfl
        rw [h6] at h5
        exact h5
      have HBL : Hid (Below w.heap.size w (wr.setCell ⟨w.heap.size, k, none⟩ (.string (t.extract 0 m)))) := Below.setCell (p := ⟨w.heap.size, k, none⟩) hB (Nat.le_refl _) _
      have HDL := Lib.hid hdl
      have hm2 : ¬ ((m : Int) < 0) := by omega
      clear h1 h3 h4 hK hB hdl2 hdl
      go_wp2_with fail
      refine (HIX2.out _).mono ?_
      rintro e w' ⟨rfl, rfl⟩
      go_wp2_with fail
      go_roundw
      case rel => exact ⟨_, done ++ [t.data.toList.take m], k + 1, rfl, by go_num, by simp [HDL.out], HNEW, HCN2, by omega, hsz2, HBL.out, HBK.out⟩
      case measure => simp [intOf]; omega
    · have hkN2 : k = N := by omega
      have HLAST : Hid (splitB 32 s.data.toList = done ++ [t.data.toList]) := by
        show _ = _
        rw [HSP.out, split_none 32 _ (by have := HCN.out; omega)]
      have HBK : Hid (Blk (wr.setCell ⟨w.heap.size, k, none⟩ (.string t)) w.heap.size 9 (sc (done ++ [t.data.toList]))) := by
        have h5 := hK.set_ k (.string t)
        have h6 : (sc done ++ zs (N + 1 - k) (.string ByteArray.empty)).set k (.string t) = sc (done ++ [t.data.toList]) := by
          have := zs_set (d := sc done) (z := .string ByteArray.empty) (u := .string t) (n := N + 1 - k) (by omega)
          rw [hdl2] at this
          rw [this, sc_app, show N + 1 - k - 1 = 0 by omega]
          simp [sc, zs]; rfl
        rw [h6] at h5
        exact h5
      have HBL : Hid (Below w.heap.size w (wr.setCell ⟨w.heap.size, k, none⟩ (.string t))) := Below.setCell (p := ⟨w.heap.size, k, none⟩) hB (Nat.le_refl _) _
      have HDL := Lib.hid hdl
      have hd : ¬ k < N := hkl
      clear hK hB hdl2 hdl hkN2
      go_wp2_with fail
      go_ret
      refine ⟨some ⟨w.heap.size, 0, none⟩, N + 1, ?_, ?_, HBL.out⟩
      · rw [HLAST.out, List.length_append, HDL.out]; rfl
      · rw [HLAST.out]; exact (HBK.out.rds (S := fun _ => True) trivial).rd
theorem split_any (s : ByteArray) (w : World) (hs : s.size ≤ 1048576) :
    Calls Tryz.prog 81 #[.string s, .string ⟨#[32]⟩] w (SRes w (splitB 32 s.data.toList)) := by
  have HG := Lib.hid (gsplit_any s w hs)
  go_enter Tryz.func81, Tryz.ntmps81
  go_wp2_with fail
  refine HG.out.mono ?_
  rintro e w1 ⟨A, c, rfl, hr, hb⟩
  go_wp2_with fail
  go_ret
  exact ⟨A, c, rfl, hr, hb⟩
end Go.Proofs.YtnlnaglaipjlfaaGreatDoor
