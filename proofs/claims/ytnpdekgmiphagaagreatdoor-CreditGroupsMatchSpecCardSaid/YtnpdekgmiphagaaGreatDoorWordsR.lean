/- The contract of the reference's words. -/
import Derived.Test.YtnpdekgmiphagaaGreatDoorWords
namespace Go.Proofs.YtnpdekgmiphagaaGreatDoor
open Go.RowKit Go.Dw

def wdR (P : List (List UInt8)) (k : Nat) : List (List UInt8) := ((P.take k).map (fun w => (trimDot w).map lowB)).filter (fun w => !w.isEmpty)
theorem wdR_succ {P : List (List UInt8)} {k : Nat} (h : k < P.length) : wdR P (k + 1) = wdR P k ++ (if (trimDot P[k]).isEmpty then [] else [(trimDot P[k]).map lowB]) := by
  unfold wdR
  rw [List.take_succ_eq_append_getElem h, List.map_append, List.filter_append]
  by_cases hh : (trimDot P[k]).isEmpty <;> simp [hh]
theorem wdR_len (P : List (List UInt8)) (k : Nat) : (wdR P k).length ≤ k := by
  unfold wdR
  have h1 := List.length_filter_le (fun w : List UInt8 => !w.isEmpty) ((P.take k).map (fun w => (trimDot w).map lowB))
  simp only [List.length_map, List.length_take] at h1
  omega
theorem wdR_all (P : List (List UInt8)) : wdR P P.length = (P.map (fun w => (trimDot w).map lowB)).filter (fun w => !w.isEmpty) := by unfold wdR; rw [List.take_length]
theorem run_at (s : ByteArray) (i : Int) (k : Nat) (hi : i = k) (hk : k < s.size) (w : World) : Sem.run Tryz.prog (Instr.index 9 (.string s) (.int .i64 i)) w = .ok (.int .u8 s[k].toNat) w := by
  subst hi
  go_simp
theorem own_below5 {B : Nat} {e : TypeId} {k : Nat} {v : Value} {n : Nat} {xs : List Value} {w w' : World} (h : w.ownsRow B e k v n xs) (hb : Below w.heap.size w w') : w'.ownsRow B e k v n xs :=
  h.kept (row := none) ⟨hb.os, hb.tape, hb.output, hb.size, fun j hj _ => hb.block j hj⟩ (by cases hv : v.ownBlock <;> simp)
theorem info_u8 : (Tryz.prog.info? 5).map (fun i => (i.zero, i.size, i.bytes)) = some (some (.int .u8 0), 1, 1) := by kernel_rfl

set_option maxRecDepth 100000 in
set_option maxHeartbeats 1000000 in
theorem rwords_any (s : ByteArray) (w : World) (hs : s.size ≤ 1048576) :
    Calls Tryz.prog 86 #[.string s] w (SRes w (wordsP s.data.toList)) := by
  have hsp := split_any s w hs
  have HSL := Lib.hid (size_list s)
  have HR : Hid (wordsP s.data.toList = wdR (splitB 32 s.data.toList) (splitB 32 s.data.toList).length) := by show _ = _; rw [words_eq, wdR_all]; rfl
  have HPL : Hid (∀ p ∈ splitB 32 s.data.toList, p.length ≤ 1048576) := fun p hp => by have := split_mem 32 _ p hp; rw [size_list] at this; omega
  have hPN : (splitB 32 s.data.toList).length ≤ 1048577 := by
    rw [split_len]
    have := List.count_le_length (a := (32 : UInt8)) (l := s.data.toList)
    rw [size_list] at this
    omega
  generalize s.data.toList = l at *
  generalize splitB 32 l = P at *
  have HSP := Lib.hid hsp
  obtain ⟨i0, hi0, hz0, hz1, hz2⟩ := info_parts info_str
  have HII := Lib.hid (And.intro hi0 (And.intro hz0 (And.intro hz1 hz2)))
  obtain ⟨i8, hi80, hz80, hz81, hz82⟩ := info_parts info_u8
  have HI8 := Lib.hid (And.intro hi80 (And.intro hz80 (And.intro hz81 hz82)))
  clear hsp hi0 hz0 hz1 hz2 hi80 hz80 hz81 hz82
  go_enter Tryz.func86, Tryz.ntmps86
  go_wp2_with fail
  refine HSP.out.mono ?_
  rintro e w2 ⟨PA, pc2, rfl, hrd, hb2⟩
  have HB2 := Lib.hid hb2
  have HRD := Lib.hid hrd
  clear hb2 hrd HSP
  go_wp2_with fail
  go_loopw [3, 12] (fun v iv wr => ∃ j : Nat, j ≤ P.length ∧ iv = .int .i64 (j : Int) ∧ wr.ownsRow w2.heap.size 9 1 v (wdR P j).length (sc (wdR P j)) ∧ Below w2.heap.size w2 wr) (fun _ iv _ => P.length - (intOf iv).toNat)
  case atStart => exact ⟨0, Nat.zero_le _, rfl, ⟨rfl, .inl ⟨rfl, rfl⟩⟩, Below.refl _ _⟩
  case round =>
    obtain ⟨wo, rfl⟩ : ∃ wo : World, wo = wr := ⟨_, rfl⟩
    obtain ⟨j, hj, rfl, hown, hB⟩ := hrel
    by_cases hjl : j < P.length
    · obtain ⟨b, off, rfl, hbz, hc⟩ := (HRD.out.below hB).at_ (by rw [sc_len]; omega)
      have hcj := hc j _ (sc_at P j hjl)
      have HTS := Lib.hid (str_TrimSuffix ⟨P[j].toArray⟩ wo (by rw [size_mk]; exact HPL.out _ (List.getElem_mem hjl)))
      have HSU := Lib.hid (wdR_succ hjl)
      have hwl := wdR_len P j
      have hsz := hB.size
      have hql : (trimDot P[j]).length ≤ 1048576 := Nat.le_trans (trim_le _) (HPL.out _ (List.getElem_mem hjl))
      change Hid (Calls _ _ _ _ fun e w' => e = .returned (.string ⟨(trimDot P[j]).toArray⟩) ∧ wo = w') at HTS
      unfold sv at hcj
      generalize P[j] = p at *
      generalize trimDot p = q at *
      obtain ⟨t, ht⟩ : ∃ t : ByteArray, t = ⟨q.toArray⟩ := ⟨_, rfl⟩
      rw [← ht] at HTS
      have htq : t.data.toList = q := by rw [ht]
      have hts : t.size = q.length := by rw [← size_list, htq]
      have HTQ := Lib.hid htq
      have HTZ := Lib.hid hts
      have hts2 : t.size ≤ 1048576 := by omega
      have HB := Lib.hid hB
      have HOWN := Lib.hid hown
      clear hc hB hown ht htq hts
      go_wp2_with fail
      refine HTS.out.mono ?_
      rintro e w' ⟨rfl, rfl⟩
      go_wp2_with fail
      clear hcj HTS
      go_loopw [6, 20] (fun bv mv wx => ∃ m : Nat, m ≤ t.size ∧ mv = .int .i64 (m : Int) ∧ wx.ownsRow wo.heap.size 5 1 bv m (bc ((q.take m).map lowB)) ∧ Below wo.heap.size wo wx) (fun _ mv _ => t.size - (intOf mv).toNat)
      case atStart => exact ⟨0, Nat.zero_le _, rfl, ⟨rfl, .inl ⟨rfl, rfl⟩⟩, Below.refl _ _⟩
      case round =>
        obtain ⟨m, hm, rfl, hbo, hbb⟩ := hrel
        have hbsz := hbb.size
        by_cases hml : m < t.size
        · have hmq : m < q.length := by rw [← HTZ.out]; exact hml
          have hx := run_at t m m rfl hml
          have hxe : t[m] = q[m] := by
            have h1 : t.data.toList[m]? = q[m]? := by rw [HTQ.out]
            rw [List.getElem?_eq_getElem hmq, List.getElem?_eq_getElem (by rw [size_list]; exact hml)] at h1
            have h2 := Option.some.inj h1
            rw [← h2]; rfl
          rw [hxe] at hx
          have hub : (q[m].toNat : Int) < 256 := by have := q[m].toNat_lt; omega
          have hub0 : 0 ≤ (q[m].toNat : Int) := by omega
          have HTK : Hid ((q.take (m + 1)).map lowB = (q.take m).map lowB ++ [lowB q[m]]) := by show _ = _; rw [List.take_succ_eq_append_getElem hmq, List.map_append]; rfl
          obtain ⟨hi80, hz80, hz81, hz82⟩ := HI8.out
          by_cases h1 : 65 ≤ (q[m].toNat : Int) ∧ (q[m].toNat : Int) ≤ 90
          · obtain ⟨h1, h2⟩ := h1
            have HLW := Lib.hid (low_nat h1 h2)
            generalize (q[m].toNat : Int) = ch at *
            clear hxe
            go_wp2_with (at_builtin; refine wpList_append_own _ rfl _ _ 73 rfl wo.heap.size 5 i8 _ 1 1 Tryz.underlying73 hi80 hz80 hz81 hz82 rfl (by decide) _ _ _ rfl (hbo.alloc _) ⟨wr.heap.size, 0, none⟩ 1 1 [.int .u8 (ch + 32)] rfl rfl (World.news_of_block (cs := #[.int .u8 (ch + 32)]) (t := 5) (fr := (0, 0)) (heap_alloc_new wr _)) (by simp [Value.oneCell']) (by unfold maxLen; omega) (by omega) (by simp; omega) ?_; intro v1 w5 hown5 hgrow5 _)
            have hB5 := below_app' hbb hbsz hbo hgrow5
            go_roundw
            case rel => exact ⟨m + 1, by omega, by go_num, owns_eq hown5 rfl (by rw [HTK.out, bc_append]; simp [bc, HLW.out]), hB5⟩
            case measure => simp [intOf]; omega
          · have HLW : Hid (((lowB q[m]).toNat : Int) = (q[m].toNat : Int)) := by show _ = _; rw [low_f h1]
            have hcase : ¬ 65 ≤ (q[m].toNat : Int) ∨ (65 ≤ (q[m].toNat : Int) ∧ ¬ (q[m].toNat : Int) ≤ 90) := by omega
            generalize (q[m].toNat : Int) = ch at *
            clear hxe h1
            rcases hcase with h2 | ⟨h2, h3⟩
            all_goals
              go_wp2_with (at_builtin; refine wpList_append_own _ rfl _ _ 73 rfl wo.heap.size 5 i8 _ 1 1 Tryz.underlying73 hi80 hz80 hz81 hz82 rfl (by decide) _ _ _ rfl (hbo.alloc _) ⟨wr.heap.size, 0, none⟩ 1 1 [.int .u8 ch] rfl rfl (World.news_of_block (cs := #[.int .u8 ch]) (t := 5) (fr := (0, 0)) (heap_alloc_new wr _)) (by simp [Value.oneCell']) (by unfold maxLen; omega) (by omega) (by simp; omega) ?_; intro v1 w5 hown5 hgrow5 _)
              have hB5 := below_app' hbb hbsz hbo hgrow5
              go_roundw
              case rel => exact ⟨m + 1, by omega, by go_num, owns_eq hown5 rfl (by rw [HTK.out, bc_append]; simp [bc, HLW.out]), hB5⟩
              case measure => simp [intOf]; omega
        · have hmq : m = q.length := by rw [← HTZ.out]; omega
          rw [hmq, List.take_length] at hbo
          have hqm : (q.map lowB).length = q.length := by simp
          have hbo2 : wr.ownsRow wo.heap.size 5 1 u6 (q.map lowB).length (bc (q.map lowB)) := by rw [hqm]; exact hbo
          have hst := run_string_own (P := Tryz.prog) wr 73 9 5 wo.heap.size u6 (q.map lowB) Tryz.underlying73 Tryz.underlying5 Tryz.underlying9 hbo2
          have hownw := own_below5 HOWN.out hbb
          have hB6 : Below w2.heap.size w2 wr := HB.out.trans (hbb.mono HB.out.size)
          have HB6 := Lib.hid hB6
          have hsz6 := hB6.size
          obtain ⟨bA, bcap, rfl⟩ := slice_of_own hbo
          have hd : ¬ m < t.size := hml
          by_cases hq : q = []
          · have HSU2 : Hid (wdR P (j + 1) = wdR P j) := by show _ = _; rw [HSU.out, hq]; simp
            have hq0 : q.length = 0 := by rw [hq]; rfl
            have hq1 : ¬ (0 < q.length) := by omega
            clear HSU hq hbo hbo2 hst hmq hqm hB6
            go_wp2_with fail
            go_roundw
            case rel => exact ⟨j + 1, by omega, by go_num, by rw [HSU2.out]; exact hownw, HB6.out⟩
            case measure => simp [intOf]; omega
          · have hqe : q.isEmpty = false := by simpa using hq
            have HSU2 : Hid (wdR P (j + 1) = wdR P j ++ [q.map lowB]) := by show _ = _; rw [HSU.out, hqe]; rfl
            have hq1 : 0 < q.length := List.length_pos_iff.2 hq
            obtain ⟨hi0, hz0, hz1, hz2⟩ := HII.out
            generalize q.map lowB = ql at *
            clear HSU hq hbo hbo2 hmq hqm hB6 hqe
            go_wp2_with (at_builtin; refine wpList_append_own _ rfl _ _ 44 rfl w2.heap.size 9 i0 _ 1 16 Tryz.underlying44 hi0 hz0 hz1 hz2 rfl (by decide) _ _ _ rfl (hownw.alloc _) ⟨wr.heap.size, 0, none⟩ 1 1 [sv ql] rfl rfl (World.news_of_block (cs := #[sv ql]) (t := 9) (fr := (0, 0)) (heap_alloc_new wr _)) (by simp [Value.oneCell', sv]) (by unfold maxLen; omega) (by omega) (by simp; omega) ?_; intro v1 w5 hown5 hgrow5 _)
            have hB5 := below_app' HB6.out hsz6 hownw hgrow5
            go_roundw
            case rel => exact ⟨j + 1, by omega, by go_num, owns_eq hown5 (by rw [HSU2.out]; simp) (by rw [HSU2.out, sc_app]; rfl), hB5⟩
            case measure => simp [intOf]; omega
    · have hjP : j = P.length := by omega
      obtain ⟨A2, c2, rfl⟩ := slice_of_own hown
      have HRD2 := Lib.hid (Rd.of_own hown)
      have HBF := Lib.hid (HB2.out.trans (hB.mono HB2.out.size))
      rw [hjP] at HRD2
      have HJP := Lib.hid hjP
      have hd2 : ¬ j < P.length := hjl
      clear hown hB hjP
      go_wp2_with fail
      go_ret
      refine ⟨A2, c2, ?_, by rw [HR.out]; exact HRD2.out, HBF.out⟩
      rw [HR.out, ← HJP.out]; rfl
end Go.Proofs.YtnpdekgmiphagaaGreatDoor
