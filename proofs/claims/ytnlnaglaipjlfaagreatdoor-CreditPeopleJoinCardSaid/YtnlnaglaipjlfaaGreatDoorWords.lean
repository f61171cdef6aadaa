/- The contract of credit.words. -/
import Derived.Test.YtnlnaglaipjlfaaGreatDoorSplit
import Derived.Lib.ConvBytes
namespace Go.Proofs.YtnlnaglaipjlfaaGreatDoor
open Go.RowKit Go.Dw

/-- block g holds the bytes l, and they may be written -/
def BRow (w : World) (g : Nat) (l : List UInt8) : Prop := g < w.heap.size ∧ ∀ j (h : j < l.length), w.cell? ⟨g, j, none⟩ = some (.int .u8 (l[j].toNat : Int)) ∧ w.frozen? ⟨g, j, none⟩ = false
theorem BRow.set {w : World} {g : Nat} {l : List UInt8} (h : BRow w g l) (k : Nat) (c : UInt8) : BRow (w.setCell ⟨g, k, none⟩ (.int .u8 (c.toNat : Int))) g (l.set k c) := by
  refine ⟨by simpa [World.setCell] using h.1, fun j hj => ?_⟩
  have hj' : j < l.length := by simpa using hj
  obtain ⟨h1, h2⟩ := h.2 j hj'
  constructor
  · by_cases he : k = j
    · subst he
      rw [List.getElem_set_self]
      have := World.block_lt_of_cell? w _ h1
      simp only [World.cell?, World.setCell] at h1 ⊢
      rw [Array.getElem?_modify]
      simp only [if_true]
      cases hg : w.heap[g]? with
      | none => rw [hg] at h1; cases h1
      | some o =>
        rw [hg] at h1
        cases o with
        | cells c0 t0 f0 =>
          simp only [Option.isSome_none, Bool.false_eq_true, if_false] at h1
          have hb := (Array.getElem?_eq_some_iff.1 h1).1
          simp [hb]
        | _ => simp at h1
    · rw [List.getElem_set_ne he]
      simp only [World.cell?, World.setCell] at h1 ⊢
      rw [Array.getElem?_modify]
      simp only [if_true]
      cases hg : w.heap[g]? with
      | none => rw [hg] at h1; cases h1
      | some o =>
        rw [hg] at h1
        cases o <;> simp_all
  · simp only [World.frozen?, World.setCell] at h2 ⊢
    rw [Array.getElem?_modify]
    simp only [if_true]
    cases hg : w.heap[g]? with
    | none => rfl
    | some o =>
      rw [hg] at h2
      cases o <;> simp_all
theorem BRow.new (w : World) (e : TypeId) (s : ByteArray) : BRow (Lib.bytesWorld w e s) w.heap.size s.data.toList ∧ Below w.heap.size w (Lib.bytesWorld w e s) := by
  refine ⟨⟨by rw [Lib.bytesWorld_size]; omega, fun j hj => ?_⟩, ?_⟩
  · have hj' : j < s.size := by rwa [size_list] at hj
    refine ⟨?_, ?_⟩
    · rw [Lib.bytesWorld_cell w e s j hj', List.getD_eq_getElem?_getD, List.getElem?_eq_getElem hj]; rfl
    · have := Lib.bytesWorld_at_new w e s
      simp only [World.frozen?, this]
      have hsz : s.size ≤ (Lib.bytesCells w e s).size := by
        unfold Lib.bytesCells
        simp only [Array.size_append, Array.size_map]
        have : s.data.size = s.size := rfl
        omega
      simp; omega
  · refine ⟨?_, ?_, ?_, by rw [Lib.bytesWorld_size]; omega, fun j hj => Lib.bytesWorld_at_old w e s j hj⟩
    · unfold Lib.bytesWorld World.freeze; split <;> rfl
    · unfold Lib.bytesWorld World.freeze; split <;> rfl
    · unfold Lib.bytesWorld World.freeze; split <;> rfl
/-- string(b) -/
theorem run_back {P : Program} {w : World} {g cap : Nat} {l : List UInt8} (h : BRow w g l) (src dst e : TypeId) (hs : P.underlying src = some (.slice e)) (he : P.underlying e = some (.int .u8)) (hd : P.underlying dst = some .string) :
    (convert src dst (.slice (some ⟨g, 0, none⟩) l.length cap)).run P w = .ok (.string ⟨l.toArray⟩) w := by
  refine run_convert_bytes_back w src dst e _ cap l hs he hd fun j hj => ?_
  have hadd : (⟨g, 0, none⟩ : Addr).add j = ⟨g, j, none⟩ := by unfold Addr.add; split <;> simp_all
  rw [hadd]; exact (h.2 j hj).1
theorem low_t {c : UInt8} (h1 : 65 ≤ (c.toNat : Int)) (h2 : (c.toNat : Int) ≤ 90) : lowB c = c + 32 := by
  unfold lowB; rw [if_pos]
  constructor <;> (rw [UInt8.le_iff_toNat_le]; simp; omega)
theorem low_f {c : UInt8} (h : ¬ (65 ≤ (c.toNat : Int) ∧ (c.toNat : Int) ≤ 90)) : lowB c = c := by
  unfold lowB; rw [if_neg]
  rintro ⟨h1, h2⟩
  rw [UInt8.le_iff_toNat_le] at h1 h2
  simp at h1 h2; omega
theorem low_nat {c : UInt8} (h1 : 65 ≤ (c.toNat : Int)) (h2 : (c.toNat : Int) ≤ 90) : ((lowB c).toNat : Int) = c.toNat + 32 := by
  rw [low_t h1 h2, UInt8.toNat_add]; simp; omega
/-- after k rounds -/
def lowTo (l : List UInt8) (k : Nat) : List UInt8 := (l.take k).map lowB ++ l.drop k
theorem lowTo_len (l : List UInt8) (k : Nat) : (lowTo l k).length = l.length := by simp [lowTo]; omega
theorem lowTo_at {l : List UInt8} {k : Nat} (h : k < l.length) : (lowTo l k)[k]'(by rw [lowTo_len]; exact h) = l[k] := by
  unfold lowTo
  rw [List.getElem_append_right (by simp; omega)]
  simp [Nat.min_eq_left (Nat.le_of_lt h)]
theorem lowTo_succ {l : List UInt8} {k : Nat} (h : k < l.length) : lowTo l (k + 1) = (lowTo l k).set k (lowB l[k]) := by
  unfold lowTo
  have hA : ((l.take k).map lowB).length = k := by simp; omega
  rw [List.set_append_right _ _ (by omega), hA, Nat.sub_self, show l.drop k = l[k] :: l.drop (k + 1) from List.drop_eq_getElem_cons h, List.set_cons_zero, List.take_succ_eq_append_getElem h, List.map_append, List.append_assoc]
  rfl
theorem lowTo_same {l : List UInt8} {k : Nat} (h : k < l.length) (hc : lowB l[k] = l[k]) : lowTo l (k + 1) = lowTo l k := by
  rw [lowTo_succ h, hc]
  have := lowTo_at h
  conv => lhs; rw [← this]
  rw [List.set_getElem_self]
theorem lowTo_all (l : List UInt8) : lowTo l l.length = l.map lowB := by simp [lowTo]

theorem split_mem (z : UInt8) : ∀ (l p : List UInt8), p ∈ splitB z l → p.length ≤ l.length
  | [], p, h => by simp [splitB] at h; subst h; simp
  | c :: r, p, h => by
    unfold splitB at h
    split at h
    · rcases List.mem_cons.1 h with h | h
      · subst h; simp
      · have := split_mem z r p h; simp; omega
    · split at h
      · simp at h; subst h; simp
      · rename_i q1 q2 hq
        rcases List.mem_cons.1 h with h | h
        · subst h
          have := split_mem z r q1 (by rw [hq]; simp)
          simp; omega
        · have := split_mem z r p (by rw [hq]; simp [h]); simp; omega
/-- the words of the first k pieces -/
def wdTo (P : List (List UInt8)) (k : Nat) : List (List UInt8) := ((P.take k).map trimDot).filter (fun w => !w.isEmpty)
theorem wdTo_succ {P : List (List UInt8)} {k : Nat} (h : k < P.length) : wdTo P (k + 1) = wdTo P k ++ (if (trimDot P[k]).isEmpty then [] else [trimDot P[k]]) := by
  unfold wdTo
  rw [List.take_succ_eq_append_getElem h, List.map_append, List.filter_append]
  by_cases hh : (trimDot P[k]).isEmpty <;> simp [hh]
theorem wdTo_len (P : List (List UInt8)) (k : Nat) : (wdTo P k).length ≤ k := by
  unfold wdTo
  have h1 := List.length_filter_le (fun w : List UInt8 => !w.isEmpty) ((P.take k).map trimDot)
  simp only [List.length_map, List.length_take] at h1
  omega
theorem wdTo_all (P : List (List UInt8)) : wdTo P P.length = (P.map trimDot).filter (fun w => !w.isEmpty) := by unfold wdTo; rw [List.take_length]
theorem toList_mk (l : List UInt8) : (⟨l.toArray⟩ : ByteArray).toList = l := by rw [ByteArray.toList_eq]
theorem size_mk (l : List UInt8) : (⟨l.toArray⟩ : ByteArray).size = l.length := by rw [← size_list]

theorem rds_base {w : World} {base e size n c : Nat} {A : Option Addr} {xs : List Value} (h : w.ownsRow base e size (.slice A n c) n xs) : RdS (fun b => base ≤ b) w A xs := by
  rcases Rd.of_own h with h1 | ⟨b, off, h1, h2, h3⟩
  · exact .inl h1
  · subst h1
    exact .inr ⟨b, off, rfl, (h.lt b rfl).1, h2, h3⟩
def SResO (w : World) (ls : List (List UInt8)) (e : Ending) (w' : World) : Prop := ∃ A c, e = .returned (.slice A ls.length c) ∧ RdS (fun b => w.heap.size ≤ b) w' A (sc ls) ∧ Below w.heap.size w w'
set_option maxRecDepth 100000 in
set_option maxHeartbeats 1000000 in
theorem words_own (s : ByteArray) (w : World) (hs : s.size ≤ 1048576) :
    Calls Tryz.prog 53 #[.string s] w (SResO w (wordsP s.data.toList)) := by
  have hcv := Lib.run_convert_string_bytes (P := Tryz.prog) w 9 107 5 s Tryz.underlying9 Tryz.underlying107 Tryz.underlying5
  obtain ⟨hbr, hbl⟩ := BRow.new w 5 s
  generalize Lib.bytesWorld w 5 s = wb at *
  generalize grownCap w s.size 0 5 = cp at *
  have HSL := Lib.hid (size_list s)
  obtain ⟨l, hl⟩ : ∃ l, s.data.toList = l := ⟨_, rfl⟩
  rw [hl] at hbr HSL ⊢
  obtain ⟨i0, hi0, hz0, hz1, hz2⟩ := info_parts info_str
  have HII := Lib.hid (And.intro hi0 (And.intro hz0 (And.intro hz1 hz2)))
  clear hl hi0 hz0 hz1 hz2
  go_enter Tryz.func53, Tryz.ntmps53
  go_wp2_with fail
  clear hcv
  go_loopw [13] (fun iv wr => ∃ k : Nat, k ≤ s.size ∧ iv = .int .i64 (k : Int) ∧ BRow wr w.heap.size (lowTo l k) ∧ Below w.heap.size w wr) (fun iv _ => s.size - (intOf iv).toNat)
  case atStart => exact ⟨0, Nat.zero_le _, rfl, by simpa [lowTo] using hbr, hbl⟩
  case round =>
    clear hbr hbl
    obtain ⟨k, hk, rfl, hbr, hbl⟩ := hrel
    by_cases hkl : k < s.size
    · have hkl2 : k < l.length := by rw [HSL.out]; exact hkl
      obtain ⟨hc, hfz⟩ := hbr.2 k (by rw [lowTo_len]; exact hkl2)
      rw [lowTo_at hkl2] at hc
      have hgz := hbr.1
      have hub : (l[k].toNat : Int) < 256 := by have := l[k].toNat_lt; omega
      by_cases h1 : 65 ≤ (l[k].toNat : Int) ∧ (l[k].toNat : Int) ≤ 90
      · obtain ⟨h1, h2⟩ := h1
        have HN : Hid (BRow (wr.setCell ⟨w.heap.size, k, none⟩ (.int .u8 ((l[k].toNat : Int) + 97 - 65))) w.heap.size (lowTo l (k + 1))) := by
          show BRow _ _ _
          rw [lowTo_succ hkl2, show (l[k].toNat : Int) + 97 - 65 = (lowB l[k]).toNat by rw [low_nat h1 h2]; omega]; exact hbr.set k _
        have HBL : Hid (Below w.heap.size w (wr.setCell ⟨w.heap.size, k, none⟩ (.int .u8 ((l[k].toNat : Int) + 97 - 65)))) := Below.setCell (p := ⟨w.heap.size, k, none⟩) hbl (Nat.le_refl _) _
        generalize (l[k].toNat : Int) = ch at *
        clear hbr hbl
        go_wp2_with fail
        go_roundw
        case rel => exact ⟨k + 1, by omega, by go_num, HN.out, HBL.out⟩
        case measure => simp [intOf]; omega
      · have HN : Hid (BRow wr w.heap.size (lowTo l (k + 1))) := by
          show BRow _ _ _
          rw [lowTo_same hkl2 (low_f h1)]; exact hbr
        have HBL := Lib.hid hbl
        generalize (l[k].toNat : Int) = ch at *
        clear hbr hbl
        by_cases h2 : 65 ≤ ch
        · have h3 : ¬ ch ≤ 90 := fun h => h1 ⟨h2, h⟩
          go_wp2_with fail
          go_roundw
          case rel => exact ⟨k + 1, by omega, by go_num, HN.out, HBL.out⟩
          case measure => simp [intOf]; omega
        · go_wp2_with fail
          go_roundw
          case rel => exact ⟨k + 1, by omega, by go_num, HN.out, HBL.out⟩
          case measure => simp [intOf]; omega
    · have hks : k = s.size := by omega
      have hall : lowTo l k = l.map lowB := by rw [hks, ← HSL.out]; exact lowTo_all l
      rw [hall] at hbr
      have hback := run_back (P := Tryz.prog) (cap := cp) hbr 107 9 5 Tryz.underlying107 Tryz.underlying5 Tryz.underlying9
      have hml : (l.map lowB).length = s.size := by rw [List.length_map]; exact HSL.out
      rw [hml] at hback
      have hsp := split_any ⟨(l.map lowB).toArray⟩ wr (by rw [size_mk, hml]; exact hs)
      have HR : Hid (wordsP l = wdTo (splitB 32 (l.map lowB)) (splitB 32 (l.map lowB)).length) := by show _ = _; rw [wdTo_all]; rfl
      have HPL : Hid (∀ p ∈ splitB 32 (l.map lowB), p.length ≤ 1048576) := fun p hp => by have := split_mem 32 _ p hp; rw [hml] at this; omega
      have hPN : (splitB 32 (l.map lowB)).length ≤ 1048577 := by
        rw [split_len]
        have := List.count_le_length (a := (32 : UInt8)) (l := l.map lowB)
        omega
      change Calls _ _ _ _ (SRes wr (splitB 32 (l.map lowB))) at hsp
      generalize l.map lowB = lw at *
      generalize splitB 32 lw = P at *
      have HSP := Lib.hid hsp
      have HBL := Lib.hid hbl
      have hd : ¬ k < s.size := hkl
      clear hks hall hbr hsp hbl hml
      go_wp2_with fail
      refine HSP.out.mono ?_
      rintro e w2 ⟨PA, pc2, rfl, hrd, hb2⟩
      have HB2 := Lib.hid (HBL.out.trans (hb2.mono HBL.out.size))
      have HRD := Lib.hid hrd
      clear hb2 hrd hback HSP HBL
      go_wp2_with fail
      go_loopw [6, 35] (fun v iv wr => ∃ j : Nat, j ≤ P.length ∧ iv = .int .i64 (j : Int) ∧ wr.ownsRow w2.heap.size 9 1 v (wdTo P j).length (sc (wdTo P j)) ∧ Below w2.heap.size w2 wr) (fun _ iv _ => P.length - (intOf iv).toNat)
      case atStart => exact ⟨0, Nat.zero_le _, rfl, ⟨rfl, .inl ⟨rfl, rfl⟩⟩, Below.refl _ _⟩
      case round =>
        obtain ⟨j, hj, rfl, hown, hB⟩ := hrel
        by_cases hjl : j < P.length
        · obtain ⟨b, off, rfl, hbz, hc⟩ := (HRD.out.below hB).at_ (by rw [sc_len]; omega)
          have hcj := hc j _ (sc_at P j hjl)
          have HTS := Lib.hid (str_TrimSuffix ⟨P[j].toArray⟩ wr (by rw [size_mk]; exact HPL.out _ (List.getElem_mem hjl)))
          have HSU := Lib.hid (wdTo_succ hjl)
          have hwl := wdTo_len P j
          have hsz := hB.size
          change Hid (Calls _ _ _ _ fun e w' => e = .returned (.string ⟨(trimDot P[j]).toArray⟩) ∧ wr = w') at HTS
          unfold sv at hcj
          generalize P[j] = p at *
          generalize trimDot p = q at *
          have HB := Lib.hid hB
          clear hc hB
          by_cases hq : q = []
          · subst hq
            have HSU2 : Hid (wdTo P (j + 1) = wdTo P j) := by show _ = _; rw [HSU.out]; simp
            clear HSU
            go_wp2_with fail
            refine HTS.out.mono ?_
            rintro e w' ⟨rfl, rfl⟩
            go_wp2_with fail
            go_roundw
            case rel => exact ⟨j + 1, by omega, by go_num, by rw [HSU2.out]; exact hown, HB.out⟩
            case measure => simp [intOf]; omega
          · have hqe : q.isEmpty = false := by simpa using hq
            have HSU2 : Hid (wdTo P (j + 1) = wdTo P j ++ [q]) := by show _ = _; rw [HSU.out, hqe]; rfl
            obtain ⟨hi0, hz0, hz1, hz2⟩ := HII.out
            have hq1 : ((⟨q.toArray⟩ : ByteArray).toList.isEmpty) = false := by rw [toList_mk]; exact hqe
            have hq2 : ¬ ((⟨q.toArray⟩ : ByteArray).toList = []) := by rw [toList_mk]; exact hq
            clear HSU
            go_wp2_with fail
            refine HTS.out.mono ?_
            rintro e w' ⟨rfl, rfl⟩
            go_wp2_with (at_builtin; refine wpList_append_own _ rfl _ _ 35 rfl w2.heap.size 9 i0 _ 1 16 Tryz.underlying35 hi0 hz0 hz1 hz2 rfl (by decide) _ _ _ rfl (hown.alloc _) ⟨wr.heap.size, 0, none⟩ 1 1 [sv q] rfl rfl (World.news_of_block (cs := #[sv q]) (t := 9) (fr := (0, 0)) (heap_alloc_new wr _)) (by simp [Value.oneCell', sv]) (by unfold maxLen; omega) (by omega) (by simp; omega) ?_; intro v1 w5 hown5 hgrow5 _)
            have hB5 := below_app' HB.out hsz hown hgrow5
            go_roundw
            case rel => exact ⟨j + 1, by omega, by go_num, owns_eq hown5 (by rw [HSU2.out]; simp) (by rw [HSU2.out, sc_app]; rfl), hB5⟩
            case measure => simp [intOf]; omega
        · have hjP : j = P.length := by omega
          obtain ⟨A2, c2, rfl⟩ := slice_of_own hown
          have HRD2 := Lib.hid ((rds_base hown).mono (S' := fun b => w.heap.size ≤ b) (fun b _ hb => Nat.le_trans HB2.out.size hb))
          have HBF := Lib.hid (HB2.out.trans (hB.mono HB2.out.size))
          rw [hjP] at HRD2
          have HJP := Lib.hid hjP
          have hd2 : ¬ j < P.length := hjl
          clear hown hB hjP
          go_wp2_with fail
          go_ret
          refine ⟨A2, c2, ?_, by rw [HR.out]; exact HRD2.out, HBF.out⟩
          rw [HR.out, ← HJP.out]; rfl
theorem words_any (s : ByteArray) (w : World) (hs : s.size ≤ 1048576) :
    Calls Tryz.prog 53 #[.string s] w (SRes w (wordsP s.data.toList)) :=
  (words_own s w hs).mono fun _ _ ⟨A, c, he, hr, hb⟩ => ⟨A, c, he, hr.rd, hb⟩
theorem trim_le (p : List UInt8) : (trimDot p).length ≤ p.length := by
  unfold trimDot; split
  · simp
  · exact Nat.le_refl _
end Go.Proofs.YtnlnaglaipjlfaaGreatDoor
