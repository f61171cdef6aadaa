/- The contract of credit.readLine. -/
import Derived.Test.YtckakleiaccffaaDoorRdW
import Derived.Test.YtckakleiaccffaaDoorShAtoi
import Derived.Test.YtckakleiaccffaaDoorSep44
import Derived.Test.YtckakleiaccffaaDoorSep124
import Derived.Test.YtckakleiaccffaaDoorCrP
import Derived.Test.YtckakleiaccffaaDoorNumP
import Derived.Deep.DeepCutAuto
import Derived.Deep.CutBlock
import Derived.RegionTactic
namespace Go.Proofs.YtckakleiaccffaaDoor
open Go.RowKit Go.Dw

def crZero : Value := .agg #[.string ⟨#[]⟩, .string ⟨#[]⟩, .string ⟨#[]⟩, .slice none 0 0, .int .i64 0]
/-- what readLine says of a line -/
def LinePost (w : World) (l : List UInt8) (e : Ending) (w' : World) : Prop :=
  Below w.heap.size w w' ∧ match lineF l with
    | none => e = .returned (.tuple #[crZero, .bool false])
    | some c => ∃ s : Slc ByteArray, s.xs = c.l ∧ e = .returned (.tuple #[.agg (Crd.cs ⟨c.r, c.p, c.n, s, c.m⟩).toArray, .bool true]) ∧ RdS (fun b => w.heap.size ≤ b) w' s.a (sb s.xs)
theorem linePost_none {w w' : World} {l : List UInt8} {e : Ending} (h : lineF l = none) (hb : Below w.heap.size w w') (he : e = .returned (.tuple #[crZero, .bool false])) : LinePost w l e w' := by
  unfold LinePost; rw [h]; exact ⟨hb, he⟩
theorem linePost_some {w w' : World} {l : List UInt8} {e : Ending} {r p n : ByteArray} {i : List ByteArray} {m : Int} (h : lineF l = some ⟨r, p, n, i, m⟩) (s : Slc ByteArray) (hs : s.xs = i) (hb : Below w.heap.size w w') (hr : RdS (fun b => w.heap.size ≤ b) w' s.a (sb s.xs))
    (he : e = .returned (.tuple #[.agg (Crd.cs ⟨r, p, n, s, m⟩).toArray, .bool true]) := by rfl) : LinePost w l e w' := by
  unfold LinePost; rw [h]; exact ⟨hb, s, hs, he, hr⟩
theorem lineF_len {l : List UInt8} (h : (splitB 124 l).length ≠ 5) : lineF l = none := by unfold lineF; rw [if_pos h]
theorem lineF_num {l : List UInt8} (h : (splitB 124 l).length = 5) (hn : numF ((splitB 124 l).getD 4 []) = none) : lineF l = none := by
  unfold lineF; rw [if_neg (by omega), hn]; rfl
theorem lineF_ok {l : List UInt8} {n : Nat} (h : (splitB 124 l).length = 5) (hn : numF ((splitB 124 l).getD 4 []) = some n) :
    lineF l = some ⟨mkB ((splitB 124 l).getD 0 []), mkB ((splitB 124 l).getD 2 []), mkB ((splitB 124 l).getD 1 []), insL ((splitB 124 l).getD 3 []), (n : Int)⟩ := by
  unfold lineF; rw [if_neg (by omega), hn]; rfl
theorem trimD_any (s : ByteArray) (w : World) (hs : s.size ≤ 9223372036854775807) :
    Calls Tryd.prog 30 #[.string s, .string digCs] w fun e w' => e = .returned (.string ⟨(Lib.trimS s.data.toList digCs.data.toList).toArray⟩) ∧ Below w.heap.size w w' :=
  Any.strings_Trim_laid Tryd.lays160 (by kernel_rfl) s digCs w hs (by decide) (ascii_of_all (by decide))
theorem atoi_any (s : ByteArray) (w : World) (hn : s.data.toList ≠ []) (h : s.data.toList.all isD = true) (hs : s.size ≤ 18) :
    Calls Tryd.prog 31 #[.string s] w fun e w' => e = .returned (.tuple #[.int .i64 (valD s.data.toList : Int), .nilIface]) ∧ Below w.heap.size w w' :=
  (Any.strconv_Atoi Tryd.lays172 s _ hs (atoi_val hn h) w).mono fun _ _ ⟨h1, t, h2⟩ => ⟨h1, by rw [h2]; exact (BRow.new w _ t).2⟩

set_option maxRecDepth 100000 in
set_option maxHeartbeats 4000000 in
theorem line_any (s : ByteArray) (w : World) (hs : s.size ≤ 1000000) :
    Calls Tryd.prog 17 #[.string s] w (LinePost w s.data.toList) := by
  obtain ⟨w0, hw0⟩ : ∃ w0, w0 = w.alloc (.cells #[.string ⟨#[]⟩, .string ⟨#[]⟩, .string ⟨#[]⟩, .slice none 0 0, .int .i64 0] 38) := ⟨_, rfl⟩
  have HB0 : Hid (Below w.heap.size w w0) := by rw [hw0]; exact (Below.refl _ _).alloc (Nat.le_refl _) _
  have HK0 : Hid (Blk w0 w.heap.size 38 [.string ⟨#[]⟩, .string ⟨#[]⟩, .string ⟨#[]⟩, .slice none 0 0, .int .i64 0]) := by rw [hw0]; exact Blk.new w _ _
  have hz0 : w.heap.size < w0.heap.size := by rw [hw0]; simp
  have HSP := Lib.hid (split_any124 s w0 (by omega))
  have HLB : Hid ((splitB 124 s.data.toList).length ≤ s.size + 1) := by show _ ≤ _; have := split_le 124 s.data.toList; rw [size_list] at this; exact this
  have HPL : Hid (∀ k, ((splitB 124 s.data.toList).getD k []).length ≤ s.size) := fun k => by have := piece_le (z := 124) (l := s.data.toList) k; rw [size_list] at this; exact this
  have HL1 := Lib.hid (fun h => lineF_len (l := s.data.toList) h)
  have HL2 := Lib.hid (fun h hn => lineF_num (l := s.data.toList) h hn)
  have HL3 := Lib.hid (fun (n : Nat) h hn => lineF_ok (l := s.data.toList) (n := n) h hn)
  have HW0 := Lib.hid hw0
  clear hw0
  generalize splitB 124 s.data.toList = P at *
  go_enter Tryd.func17, Tryd.ntmps17
  go_upto_region 1 with (fail)
  rw [← HW0.out]
  go_wp2_with fail
  refine HSP.out.mono ?_
  rintro e w1 ⟨b, c, hle, rfl, hr, hb1⟩
  have HB1 := Lib.hid (HB0.out.trans (hb1.mono HB0.out.size))
  have HK1 : Hid (Blk w1 w.heap.size 38 [.string ⟨#[]⟩, .string ⟨#[]⟩, .string ⟨#[]⟩, .slice none 0 0, .int .i64 0]) := HK0.out.same (Same.of_below (S := fun _ => True) hb1) trivial
  have HR := Lib.hid hr
  clear hr hb1
  by_cases h5 : P.length = 5
  case neg =>
    have hd : ((P.length : Int) != 5) = true := by simp; omega
    have f0 := HK1.out.frozen 0
    have f1 := HK1.out.frozen 1
    have f2 := HK1.out.frozen 2
    have f3 := HK1.out.frozen 3
    have f4 := HK1.out.frozen 4
    have d0 : w1.cell? ⟨w.heap.size, 0, none⟩ = some _ := HK1.out.cell 0
    have d1 : w1.cell? ⟨w.heap.size, 1, none⟩ = some _ := HK1.out.cell 1
    have d2 : w1.cell? ⟨w.heap.size, 2, none⟩ = some _ := HK1.out.cell 2
    have d3 : w1.cell? ⟨w.heap.size, 3, none⟩ = some _ := HK1.out.cell 3
    have d4 : w1.cell? ⟨w.heap.size, 4, none⟩ = some _ := HK1.out.cell 4
    go_wp2_with fail
    refine bodyPost_ret (v := .tuple #[crZero, .bool false]) (by simp [results, Tryd.results17, go_sem, crZero, d0, d1, d2, d3, d4]) rfl ?_
    refine linePost_none (HL1.out h5) ?_ rfl
    refine ((((HB1.out.setCell ?_ _).setCell ?_ _).setCell ?_ _).setCell ?_ _).setCell ?_ _ <;> exact Nat.le_refl _
  have hdz : ((P.length : Int) != 5) = false := by simp; omega
  obtain ⟨p0, p1, p2, p3, p4, rfl⟩ : ∃ p0 p1 p2 p3 p4, P = [p0, p1, p2, p3, p4] := by
    match P, h5 with
    | [a, b, c, d, e], _ => exact ⟨a, b, c, d, e, rfl⟩
  obtain ⟨b', off, hA, hbl, hcs⟩ := HR.out.at_ (by rw [sc_len]; simp)
  obtain ⟨rfl, rfl⟩ : b = b' ∧ off = 0 := by injection hA with hA; injection hA with h1 h2; exact ⟨h1, h2.symm⟩
  have c0 : w1.cell? ⟨b, 0, none⟩ = some (.string (mkB p0)) := hcs 0 _ rfl
  have c1 : w1.cell? ⟨b, 1, none⟩ = some (.string (mkB p1)) := hcs 1 _ rfl
  have c2 : w1.cell? ⟨b, 2, none⟩ = some (.string (mkB p2)) := hcs 2 _ rfl
  have c3 : w1.cell? ⟨b, 3, none⟩ = some (.string (mkB p3)) := hcs 3 _ rfl
  have c4 : w1.cell? ⟨b, 4, none⟩ = some (.string (mkB p4)) := hcs 4 _ rfl
  have z4 : (mkB p4).size ≤ 1000000 := by rw [mkB_size]; have := HPL.out 4; simp at this; omega
  have z3 : (mkB p3).size ≤ 1000000 := by rw [mkB_size]; have := HPL.out 3; simp at this; omega
  have e4 : (mkB p4).data.toList = p4 := by simp [mkB]
  have e3 : (mkB p3).data.toList = p3 := by simp [mkB]
  replace HL2 := Lib.hid (fun hn => HL2.out rfl hn)
  replace HL3 := Lib.hid (fun n hn => HL3.out n rfl hn)
  simp only [List.getD_cons_zero, List.getD_cons_succ] at HL2 HL3
  rw [← e4] at HL2 HL3
  rw [← e3] at HL3
  have HE3 : Hid (insL (mkB p3).data.toList = if (mkB p3).data.toList = [] then [] else (splitB 44 (mkB p3).data.toList).map mkB) := rfl
  have HSP3 := Lib.hid (fun (W : World) => split_any44 (mkB p3) W (by omega))
  have hz1 : w0.heap.size ≤ w1.heap.size := by have := HB1.out.size; exact Nat.le_trans hle (Nat.le_of_lt hbl)
  clear hcs hA h5 HL1 HLB HPL e3 e4 HR HSP
  simp only [List.length_cons, List.length_nil] at hdz ⊢
  generalize mkB p0 = t0 at *
  generalize mkB p1 = t1 at *
  generalize mkB p2 = t2 at *
  generalize mkB p3 = t3 at *
  generalize mkB p4 = t4 at *
  go_upto_region 5 with (fail)
  obtain ⟨nb, hnb⟩ : ∃ nb, (numF t4.data.toList).isNone = nb := ⟨_, rfl⟩
  have HNB := Lib.hid hnb
  have HNN : Hid (t4.data.toList.length = 0 ∨ 6 < t4.data.toList.length ∨ (1 < t4.data.toList.length ∧ t4.data.toList.head? = some 48) ∨ t4.data.toList.all isD = false → nb = true) := fun h => by rw [← HNB.out, numF_none h]; rfl
  have HNS : Hid (¬ (t4.data.toList.length = 0 ∨ 6 < t4.data.toList.length ∨ (1 < t4.data.toList.length ∧ t4.data.toList.head? = some 48) ∨ t4.data.toList.all isD = false) → nb = false) := fun h => by rw [← HNB.out]; unfold numF; rw [if_neg h]; rfl
  have HTM := Lib.hid (trimD_any t4 w1 (by omega))
  have HTR := Lib.hid (trimD t4.data.toList)
  have HSL := Lib.hid (size_list t4)
  clear hnb
  go_cut [38] (fun v wx => v = .bool nb ∧ Hid (Below w1.heap.size w1 wx))
  case first =>
    by_cases h0 : 0 < t4.size
    case neg =>
      obtain ⟨e1, e2⟩ := emp_t h0
      have HE : Hid (nb = true) := HNN.out (.inl (by rw [HSL.out]; omega))
      clear e2
      go_wp2_with fail
      go_meet
      case rel => exact ⟨by rw [HE.out], Below.refl _ _⟩
    have e1 := emp_f h0
    by_cases h6 : 6 < t4.size
    · have HE : Hid (nb = true) := HNN.out (.inr (.inl (by rw [HSL.out]; omega)))
      go_wp2_with fail
      go_meet
      case rel => exact ⟨by rw [HE.out], Below.refl _ _⟩
    cases ha : t4.data.toList.all isD with
    | false =>
      have HE : Hid (nb = true) := HNN.out (.inr (.inr (.inr ha)))
      obtain ⟨u, hu⟩ : ∃ u, (⟨(Lib.trimS t4.data.toList digCs.data.toList).toArray⟩ : ByteArray) = u := ⟨_, rfl⟩
      have hun : 0 < u.size := by
        rw [← size_list, ← hu]
        rw [List.toList_toArray]
        apply List.length_pos_iff.2
        intro hh
        have := HTR.out.1 hh
        rw [ha] at this; cases this
      rw [hu] at HTM
      have e2 := emp_f hun
      clear hu ha
      go_wp2_with fail
      refine HTM.out.mono ?_
      rintro e w2 ⟨rfl, hb2⟩
      have HB2 := Lib.hid hb2
      clear hb2
      go_wp2_with fail
      go_meet
      case rel => exact ⟨by rw [HE.out], HB2.out⟩
    | true =>
      have hn := HTR.out.2 ha
      rw [hn] at HTM
      by_cases h48 : t4[0] = 48
      · have g1 : (((t4[0]'h0).toNat : Int) == 48) = true := by rw [h48]; rfl
        by_cases h1 : 1 < t4.size
        · have HE : Hid (nb = true) := HNN.out (.inr (.inr (.inl ⟨by rw [HSL.out]; exact h1, by rw [head_at t4 h0, h48]⟩)))
          have g2 : (t4.toList == [48]) = false := by
            rw [ByteArray.toList_eq, beq_eq_false_iff_ne]; intro hh; have := HSL.out; rw [hh] at this; simp at this; omega
          have g3 : ([48] == t4.toList) = false := by
            rw [ByteArray.toList_eq, beq_eq_false_iff_ne]; intro hh; have := HSL.out; rw [← hh] at this; simp at this; omega
          clear h48 hn ha
          go_wp2_with fail
          refine HTM.out.mono ?_
          rintro e w2 ⟨rfl, hb2⟩
          have HB2 := Lib.hid hb2
          clear hb2
          go_wp2_with fail
          go_meet
          case rel => exact ⟨by rw [HE.out], HB2.out⟩
        · have HE : Hid (nb = false) := HNS.out (by rw [HSL.out, ha]; rintro (h | h | h | h) <;> first | omega | (cases h; done))
          have hl : t4.data.toList = [48] := by
            have h2 := HSL.out
            match hh : t4.data.toList with
            | [] => rw [hh] at h2; simp at h2; omega
            | [a] =>
              have h3 := head_at t4 h0
              rw [hh, h48] at h3
              simp at h3
              rw [h3]
            | a :: b :: r => rw [hh] at h2; simp at h2; omega
          have g2 : (t4.toList == [48]) = true := by rw [ByteArray.toList_eq, hl]; rfl
          have g3 : ([48] == t4.toList) = true := by rw [ByteArray.toList_eq, hl]; rfl
          clear h48 hn ha hl
          go_wp2_with fail
          refine HTM.out.mono ?_
          rintro e w2 ⟨rfl, hb2⟩
          have HB2 := Lib.hid hb2
          clear hb2
          go_wp2_with fail
          go_meet
          case rel => exact ⟨by rw [HE.out]; simp; omega, HB2.out⟩
      · have g1 : (((t4[0]'h0).toNat : Int) == 48) = false := by
          rw [beq_eq_false_iff_ne]; intro hh; apply h48
          have : (t4[0]'h0).toNat = (48 : UInt8).toNat := by simp; omega
          exact UInt8.toNat_inj.1 this
        have HE : Hid (nb = false) := HNS.out (by
          rw [HSL.out, ha, head_at t4 h0]
          rintro (h | h | ⟨_, h⟩ | h)
          · omega
          · omega
          · injection h with h; exact h48 h
          · cases h)
        clear h48 hn ha
        go_wp2_with fail
        refine HTM.out.mono ?_
        rintro e w2 ⟨rfl, hb2⟩
        have HB2 := Lib.hid hb2
        clear hb2
        go_wp2_with fail
        go_meet
        case rel => exact ⟨by rw [HE.out]; simp; omega, HB2.out⟩
  case rest =>
    obtain ⟨rfl, HB2⟩ := hcut
    have HBW := Lib.hid (HB1.out.trans (HB2.out.mono HB1.out.size))
    have HKW : Hid (Blk wc w.heap.size 38 [.string ⟨#[]⟩, .string ⟨#[]⟩, .string ⟨#[]⟩, .slice none 0 0, .int .i64 0]) := HK1.out.same (Same.of_below (S := fun _ => True) HB2.out) trivial
    cases nb with
    | true =>
      have HNO : Hid (numF t4.data.toList = none) := by show _ = _; have := HNB.out; simpa using this
      have f0 := HKW.out.frozen 0
      have f1 := HKW.out.frozen 1
      have f2 := HKW.out.frozen 2
      have f3 := HKW.out.frozen 3
      have f4 := HKW.out.frozen 4
      have d0 : wc.cell? ⟨w.heap.size, 0, none⟩ = some _ := HKW.out.cell 0
      have d1 : wc.cell? ⟨w.heap.size, 1, none⟩ = some _ := HKW.out.cell 1
      have d2 : wc.cell? ⟨w.heap.size, 2, none⟩ = some _ := HKW.out.cell 2
      have d3 : wc.cell? ⟨w.heap.size, 3, none⟩ = some _ := HKW.out.cell 3
      have d4 : wc.cell? ⟨w.heap.size, 4, none⟩ = some _ := HKW.out.cell 4
      go_wp2_with fail
      refine bodyPost_ret (v := .tuple #[crZero, .bool false]) (by simp [results, Tryd.results17, go_sem, crZero, d0, d1, d2, d3, d4]) rfl ?_
      refine linePost_none (HL2.out HNO.out) ?_ rfl
      refine ((((HBW.out.setCell ?_ _).setCell ?_ _).setCell ?_ _).setCell ?_ _).setCell ?_ _ <;> exact Nat.le_refl _
    | false =>
      have hok : ¬ (t4.data.toList.length = 0 ∨ 6 < t4.data.toList.length ∨ (1 < t4.data.toList.length ∧ t4.data.toList.head? = some 48) ∨ t4.data.toList.all isD = false) := fun h => by have := HNN.out h; cases this
      have HNO : Hid (numF t4.data.toList = some (valD t4.data.toList)) := by show _ = _; unfold numF; rw [if_neg hok]
      have HAT := Lib.hid (atoi_any t4 wc (fun e => hok (.inl (by rw [e]; rfl))) (by cases h : t4.data.toList.all isD with | true => rfl | false => exact absurd (.inr (.inr (.inr h))) hok) (by have h2 := HSL.out; have : ¬ 6 < t4.data.toList.length := fun h => hok (.inr (.inl h)); omega))
      obtain ⟨n, hn⟩ : ∃ n, valD t4.data.toList = n := ⟨_, rfl⟩
      rw [hn] at HNO HAT
      have HLN := Lib.hid (HL3.out n HNO.out)
      clear hok hn HNN HNS HNB HTM HTR HL2 HL3
      rw [← HB2.out.cell (p := ⟨b, 0, none⟩) (by exact hbl)] at c0
      rw [← HB2.out.cell (p := ⟨b, 1, none⟩) (by exact hbl)] at c1
      rw [← HB2.out.cell (p := ⟨b, 2, none⟩) (by exact hbl)] at c2
      rw [← HB2.out.cell (p := ⟨b, 3, none⟩) (by exact hbl)] at c3
      have hblc : b < wc.heap.size := Nat.lt_of_lt_of_le hbl HB2.out.size
      have hzc : w0.heap.size ≤ wc.heap.size := Nat.le_trans hz1 HB2.out.size
      clear c4
      go_wp2_with fail
      refine HAT.out.mono ?_
      rintro e w3 ⟨rfl, hb3⟩
      have HB3 := Lib.hid (HBW.out.trans (hb3.mono HBW.out.size))
      have HK3 : Hid (Blk w3 w.heap.size 38 [.string ⟨#[]⟩, .string ⟨#[]⟩, .string ⟨#[]⟩, .slice none 0 0, .int .i64 0]) := HKW.out.same (Same.of_below (S := fun _ => True) hb3) trivial
      rw [← hb3.cell (p := ⟨b, 0, none⟩) (by exact hblc)] at c0
      rw [← hb3.cell (p := ⟨b, 1, none⟩) (by exact hblc)] at c1
      rw [← hb3.cell (p := ⟨b, 2, none⟩) (by exact hblc)] at c2
      rw [← hb3.cell (p := ⟨b, 3, none⟩) (by exact hblc)] at c3
      have hbl3 : b < w3.heap.size := Nat.lt_of_lt_of_le hblc hb3.size
      have hz3 : w0.heap.size ≤ w3.heap.size := Nat.le_trans hzc hb3.size
      clear hb3
      go_upto_region 8 with (fail)
      have HS8 : Hid (∀ W, Gq w3 W → W.cell? ⟨b, 0, none⟩ = some (.string t0) ∧ W.cell? ⟨b, 1, none⟩ = some (.string t1) ∧ W.cell? ⟨b, 2, none⟩ = some (.string t2) ∧ Gq w3 W) := fun W hW => by
        rw [Below.cell hW (by exact hbl3), Below.cell hW (by exact hbl3), Below.cell hW (by exact hbl3)]
        exact ⟨c0, c1, c2, hW⟩
      have hBD : Gq w3 w3.drew := (Gq.refl _).drew
      have HC8 : Hid (∀ W, Gq w3 W → W.cell? ⟨b, 3, none⟩ = some (.string t3)) := fun W hW => by rw [Below.cell hW (by exact hbl3)]; exact c3
      have HK8 : Hid (Blk (w3.alloc (.cells #[.string t0, .string t2, .string t1, .slice none 0 0, .int .i64 (n : Int)] 38)).drew w3.heap.size 38 [.string t0, .string t2, .string t1, .slice none 0 0, .int .i64 (n : Int)]) := Blk.new w3 _ _
      have HG8 : Hid (Gq w3 (w3.alloc (.cells #[.string t0, .string t2, .string t1, .slice none 0 0, .int .i64 (n : Int)] 38)).drew) := ((Gq.refl _).alloc _).drew
      go_cut [8] (fun v wx => v = .pointer (some ⟨w3.heap.size, 0, none⟩) ∧ Hid (Gq w3 wx) ∧ Hid (Blk wx w3.heap.size 38 [.string t0, .string t2, .string t1, .slice none 0 0, .int .i64 (n : Int)]))
      case first =>
        go_region_held3 (fun W => W.cell? ⟨b, 0, none⟩ = some (.string t0) ∧ W.cell? ⟨b, 1, none⟩ = some (.string t1) ∧ W.cell? ⟨b, 2, none⟩ = some (.string t2) ∧ Gq w3 W)
          (first | exact HS8.out _ hBD | exact HS8.out _ (Gq.alloc hBD _)) (fail)
        all_goals
          go_wp2_with fail
          go_meet
          case rel => exact ⟨rfl, HG8, HK8⟩
      case rest =>
        obtain ⟨rfl, HG, HK⟩ := hcut
        clear HK8 HG8 HS8 hBD c0 c1 c2
        have c3 := HC8.out _ HG.out
        have HBC := Lib.hid (HB3.out.trans (HG.out.mono HB3.out.size))
        have HKC : Hid (Blk wc w.heap.size 38 [.string ⟨#[]⟩, .string ⟨#[]⟩, .string ⟨#[]⟩, .slice none 0 0, .int .i64 0]) := HK3.out.same (Same.of_below (S := fun _ => True) HG.out) trivial
        have hz4 : w.heap.size < w3.heap.size := Nat.lt_of_lt_of_le hz0 hz3
        clear HC8 HB3 HK3 HKW HBW HB2 HK1 HB1 HB0 HK0
        have g0 := HKC.out.frozen 0
        have g1 := HKC.out.frozen 1
        have g2 := HKC.out.frozen 2
        have g3 := HKC.out.frozen 3
        have g4 := HKC.out.frozen 4
        have r0 : wc.cell? ⟨w.heap.size, 0, none⟩ = some _ := HKC.out.cell 0
        have r1 : wc.cell? ⟨w.heap.size, 1, none⟩ = some _ := HKC.out.cell 1
        have r2 : wc.cell? ⟨w.heap.size, 2, none⟩ = some _ := HKC.out.cell 2
        have r3 : wc.cell? ⟨w.heap.size, 3, none⟩ = some _ := HKC.out.cell 3
        have r4 : wc.cell? ⟨w.heap.size, 4, none⟩ = some _ := HKC.out.cell 4
        have d0 : wc.cell? ⟨w3.heap.size, 0, none⟩ = some _ := HK.out.cell 0
        have d1 : wc.cell? ⟨w3.heap.size, 1, none⟩ = some _ := HK.out.cell 1
        have d2 : wc.cell? ⟨w3.heap.size, 2, none⟩ = some _ := HK.out.cell 2
        have d3 : wc.cell? ⟨w3.heap.size, 3, none⟩ = some _ := HK.out.cell 3
        have d4 : wc.cell? ⟨w3.heap.size, 4, none⟩ = some _ := HK.out.cell 4
        by_cases h3 : 0 < t3.size
        case neg =>
          obtain ⟨e1, e2⟩ := emp_t h3
          have HI : Hid (insL t3.data.toList = []) := by show _ = _; rw [HE3.out, ← ByteArray.toList_eq, e2]; rfl
          clear e2
          go_wp2_with fail
          go_region
          all_goals
            go_wp2_with fail
            refine bodyPost_ret (v := .tuple #[.agg (Crd.cs ⟨t0, t2, t1, ⟨none, 0, []⟩, (n : Int)⟩).toArray, .bool true]) (by simp [results, Tryd.results17, go_sem, Crd.cs, Slc.v, r0, r1, r2, r3, r4]) rfl ?_
            refine linePost_some (HLN.out) ⟨none, 0, []⟩ HI.out.symm ?_ (.inl rfl)
            refine (((((HBC.out.setCell ?_ _).setCell ?_ _).setCell ?_ _).setCell ?_ _).setCell ?_ _).drew <;> exact Nat.le_refl _
        have e1 := emp_f h3
        have e2 : (t3.toList == []) = false := by
          rw [beq_eq_false_iff_ne]; intro hh; rw [hh] at e1; cases e1
        have HI : Hid (insL t3.data.toList = (splitB 44 t3.data.toList).map mkB) := by
          show _ = _
          rw [HE3.out, if_neg]
          intro hh; rw [← ByteArray.toList_eq] at hh; rw [hh] at e1; cases e1
        have HSC := Lib.hid (HSP3.out wc)
        go_wp2_with fail
        refine HSC.out.mono ?_
        rintro e w5 ⟨b5, cap5, hle5, rfl, hr5, hb5⟩
        have hb5w : w.heap.size ≤ b5 := by have := HBC.out.size; omega
        have HB5 := Lib.hid (HBC.out.trans (hb5.mono HBC.out.size))
        have HK5 : Hid (Blk w5 w3.heap.size 38 [.string t0, .string t2, .string t1, .slice none 0 0, .int .i64 (n : Int)]) := HK.out.same (Same.of_below (S := fun _ => True) hb5) trivial
        have HKR : Hid (Blk w5 w.heap.size 38 [.string ⟨#[]⟩, .string ⟨#[]⟩, .string ⟨#[]⟩, .slice none 0 0, .int .i64 0]) := HKC.out.same (Same.of_below (S := fun _ => True) hb5) trivial
        have HR5 : Hid (RdS (fun b => w.heap.size ≤ b ∧ b ≠ w3.heap.size ∧ b ≠ w.heap.size) w5 (some ⟨b5, 0, none⟩) (sc (splitB 44 t3.data.toList))) := by
          have hk5 := HK.out.lt
          rcases hr5 with h | ⟨b', off', h1, h2, h3⟩
          · exact .inl h
          · refine .inr ⟨b', off', h1, ?_, h2, h3⟩
            injection h1 with h1
            injection h1 with h1
            subst h1
            exact ⟨hb5w, by omega, by omega⟩
        clear hr5 hb5 d0 d1 d2 d3 d4 g0 g1 g2 g3 g4 r0 r1 r2 r3 r4 c3
        have g3 := HK5.out.frozen 3
        have d3 : w5.cell? ⟨w3.heap.size, 3, none⟩ = some _ := HK5.out.cell 3
        obtain ⟨w6, hw6⟩ : ∃ w6, w6 = w5.setCell ⟨w3.heap.size, 3, none⟩ (.slice (some ⟨b5, 0, none⟩) (splitB 44 t3.data.toList).length cap5) := ⟨_, rfl⟩
        have HW6 := Lib.hid hw6
        have HB6 : Hid (Below w.heap.size w w6) := by rw [hw6]; exact HB5.out.setCell (p := ⟨w3.heap.size, 3, none⟩) (by exact Nat.le_of_lt hz4) _
        have HK6 : Hid (Blk w6 w3.heap.size 38 [.string t0, .string t2, .string t1, .slice (some ⟨b5, 0, none⟩) (splitB 44 t3.data.toList).length cap5, .int .i64 (n : Int)]) := by rw [hw6]; exact HK5.out.set_ 3 _
        have hs6 : Same (fun b => w.heap.size ≤ b ∧ b ≠ w3.heap.size) w5 w6 := by rw [hw6]; exact Same.set _ _ _ (by simp)
        have HKR6 : Hid (Blk w6 w.heap.size 38 [.string ⟨#[]⟩, .string ⟨#[]⟩, .string ⟨#[]⟩, .slice none 0 0, .int .i64 0]) := HKR.out.same hs6 ⟨Nat.le_refl _, by omega⟩
        have HR6 : Hid (RdS (fun b => w.heap.size ≤ b ∧ b ≠ w.heap.size) w6 (some ⟨b5, 0, none⟩) (sc (splitB 44 t3.data.toList))) :=
          ((HR5.out.mono (S' := fun b => (w.heap.size ≤ b ∧ b ≠ w3.heap.size) ∧ b ≠ w.heap.size) (fun b _ h => ⟨⟨h.1, h.2.1⟩, h.2.2⟩)).same (hs6.mono fun b _ h => h.1)).mono fun b _ h => ⟨h.1.1, h.2⟩
        clear hw6 hs6
        go_wp2_with fail
        rw [← HW6.out]
        clear d3 g3
        have g0 := HKR6.out.frozen 0
        have g1 := HKR6.out.frozen 1
        have g2 := HKR6.out.frozen 2
        have g3 := HKR6.out.frozen 3
        have g4 := HKR6.out.frozen 4
        have r0 : w6.cell? ⟨w.heap.size, 0, none⟩ = some _ := HKR6.out.cell 0
        have r1 : w6.cell? ⟨w.heap.size, 1, none⟩ = some _ := HKR6.out.cell 1
        have r2 : w6.cell? ⟨w.heap.size, 2, none⟩ = some _ := HKR6.out.cell 2
        have r3 : w6.cell? ⟨w.heap.size, 3, none⟩ = some _ := HKR6.out.cell 3
        have r4 : w6.cell? ⟨w.heap.size, 4, none⟩ = some _ := HKR6.out.cell 4
        have d0 : w6.cell? ⟨w3.heap.size, 0, none⟩ = some _ := HK6.out.cell 0
        have d1 : w6.cell? ⟨w3.heap.size, 1, none⟩ = some _ := HK6.out.cell 1
        have d2 : w6.cell? ⟨w3.heap.size, 2, none⟩ = some _ := HK6.out.cell 2
        have d3 : w6.cell? ⟨w3.heap.size, 3, none⟩ = some _ := HK6.out.cell 3
        have d4 : w6.cell? ⟨w3.heap.size, 4, none⟩ = some _ := HK6.out.cell 4
        have HL5 : Hid ((splitB 44 t3.data.toList).length = ((splitB 44 t3.data.toList).map mkB).length) := by show _ = _; simp
        have HR7 : Hid (sc (splitB 44 t3.data.toList) = sb ((splitB 44 t3.data.toList).map mkB)) := by show _ = _; rw [sb_mk]; rfl
        rw [HL5.out] at d3
        rw [HR7.out] at HR6
        generalize (splitB 44 t3.data.toList).map mkB = I at *
        go_region
        all_goals
          go_wp2_with fail
          refine bodyPost_ret (v := .tuple #[.agg (Crd.cs ⟨t0, t2, t1, ⟨some ⟨b5, 0, none⟩, cap5, I⟩, (n : Int)⟩).toArray, .bool true]) (by simp [results, Tryd.results17, go_sem, Crd.cs, Slc.v, r0, r1, r2, r3, r4]) rfl ?_
          refine linePost_some (HLN.out) ⟨some ⟨b5, 0, none⟩, cap5, I⟩ HI.out.symm ?_ ?_
          · refine (((((HB6.out.setCell ?_ _).setCell ?_ _).setCell ?_ _).setCell ?_ _).setCell ?_ _).drew <;> exact Nat.le_refl _
          · refine (RdS.same (S := fun b => w.heap.size ≤ b ∧ b ≠ w.heap.size) HR6.out ?_).mono fun b _ h => h.1
            refine (((((Same.set _ _ _ ?_).trans (Same.set _ _ _ ?_)).trans (Same.set _ _ _ ?_)).trans (Same.set _ _ _ ?_)).trans (Same.set _ _ _ ?_)).trans (Same.drew _) <;> exact fun h => h.2 rfl
end Go.Proofs.YtckakleiaccffaaDoor
