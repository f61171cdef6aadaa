/- The contract of deadwaxref3.readLine at a line of a clip. -/
import Derived.Test.YtpiiickhfcjnmaaGreatDoorRefZ
import Derived.Deep.RegionLaw
namespace Go.Proofs.YtpiiickhfcjnmaaGreatDoor
open Go.RowKit Go.Dw

/-- what readLine says of a line of a clip -/
def Line2 (wo : World) (P : List (List UInt8)) (r tk : Int) (L : List CliM) (e : Ending) (w' : World) : Prop := match cliW P with
  | none => e = .returned (.bool false) ∧ Gq wo w'
  | some p => e = .returned (.bool true) ∧ ∃ A c x, CliM.x x = p ∧ EdI wo w' r tk A c (L ++ [x])
theorem line2_none {wo w' : World} {P : List (List UInt8)} {r tk : Int} {L : List CliM} {e : Ending} {RF : Option Cli} (hr : cliW P = RF) (h : RF = none) (he : e = .returned (.bool false)) (hg : Gq wo w') : Line2 wo P r tk L e w' := by
  unfold Line2; rw [hr, h]; exact ⟨he, hg⟩
theorem line2_some {wo w' : World} {P : List (List UInt8)} {r tk : Int} {L : List CliM} {e : Ending} {RF : Option Cli} {p : Cli} {A : Option Addr} {c : Nat} (x : CliM) (hr : cliW P = RF) (h : RF = some p) (he : e = .returned (.bool true)) (hx : CliM.x x = p) (hg : EdI wo w' r tk A c (L ++ [x])) : Line2 wo P r tk L e w' := by
  unfold Line2; rw [hr, h]; exact ⟨he, A, c, x, hx, hg⟩
set_option maxRecDepth 100000 in
set_option maxHeartbeats 8000000 in
theorem line2_any (P : List (List UInt8)) (b : Nat) (wo w : World) (r tk : Int) (A : Option Addr) (c : Nat) (L : List CliM) (hcs : ∀ (j : Nat) u, (sc P)[j]? = some u → w.cell? ⟨b, j, none⟩ = some u) (hbl : b < w.heap.size) (hI : EdI wo w r tk A c L)
    (hne : P ≠ []) (hlen : P.length ≤ 1000001) (hPM : ∀ p ∈ P, p.length ≤ 1000000) (hnice : ∀ (q : Cli) A d, cliW P = some q → ClNc ⟨q.m, q.ch, q.fr, q.tr, q.at_, q.ln, ⟨A, d, q.e⟩⟩) (hL : L.length ≤ 1000000) :
    Calls Tryz.prog 29 #[.pointer (some ⟨wo.heap.size, 0, none⟩), .slice (some ⟨b, 0, none⟩) P.length P.length, .bool false] w (Line2 wo P r tk L) := by
  obtain ⟨ip, hip, hzp0, hzp1, hzp2⟩ := info_parts (show (Tryz.prog.info? 70).map (fun i => (i.zero, i.size, i.bytes)) = some (some (.agg #[.int .i64 0, .string ByteArray.empty, .string ByteArray.empty]), 3, 40) by kernel_rfl)
  have HIP := Lib.hid (And.intro hip (And.intro hzp0 (And.intro hzp1 hzp2)))
  obtain ⟨ic, hic, hzc0, hzc1, hzc2⟩ := info_parts (show (Tryz.prog.info? 36).map (fun i => (i.zero, i.size, i.bytes)) = some (some (.agg #[.string ByteArray.empty, .int .i64 0, .int .i64 0, .int .i64 0, .int .i64 0, .int .i64 0, .slice none 0 0]), 7, 80) by kernel_rfl)
  have HIC := Lib.hid (And.intro hic (And.intro hzc0 (And.intro hzc1 hzc2)))
  have HI := Lib.hid hI
  have HG : Hid (Gq wo w) := hI.2.2.1
  have hown : ∀ b, (Value.slice A L.length c).ownBlock = some b → wo.heap.size + 1 ≤ b ∧ b < w.heap.size := hI.2.1.lt
  have HOWN := Lib.hid hown
  have hwo : wo.heap.size < w.heap.size := hI.1.lt
  have HCW := Lib.hid hcs
  have HPL := Lib.hid hPM
  have hp0 : 0 < P.length := List.length_pos_iff.2 hne
  obtain ⟨RF, hRF⟩ : ∃ RF, cliW P = RF := ⟨_, rfl⟩
  have HRF := Lib.hid hRF
  have HR1 : Hid ((P.length < 7 ∨ P.getD 0 [] ≠ wClip ∨ rowE (P.getD 1 []) = false) → RF = none) := fun h => by rw [← hRF]; exact cliW_no h
  have HR2 : Hid (numsE ((P.drop 2).take 5) = none → RF = none) := fun h => by rw [← hRF]; exact cliW_num h
  have HR3 : Hid (pntsE (P.drop 7) = none → RF = none) := fun h => by rw [← hRF]; exact cliW_pnt h
  have HR4 : Hid (∀ n0 n1 n2 n3 n4 e, ¬ (P.length < 7 ∨ P.getD 0 [] ≠ wClip ∨ rowE (P.getD 1 []) = false) → numsE ((P.drop 2).take 5) = some [n0, n1, n2, n3, n4] → pntsE (P.drop 7) = some e → RF = some ⟨mkE (P.getD 1 []), n0, n1, n2, n3, n4, e⟩) := fun n0 n1 n2 n3 n4 e h h1 h2 => by rw [← hRF]; exact cliW_yes h h1 h2
  have HNI : Hid (∀ (q : Cli) A d, RF = some q → ClNc ⟨q.m, q.ch, q.fr, q.tr, q.at_, q.ln, ⟨A, d, q.e⟩⟩) := fun q A d h => hnice q A d (by rw [hRF]; exact h)
  clear hRF hip hzp0 hzp1 hzp2 hic hzc0 hzc1 hzc2 hI hown hcs hPM hne hnice
  obtain ⟨nb, hnb⟩ : ∃ nb, decide (P.length < 7 ∨ P.getD 0 [] ≠ wClip ∨ rowE (P.getD 1 []) = false) = nb := ⟨_, rfl⟩
  have HNB := Lib.hid hnb
  clear hnb
  go_enter Tryz.func29, Tryz.ntmps29
  go_upto_region 8 with (fail)
  go_cut [60] (fun v wx => v = .bool nb ∧ wx = w)
  case first =>
    by_cases h7 : P.length < 7
    · have HE : Hid (nb = true) := by show _ = _; rw [← HNB.out]; exact decide_eq_true (.inl h7)
      have hd : decide ((P.length : Int) < 7) = true := by simp; omega
      go_wp2_with fail
      go_meet
      case rel => exact ⟨by rw [HE.out], rfl⟩
    have hd : decide ((P.length : Int) < 7) = false := by simp; omega
    have hx0 : (0 : Int) < (P.length : Int) := by omega
    have hx1 : (1 : Int) < (P.length : Int) := by omega
    obtain ⟨p0, hp0⟩ : ∃ p0, P.getD 0 [] = p0 := ⟨_, rfl⟩
    obtain ⟨p1, hp1⟩ : ∃ p1, P.getD 1 [] = p1 := ⟨_, rfl⟩
    have e0 : P[0]? = some p0 := by rw [← hp0, List.getD_eq_getElem?_getD, List.getElem?_eq_getElem (by omega)]; rfl
    have e1 : P[1]? = some p1 := by rw [← hp1, List.getD_eq_getElem?_getD, List.getElem?_eq_getElem (by omega)]; rfl
    have c0 : w.cell? ⟨b, 0, none⟩ = some (.string (mkE p0)) := HCW.out 0 _ (by simp only [sc, List.getElem?_map, e0]; rfl)
    have c1 : w.cell? ⟨b, 1, none⟩ = some (.string (mkE p1)) := HCW.out 1 _ (by simp only [sc, List.getElem?_map, e1]; rfl)
    rw [hp0, hp1] at HNB
    have HRO := Lib.hid (row3_any (mkE p1) w (by rw [mkE_size]; have := HPL.out p1 (List.mem_of_getElem? e1); omega))
    rw [mkE_list] at HRO
    have HP7 : Hid (¬ P.length < 7) := h7
    clear hp0 hp1 e0 e1
    by_cases hc : p0 = wClip
    case neg =>
      have HE : Hid (nb = true) := by show _ = _; rw [← HNB.out]; exact decide_eq_true (.inr (.inl hc))
      have g : ((mkE p0).toList == [99, 108, 105, 112]) = false := by rw [ByteArray.toList_eq, mkE_list, beq_eq_false_iff_ne]; exact hc
      clear hc
      go_wp2_with fail
      go_meet
      case rel => exact ⟨by rw [HE.out], rfl⟩
    have g : ((mkE p0).toList == [99, 108, 105, 112]) = true := by rw [ByteArray.toList_eq, mkE_list, hc]; rfl
    have HN2 : Hid (nb = !rowE p1) := by
      show _ = _
      rw [← HNB.out]
      have h7 := HP7.out
      cases hv : rowE p1 <;> simp [h7, hc]
    clear hc
    go_wp2_with fail
    refine HRO.out.mono ?_
    rintro e w2 ⟨rfl, rfl⟩
    go_wp2_with fail
    go_meet
    case rel => exact ⟨by rw [HN2.out], rfl⟩
  case rest =>
    obtain ⟨rfl, rfl⟩ := hcut
    cases nb with
    | true =>
      have HE : Hid (RF = none) := HR1.out (of_decide_eq_true HNB.out)
      go_wp2_with fail
      go_ret
      exact line2_none HRF.out HE.out rfl HG.out
    | false =>
      have HC0 : Hid (¬ (P.length < 7 ∨ P.getD 0 [] ≠ wClip ∨ rowE (P.getD 1 []) = false)) := of_decide_eq_false HNB.out
      have h7 : 7 ≤ P.length := by have := HC0.out; omega
      obtain ⟨N5, hN5⟩ : ∃ N5, (P.drop 2).take 5 = N5 := ⟨_, rfl⟩
      have h5 : N5.length = 5 := by rw [← hN5, List.length_take, List.length_drop]; omega
      have HN5 : Hid (∀ p ∈ N5, p.length ≤ 1000000) := fun p hp => HPL.out p (by rw [← hN5] at hp; exact List.mem_of_mem_drop (List.mem_of_mem_take hp))
      have HRD : Hid (Rd wc (some ⟨b, 2, none⟩) (sc N5)) := .inr ⟨b, 2, rfl, hbl, fun j u hu => HCW.out (2 + j) u (by
        rw [← hN5] at hu
        simp only [sc, List.getElem?_map, List.getElem?_take, List.getElem?_drop] at hu ⊢
        split at hu
        · exact hu
        · simp at hu)⟩
      have HNU := Lib.hid (numbers3_any (some ⟨b, 2, none⟩) (P.length - 2) N5 wc HRD.out (by omega) (fun p hp => by have := HN5.out p hp; omega))
      rw [h5] at HNU
      rw [hN5] at HR2 HR4
      have hx7' : (7 : Int) ≤ (P.length : Int) := by omega
      go_wp2_with fail
      refine HNU.out.mono ?_
      rintro e w2 hq
      unfold NumsR at hq
      obtain ⟨nr, hnr⟩ : ∃ nr, numsE N5 = nr := ⟨_, rfl⟩
      rw [hnr] at hq
      obtain ⟨hb2, hq⟩ := hq
      have HI2 := Lib.hid (HI.out.below hb2)
      have HCX : Hid (∀ j u, (sc P)[j]? = some u → w2.cell? ⟨b, j, none⟩ = some u) := fun j u hu => by
        rw [hb2.cell (by exact hbl)]; exact HCW.out j u hu
      have hblx : b < w2.heap.size := Nat.lt_of_lt_of_le hbl hb2.size
      have hwc2 : wc.heap.size ≤ w2.heap.size := hb2.size
      clear hb2 HCW HRD HNU
      cases nr with
      | none =>
        subst hq
        have HE := Lib.hid (HR2.out hnr)
        clear hnr
        go_wp2_with fail
        go_ret
        exact line2_none HRF.out HE.out rfl HI2.out.2.2.1
      | some ns =>
        obtain ⟨A2, c2, rfl, hr2⟩ := hq
        have hnl := nums_len hnr
        rw [h5] at hnl
        obtain ⟨n0, n1, n2, n3, n4, rfl⟩ : ∃ n0 n1 n2 n3 n4, ns = [n0, n1, n2, n3, n4] := by
          match ns, hnl with
          | [a, b, c, d, e], _ => exact ⟨a, b, c, d, e, rfl⟩
        obtain ⟨b2, off2, hA2, hb2l, hb2s, hc2⟩ := hr2.at_ (by rw [nc_length]; simp)
        subst hA2
        have HR5 := Lib.hid (fun e h2 => HR4.out n0 n1 n2 n3 n4 e HC0.out hnr h2)
        clear hnr hnl HR4 HR2 HR1
        obtain ⟨p1, hp1⟩ : ∃ p1, P.getD 1 [] = p1 := ⟨_, rfl⟩
        have e1 : P[1]? = some p1 := by rw [← hp1, List.getD_eq_getElem?_getD, List.getElem?_eq_getElem (by omega)]; rfl
        rw [hp1] at HR5
        have q1 : w2.cell? ⟨b, 1, none⟩ = some (.string (mkE p1)) := HCX.out 1 _ (by simp only [sc, List.getElem?_map, e1]; rfl)
        have r0 : w2.cell? ⟨b2, off2, none⟩ = some (.int .i64 (n0 : Int)) := hc2 0 _ rfl
        have r1 : w2.cell? ⟨b2, off2 + 1, none⟩ = some (.int .i64 (n1 : Int)) := hc2 1 _ rfl
        have r2 : w2.cell? ⟨b2, off2 + 2, none⟩ = some (.int .i64 (n2 : Int)) := hc2 2 _ rfl
        have r3 : w2.cell? ⟨b2, off2 + 3, none⟩ = some (.int .i64 (n3 : Int)) := hc2 3 _ rfl
        have r4 : w2.cell? ⟨b2, off2 + 4, none⟩ = some (.int .i64 (n4 : Int)) := hc2 4 _ rfl
        generalize mkE p1 = nm at *
        clear hp1 e1 hc2 hr2
        simp only [List.length_cons, List.length_nil]
        have hx1 : (1 : Int) < (P.length : Int) := by omega
        go_upto_region 13 with (fail)
        have HS : Hid (∀ W, Gq w2 W → W.cell? ⟨b, 1, none⟩ = some (.string nm) ∧ W.cell? ⟨b2, off2, none⟩ = some (.int .i64 (n0 : Int)) ∧ W.cell? ⟨b2, off2 + 1, none⟩ = some (.int .i64 (n1 : Int)) ∧ W.cell? ⟨b2, off2 + 2, none⟩ = some (.int .i64 (n2 : Int)) ∧ W.cell? ⟨b2, off2 + 3, none⟩ = some (.int .i64 (n3 : Int)) ∧ W.cell? ⟨b2, off2 + 4, none⟩ = some (.int .i64 (n4 : Int)) ∧ Gq w2 W) := fun W hW => by
          rw [Below.cell hW (by exact hblx), Below.cell hW (by exact hb2s), Below.cell hW (by exact hb2s), Below.cell hW (by exact hb2s), Below.cell hW (by exact hb2s), Below.cell hW (by exact hb2s)]
          exact ⟨q1, r0, r1, r2, r3, r4, hW⟩
        have hBD : Gq w2 w2.drew := (Gq.refl _).drew
        have HK8 : Hid (Blk (w2.alloc (.cells #[.string nm, .int .i64 (n0 : Int), .int .i64 (n1 : Int), .int .i64 (n2 : Int), .int .i64 (n3 : Int), .int .i64 (n4 : Int), .slice none 0 0] 36)).drew w2.heap.size 36 [.string nm, .int .i64 (n0 : Int), .int .i64 (n1 : Int), .int .i64 (n2 : Int), .int .i64 (n3 : Int), .int .i64 (n4 : Int), .slice none 0 0]) := Blk.new w2 _ _
        have HG8 : Hid (Gq w2 (w2.alloc (.cells #[.string nm, .int .i64 (n0 : Int), .int .i64 (n1 : Int), .int .i64 (n2 : Int), .int .i64 (n3 : Int), .int .i64 (n4 : Int), .slice none 0 0] 36)).drew) := ((Gq.refl _).alloc _).drew
        go_cut [11] (fun v wx => v = .pointer (some ⟨w2.heap.size, 0, none⟩) ∧ Hid (Gq w2 wx) ∧ Hid (Blk wx w2.heap.size 36 [.string nm, .int .i64 (n0 : Int), .int .i64 (n1 : Int), .int .i64 (n2 : Int), .int .i64 (n3 : Int), .int .i64 (n4 : Int), .slice none 0 0]))
        case first =>
          go_region_held3 (fun W => W.cell? ⟨b, 1, none⟩ = some (.string nm) ∧ W.cell? ⟨b2, off2, none⟩ = some (.int .i64 (n0 : Int)) ∧ W.cell? ⟨b2, off2 + 1, none⟩ = some (.int .i64 (n1 : Int)) ∧ W.cell? ⟨b2, off2 + 2, none⟩ = some (.int .i64 (n2 : Int)) ∧ W.cell? ⟨b2, off2 + 3, none⟩ = some (.int .i64 (n3 : Int)) ∧ W.cell? ⟨b2, off2 + 4, none⟩ = some (.int .i64 (n4 : Int)) ∧ Gq w2 W)
            (first | exact HS.out _ hBD | exact HS.out _ (Gq.alloc hBD _)) (fail)
          all_goals
            go_wp2_with fail
            go_meet
            case rel => exact ⟨rfl, HG8, HK8⟩
        case rest =>
          obtain ⟨rfl, HGC, HK⟩ := hcut
          clear HK8 HG8 HS hBD q1 r0 r1 r2 r3 r4
          obtain ⟨Q, hQ⟩ : ∃ Q, P.drop 7 = Q := ⟨_, rfl⟩
          have HQL : Hid (Q.length = P.length - 7) := by show _ = _; rw [← hQ, List.length_drop]
          have HQP : Hid (∀ j : Nat, P[7 + j]? = Q[j]?) := fun j => by rw [← hQ, List.getElem?_drop]
          rw [hQ] at HR5 HR3
          clear hQ
          have HCI : Hid (ClI w2 wc nm n0 n1 n2 n3 n4 none 0 []) := ⟨HK.out, World.ownsRow_nil _ _ _ _, HGC.out⟩
          have HCW2 : Hid (∀ W, Gq w2 W → ∀ j (h : j < Q.length), W.cell? ⟨b, 7 + j, none⟩ = some (.string (mkE Q[j]))) := fun W hW j h => by
            rw [Below.cell hW (by exact hblx)]
            refine HCX.out _ _ ?_
            simp only [sc, List.getElem?_map]
            rw [HQP.out, List.getElem?_eq_getElem h]; rfl
          have HPQ : Hid (∀ j (h : j < Q.length), Q[j].length ≤ 1000000) := fun j h => HPL.out _ (List.mem_of_getElem? (by rw [HQP.out j, List.getElem?_eq_getElem h]))
          go_wp2_with fail
          go_loopw [12] (fun iv wr => ∃ (k : Nat) (ps : List Pnt) (A5 : Option Addr) (c5 : Nat), 7 + k ≤ P.length ∧ iv = .int .i64 ((7 + k : Nat) : Int) ∧ Hid (pntsE (Q.take k) = some ps) ∧ Hid (ClI w2 wr nm n0 n1 n2 n3 n4 A5 c5 ps)) (fun iv _ => P.length - (intOf iv).toNat)
          case atStart => exact ⟨0, [], none, 0, by omega, rfl, rfl, HCI⟩
          case round =>
            obtain ⟨k, ps, A5, c5, hk, rfl, HPS, HCR⟩ := hrel
            obtain ⟨i, hi⟩ : ∃ i, i = 7 + k := ⟨_, rfl⟩
            have HIK := Lib.hid hi
            rw [← hi] at hk ⊢
            by_cases hlt : i < P.length
            case neg =>
              have hd : decide (i < P.length) = false := by simpa using hlt
              have HE : Hid (RF = some ⟨nm, n0, n1, n2, n3, n4, ps⟩) := HR5.out ps (by
                have := HPS.out
                rwa [List.take_of_length_le (by have := HQL.out; omega)] at this)
              clear hi
              have HI5 : Hid (EdI wo wr r tk A c L) := HI2.out.below HCR.out.2.2
              have HNX : Hid (ClNc ⟨nm, n0, n1, n2, n3, n4, ⟨A5, c5, ps⟩⟩) := HNI.out _ A5 c5 HE.out
              have HX : Hid (RdS (fun b => wo.heap.size + 1 ≤ b ∧ (Value.slice A L.length c).ownBlock ≠ some b) wr A5 (ps.flatMap Pnt.cs)) := HCR.out.rds.mono fun b' _ hb => ⟨by omega, fun e => by have := (HOWN.out b' e).2; omega⟩
              have k0 : wr.cell? ⟨w2.heap.size, 0, none⟩ = some _ := HCR.out.1.cell 0
              have k1 : wr.cell? ⟨w2.heap.size, 1, none⟩ = some _ := HCR.out.1.cell 1
              have k2 : wr.cell? ⟨w2.heap.size, 2, none⟩ = some _ := HCR.out.1.cell 2
              have k3 : wr.cell? ⟨w2.heap.size, 3, none⟩ = some _ := HCR.out.1.cell 3
              have k4 : wr.cell? ⟨w2.heap.size, 4, none⟩ = some _ := HCR.out.1.cell 4
              have k5 : wr.cell? ⟨w2.heap.size, 5, none⟩ = some _ := HCR.out.1.cell 5
              have k6 : wr.cell? ⟨w2.heap.size, 6, none⟩ = some _ := HCR.out.1.cell 6
              have s2 : wr.cell? ⟨wo.heap.size, 2, none⟩ = some _ := HI5.out.1.cell 2
              have hsr := Below.size HI5.out.2.2.1
              have hlr := HI5.out.1.lt
              have HOA : Hid ((wr.drew.alloc (.cells #[.string nm, .int .i64 (n0 : Int), .int .i64 (n1 : Int), .int .i64 (n2 : Int), .int .i64 (n3 : Int), .int .i64 (n4 : Int), .slice A5 ps.length c5] 36)).ownsRow (wo.heap.size + 1) 36 7 (.slice A L.length c) L.length (L.flatMap CliM.cs)) := (HI5.out.below (Gq.refl _).drew).2.1.alloc _
              have HXD : Hid (RdS (fun b => wo.heap.size + 1 ≤ b ∧ (Value.slice A L.length c).ownBlock ≠ some b) wr.drew A5 (ps.flatMap Pnt.cs)) := HX.out.same (Same.drew _)
              have HID : Hid (EdI wo wr.drew r tk A c L) := HI5.out.below (Gq.refl _).drew
              go_upto_region 21 with (fail)
              go_region_law (first
                | (refine step_append_lies _ (by rfl) (.tmp 114) (.tmp 116) 22 (by rfl) (wo.heap.size + 1) 36 ic _ 7 80 Tryz.underlying22 HIC.out.1 HIC.out.2.1 HIC.out.2.2.1 HIC.out.2.2.2 rfl (by decide) _ _ _ (by rfl) HOA.out ⟨wr.heap.size, 0, none⟩ 1 1 [.string nm, .int .i64 (n0 : Int), .int .i64 (n1 : Int), .int .i64 (n2 : Int), .int .i64 (n3 : Int), .int .i64 (n4 : Int), .slice A5 ps.length c5] (by rfl) (by rfl) (World.news_of_block (cs := #[.string nm, .int .i64 (n0 : Int), .int .i64 (n1 : Int), .int .i64 (n2 : Int), .int .i64 (n3 : Int), .int .i64 (n4 : Int), .slice A5 ps.length c5]) (t := 36) (fr := (0, 0)) (heap_alloc_new wr _)) (by simp [Value.oneCell']) (by omega) (by unfold maxLen; omega) (by omega) (by simp; omega) (wr.heap.size + 1) (by simp) ?_; intro g2 cap2 w5 hown2 hgrow2 hat2 hlt2; have HSN := Lib.hid (edi_snoc (x := ⟨nm, n0, n1, n2, n3, n4, ⟨A5, c5, ps⟩⟩) HID.out HXD.out HNX.out hown2 hgrow2 hat2); have z2 : w5.cell? ⟨wo.heap.size, 2, none⟩ = some _ := HSN.out.1.cell 2; have zf2 := HSN.out.1.frozen 2))
              all_goals
                have HI6 := Lib.hid HSN.out.2
                go_wp2_with fail
                go_ret
                exact line2_some ⟨nm, n0, n1, n2, n3, n4, ⟨A5, c5, ps⟩⟩ HRF.out HE.out rfl rfl HI6.out
            have hd : decide (i < P.length) = true := by simpa using hlt
            have hkq : k < Q.length := by have := HQL.out; omega
            have c0 := HCW2.out wr HCR.out.2.2 k hkq
            rw [← hi] at c0
            have hqz : (mkE Q[k]).size ≤ 1000000 := by rw [mkE_size]; exact HPQ.out k hkq
            have HRP := Lib.hid (point3_any (mkE Q[k]) wr (by omega))
            rw [mkE_list] at HRP
            have HSTOP : Hid (pntE Q[k] = none → RF = none) := fun hx => by
              have e : Q = Q.take k ++ Q[k] :: Q.drop (k + 1) := by rw [← List.drop_eq_getElem_cons hkq, List.take_append_drop]
              have h2 := pnts_stop (Q.drop (k + 1)) hx (Q.take k)
              rw [← e] at h2
              exact HR3.out h2
            have HGO : Hid (∀ p, pntE Q[k] = some p → pntsE (Q.take (k + 1)) = some (ps ++ [p])) := fun p hx => by
              rw [List.take_succ_eq_append_getElem hkq]; exact pnts_snoc hx HPS.out
            have hpl : ps.length ≤ 1000001 := by have := pnts_len HPS.out; rw [List.length_take] at this; omega
            obtain ⟨rp, hrp⟩ : ∃ rp, pntE Q[k] = rp := ⟨_, rfl⟩
            rw [hrp] at HRP HSTOP HGO
            clear hrp hi
            generalize mkE Q[k] = sq at *
            have hix : (0 : Int) ≤ (i : Int) := by omega
            have hix2 : (i : Int) < (P.length : Int) := by omega
            go_wp2_with fail
            refine HRP.out.mono ?_
            rintro e w3 ⟨rfl, hb3⟩
            have HC3 := Lib.hid (HCR.out.below hb3)
            clear hb3 HCR HRP c0
            cases rp with
            | none =>
              have HE := Lib.hid (HSTOP.out rfl)
              have HG4 : Hid (Gq wo (w3.alloc (.cells #[.int .i64 0, .string ⟨#[]⟩, .string ⟨#[]⟩] 70))) := (HI2.out.2.2.1.trans HC3.out.2.2).alloc _
              unfold ptE
              go_wp2_with fail
              go_ret
              exact line2_none HRF.out HE.out rfl HG4.out
            | some p =>
              have HE := Lib.hid (HGO.out p rfl)
              obtain ⟨w4, hw4⟩ : ∃ w4, w4 = w3.alloc (.cells #[.int .i64 p.at_, .string p.n, .string p.d] 70) := ⟨_, rfl⟩
              have HC4 : Hid (ClI w2 w4 nm n0 n1 n2 n3 n4 A5 c5 ps) := HC3.out.below (by rw [hw4]; exact (Gq.refl _).alloc _)
              have HKP : Hid (Blk w4 w3.heap.size 70 [.int .i64 p.at_, .string p.n, .string p.d]) := by rw [hw4]; exact Blk.new w3 _ _
              have HW4 := Lib.hid hw4
              clear hw4
              obtain ⟨pa, pn, pd⟩ := p
              unfold ptE
              simp only
              go_upto_region 18 with (fail)
              rw [← HW4.out]
              have k0 : w4.cell? ⟨w3.heap.size, 0, none⟩ = some _ := HKP.out.cell 0
              have k1 : w4.cell? ⟨w3.heap.size, 1, none⟩ = some _ := HKP.out.cell 1
              have k2 : w4.cell? ⟨w3.heap.size, 2, none⟩ = some _ := HKP.out.cell 2
              have s6 : w4.cell? ⟨w2.heap.size, 6, none⟩ = some _ := HC4.out.1.cell 6
              have hs4 := Below.size HC4.out.2.2
              have HOA : Hid ((w4.alloc (.cells #[.int .i64 pa, .string pn, .string pd] 70)).ownsRow (w2.heap.size + 1) 70 3 (.slice A5 ps.length c5) ps.length (ps.flatMap Pnt.cs)) := HC4.out.2.1.alloc _
              have hlt4 := HC4.out.1.lt
              clear HSTOP HGO
              go_wp2_with (at_builtin; refine wpList_append_lies _ rfl _ _ 34 rfl (w2.heap.size + 1) 70 ip _ 3 40 Tryz.underlying34 HIP.out.1 HIP.out.2.1 HIP.out.2.2.1 HIP.out.2.2.2 rfl (by decide) _ _ _ rfl HOA.out ⟨w4.heap.size, 0, none⟩ 1 1 [.int .i64 pa, .string pn, .string pd] (by rfl) (by rfl) (World.news_of_block (cs := #[.int .i64 pa, .string pn, .string pd]) (t := 70) (fr := (0, 0)) (heap_alloc_new w4 _)) (by simp [Value.oneCell']) (by decide) (by unfold maxLen; omega) (by omega) (by simp; omega) (w4.heap.size + 1) (by simp) ?_; intro g2 cap2 w5 hown2 hgrow2 hat2 hlt2; have HSN := Lib.hid (cli_snoc (p := ⟨pa, pn, pd⟩) HC4.out hown2 hgrow2); have z6 : w5.cell? ⟨w2.heap.size, 6, none⟩ = some _ := HSN.out.1.cell 6; have zf6 := HSN.out.1.frozen 6; have HC5 := Lib.hid HSN.out.2; clear hown2 hgrow2 hat2 hlt2 HOA HSN)
              go_roundw
              case rel => exact ⟨k + 1, ps ++ [⟨pa, pn, pd⟩], _, _, by have := HIK.out; omega, by have := HIK.out; go_num, HE, HC5⟩
              case measure => simp [intOf]; omega
end Go.Proofs.YtpiiickhfcjnmaaGreatDoor
