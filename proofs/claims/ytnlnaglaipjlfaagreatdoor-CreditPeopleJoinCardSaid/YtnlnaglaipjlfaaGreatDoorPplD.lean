/- The contract of credit.mains. -/
import Derived.Test.YtnlnaglaipjlfaaGreatDoorPplQ
import Derived.Test.YtnlnaglaipjlfaaGreatDoorEqS
import Derived.Test.YtnlnaglaipjlfaaGreatDoorRdW0
import Derived.Deep.DeepCutAuto
import Derived.Lib.MinMaxS
namespace Go.Proofs.YtnlnaglaipjlfaaGreatDoor
open Go.RowKit Go.Dw Go.Maps

theorem sLt_iff (a b : ByteArray) : sLt a b ↔ a.data.toList < b.data.toList := by
  unfold sLt bL; rw [Go.Proofs.bytesLess_eq]; simp
theorem mm_lt {a b : ByteArray} (h : sLt a b) : Lib.maxS a b = b ∧ Lib.minS a b = a := by
  have h1 := (sLt_iff a b).1 h
  unfold Lib.maxS Lib.minS
  exact ⟨if_pos h1, if_pos (.inl h1)⟩
theorem mm_gt {a b : ByteArray} (h : sLt b a) : Lib.maxS a b = a ∧ Lib.minS a b = b := by
  have h1 : ¬ a.data.toList < b.data.toList := fun h2 => sLt_asymm h ((sLt_iff a b).2 h2)
  have h2 : ¬ a.data.toList = b.data.toList := fun e => by have := ba_ext e; subst this; exact sLt_irr a h
  unfold Lib.maxS Lib.minS
  exact ⟨if_neg h1, if_neg (fun h3 => h3.elim h1 h2)⟩
/-- a map of labels -/
def OfM (w : World) (b : Nat) (p : Ppl) : Prop := OMap Tryz.prog 9 w b 30000 (ofK p.ps (lab p) p.ps.length)
def MainsPost (w : World) (p : Ppl) (e : Ending) (w' : World) : Prop := ∃ b, w.heap.size ≤ b ∧ e = .returned (.map (some b)) ∧ OfM w' b p ∧ Below w.heap.size w w'
theorem peoBox {w : World} {a b : Value} : (w.alloc (.cells #[a, b] 25)).cell? ⟨w.heap.size, 0, none⟩ = some a ∧ (w.alloc (.cells #[a, b] 25)).cell? ⟨w.heap.size, 1, none⟩ = some b :=
  ⟨new_cell (cs := [_, _]) rfl rfl, new_cell (cs := [_, _]) rfl rfl⟩
set_option maxRecDepth 100000 in
set_option maxHeartbeats 4000000 in
theorem mains_any (x : Peo) (w : World) (h : PeoOk w x) (hps : PsR x.x.ps) (hcs : ClR x.x.ps x.x.cs) (hn : x.x.ps.length ≤ 100) (hm : x.x.cs.length ≤ 200) :
    Calls Tryz.prog 33 #[x.v] w (MainsPost w x.x) := by
  have HP := Lib.hid h.pr
  have HC := Lib.hid h.cr
  have HPO := Lib.hid h.po
  have HCO := Lib.hid h.co
  have HPS := Lib.hid hps
  have HCS := Lib.hid hcs
  obtain ⟨⟨A, c, L⟩, ⟨B, d, C⟩⟩ := x
  obtain ⟨p, hp⟩ : ∃ p : Ppl, p = Peo.x ⟨⟨A, c, L⟩, ⟨B, d, C⟩⟩ := ⟨_, rfl⟩
  have HPP : Hid (p.ps = L.map Psn.x) := by rw [hp]; rfl
  have HPC : Hid (p.cs = C) := by rw [hp]; rfl
  rw [← hp] at HPS HCS hn hm ⊢
  have HLN : Hid (p.ps.length = L.length) := by show _ = _; rw [HPP.out]; simp
  have hn' : L.length ≤ 100 := by rw [← HLN.out]; exact hn
  have hm' : C.length ≤ 200 := by rw [← HPC.out]; exact hm
  have HID : Hid (∀ k (hk : k < L.length), idAt p.ps k = L[k].id) := fun k hk => by
    rw [idAt_at (by rw [HLN.out]; exact hk)]
    simp only [HPP.out, List.getElem_map]; rfl
  have HSZ : Hid (∀ k (hk : k < L.length), (idAt p.ps k).size ≤ 9223372036854775807) := fun k hk => by
    rw [HID.out k hk]; exact (HPO.out _ (List.getElem_mem hk)).1.1
  unfold Peo.v
  simp only [Slc.v]
  simp only at HP HC HPO HCO
  clear h hps hcs hp hn hm
  obtain ⟨w0, hw0⟩ : ∃ w0, w0 = w.alloc (.cells #[.slice A L.length c, .slice B C.length d] 25) := ⟨_, rfl⟩
  have HB0 : Hid (Below w.heap.size w w0) := by rw [hw0]; exact (Below.refl _ _).alloc (Nat.le_refl _) _
  have HX0 : Hid (w0.cell? ⟨w.heap.size, 0, none⟩ = some (.slice A L.length c) ∧ w0.cell? ⟨w.heap.size, 1, none⟩ = some (.slice B C.length d)) := by rw [hw0]; exact peoBox
  have hz0 : w.heap.size < w0.heap.size := by rw [hw0]; simp
  have hz1 : w0.heap.size = w.heap.size + 1 := by rw [hw0]; simp
  have HZ1 := Lib.hid hz1
  obtain ⟨w1, hw1⟩ : ∃ w1, w1 = w0.alloc (.map #[] 0) := ⟨_, rfl⟩
  have HM1 : Hid (OMap Tryz.prog 9 w1 (w.heap.size + 1) 0 (ofK p.ps id 0)) := by rw [hw1, ofK_zero, ← hz1]; exact OMap.made w0 _ _
  have HG1 : Hid (Gq w0 w1) := by rw [hw1]; exact (Gq.refl _).alloc _
  have HW0 := Lib.hid hw0
  have HW1 := Lib.hid hw1
  have HPX : Hid (∀ W, Gq w0 W → Rd W A (L.flatMap Psn.cs) ∧ Rd W B (C.flatMap Clm.cs) ∧ Below w.heap.size w W ∧ W.cell? ⟨w.heap.size, 0, none⟩ = some (.slice A L.length c) ∧ W.cell? ⟨w.heap.size, 1, none⟩ = some (.slice B C.length d)) := fun W hW => by
    have hb : Below w.heap.size w W := HB0.out.trans (Below.mono hW HB0.out.size)
    exact ⟨HP.out.below hb, HC.out.below hb, hb, by rw [Below.cell hW (by exact hz0)]; exact HX0.out.1, by rw [Below.cell hW (by exact hz0)]; exact HX0.out.2⟩
  clear hw0 hw1 HP HC HB0 HX0 hz1
  have hmm := @run_makeMap Tryz.prog
  go_enter Tryz.func33, Tryz.ntmps33
  go_upto_region 2 with (fail)
  rw [← HW0.out, ← HW1.out]
  obtain ⟨_, _, _, z0, z1⟩ := HPX.out w1 HG1.out
  go_wp2_with fail
  go_loopw [18] (fun kv wr => ∃ k : Nat, k ≤ L.length ∧ kv = .int .i64 (k : Int) ∧ Hid (OMap Tryz.prog 9 wr (w.heap.size + 1) k (ofK p.ps id k)) ∧ Hid (Gq w0 wr)) (fun kv _ => L.length - (intOf kv).toNat)
  case atStart => exact ⟨0, Nat.zero_le _, rfl, HM1, HG1⟩
  case round =>
    obtain ⟨k, hk, rfl, HM, HG⟩ := hrel
    obtain ⟨rp, rc, rb, y0, y1⟩ := HPX.out wr HG.out
    have HRP := Lib.hid rp
    have HRC := Lib.hid rc
    have HBW := Lib.hid rb
    clear rp rc rb z0 z1
    by_cases hlt : k < L.length
    · have hd1 : decide (k < L.length) = true := by simpa using hlt
      obtain ⟨b, off, rfl, hb, hcs⟩ := psn_at HRP.out (by omega)
      obtain ⟨d0, d1⟩ := hcs k hlt
      have hlt2 : k < p.ps.length := by rw [HLN.out]; exact hlt
      have HK1 := Lib.hid (ofK_put1 HPS.out (f := id) hlt2 rfl)
      have HK2 := Lib.hid (ofK_put2 (ps := p.ps) (f := id) hlt2)
      have HKY := Lib.hid (strKey (HSZ.out k hlt))
      rw [HID.out k hlt] at HK1 HK2 HKY
      clear hcs
      generalize L[k] = xx at *
      obtain ⟨id1, ⟨sa, sc, sl⟩⟩ := xx
      simp only at d0 d1 HK1 HK2 HKY
      have HMA : Hid (OMap Tryz.prog 9 (wr.alloc (.cells #[.string id1, .slice sa sl.length sc] 41)) (w.heap.size + 1) k (ofK p.ps id k)) := HM.out.alloc _
      have HGA : Hid (Gq w0 (wr.alloc (.cells #[.string id1, .slice sa sl.length sc] 41))) := HG.out.alloc _
      go_wp2_with (at_mapUpdate; refine wpList_omap _ rfl _ _ _ 65 rfl 9 9 strKeyed Tryz.underlying65 (w.heap.size + 1) k (ofK p.ps id k) (by rfl) HMA.out (by unfold maxLen; omega) (.string id1) (.string id1) (by rfl) (by rfl) _ HKY.out (ofK p.ps id (k + 1)) HK1.out HK2.out ?_; intro w5 ho5 hg5)
      have HM5 := Lib.hid ho5
      have HG5 : Hid (Gq w0 w5) := Below.grown HGA.out hg5 (Below.size HGA.out) (fun j hj => by injection hj with hj; have := HZ1.out; omega)
      clear ho5 hg5
      go_wp2_with fail
      go_roundw
      case rel => exact ⟨k + 1, by omega, by go_num, HM5, HG5⟩
      case measure => simp [intOf]; omega
    have hke : k = L.length := by omega
    subst hke
    have hd1 : decide (L.length < L.length) = false := by simp
    have HMS : Hid (OMap Tryz.prog 9 wr (w.heap.size + 1) 100 (ofK p.ps (labK p 0) p.ps.length)) := by rw [HLN.out, labK_zero]; exact HM.out.mono hn'
    clear hlt HM
    obtain ⟨wo, hwo⟩ : ∃ wo, wo = wr := ⟨_, rfl⟩
    subst hwo
    go_wp2_with fail
    go_loopw [31] (fun kv wr => ∃ k : Nat, k ≤ C.length ∧ kv = .int .i64 (k : Int) ∧ Hid (OMap Tryz.prog 9 wr (w.heap.size + 1) (100 + k * 100) (ofK p.ps (labK p k) p.ps.length)) ∧ Hid (Gq w0 wr)) (fun kv _ => C.length - (intOf kv).toNat)
    case atStart => exact ⟨0, Nat.zero_le _, rfl, HMS, HG⟩
    case round =>
      obtain ⟨k, hk, rfl, HM, HG2⟩ := hrel
      obtain ⟨w2, hw2⟩ : ∃ w2, w2 = wr := ⟨_, rfl⟩
      subst hw2
      by_cases hlt : k < C.length
      case neg =>
        have hd2 : decide (k < C.length) = false := by simpa using hlt
        have hke : k = C.length := by omega
        have HE : Hid (labK p k = lab p) := by show _ = _; rw [hke, ← HPC.out, labK_end]
        have HF : Hid (OfM w2 (w.heap.size + 1) p) := by
          have := HM.out.mono (m := 30000) (by omega)
          rw [HE.out] at this; exact this
        have HBF : Hid (Below w.heap.size w w2) := (HPX.out w2 HG2.out).2.2.1
        clear hke
        go_wp2_with fail
        go_ret
        exact ⟨_, by omega, rfl, HF.out, HBF.out⟩
      have hd2 : decide (k < C.length) = true := by simpa using hlt
      obtain ⟨rp, rc, rb, x0, x1⟩ := HPX.out w2 HG2.out
      have HRP2 := Lib.hid rp
      obtain ⟨b, off, rfl, hb, hcs⟩ := clm_at rc (by omega)
      obtain ⟨d0, d1, d2⟩ := hcs k hlt
      clear rp rc rb y0 y1 hcs
      have hltp : k < p.cs.length := by rw [HPC.out]; exact hlt
      have hck : p.cs[k] = C[k] := by simp only [HPC.out]
      have hmem : C[k] ∈ p.cs := by rw [HPC.out]; exact List.getElem_mem hlt
      have ia := HCS.out.ia _ hmem
      have ib := HCS.out.ib _ hmem
      obtain ⟨sza, szb⟩ := HCO.out C[k] (List.getElem_mem hlt)
      have HSK : Hid (C[k].s = false → labK p (k + 1) = labK p k) := fun h => labK_skip hltp (by rw [hck]; exact h)
      have HSM : Hid (labK p k (ixP p.ps C[k].a) = labK p k (ixP p.ps C[k].b) → labK p (k + 1) = labK p k) := fun h => labK_same hltp (by rw [hck]; exact h)
      have HMG : Hid (C[k].s = true → labK p k (ixP p.ps C[k].a) ≠ labK p k (ixP p.ps C[k].b) → ∀ i, i < p.ps.length → mrg (labK p k) (max (labK p k (ixP p.ps C[k].a)) (labK p k (ixP p.ps C[k].b))) (min (labK p k (ixP p.ps C[k].a)) (labK p k (ixP p.ps C[k].b))) p.ps.length i = labK p (k + 1) i) := fun h1 h2 => by
        have := labK_merge (p := p) hltp (by rw [hck]; exact h1) (by rw [hck]; exact h2) p.ps.length
        rw [hck] at this; exact this
      have ga := labK_lt (p := p) k ia
      have gb := labK_lt (p := p) k ib
      have HLA := Lib.hid (ofK_at (f := labK p k) ia)
      have HLB := Lib.hid (ofK_at (f := labK p k) ib)
      have HKA := Lib.hid (strKey sza)
      have HKB := Lib.hid (strKey szb)
      have HGL : Hid (∀ i, i < p.ps.length → labK p k i < p.ps.length) := fun i hi => labK_lt k hi
      clear hck hmem ia ib sza szb
      generalize labK p k (ixP p.ps C[k].a) = la at *
      generalize labK p k (ixP p.ps C[k].b) = lb at *
      obtain ⟨g1, hg1⟩ : ∃ g1, labK p (k + 1) = g1 := ⟨_, rfl⟩
      have HG1K := Lib.hid hg1
      rw [hg1] at HSK HSM HMG
      clear hg1
      generalize labK p k = g at *
      generalize C[k] = cc at *
      obtain ⟨ca, cb, cs⟩ := cc
      simp only at d0 d1 d2 HSK HMG HLA HLB HKA HKB
      obtain ⟨wB, hwB⟩ : ∃ wB, wB = w2.alloc (.cells #[.string ca, .string cb, .bool cs] 49) := ⟨_, rfl⟩
      have HMB : Hid (OMap Tryz.prog 9 wB (w.heap.size + 1) (100 + k * 100) (ofK p.ps g p.ps.length)) := by rw [hwB]; exact HM.out.alloc _
      have HGB : Hid (Gq w0 wB) := by rw [hwB]; exact HG2.out.alloc _
      have k0 : wB.cell? ⟨w2.heap.size, 0, none⟩ = some (.string ca) := by rw [hwB]; exact new_cell (cs := [_, _, _]) rfl rfl
      have k1 : wB.cell? ⟨w2.heap.size, 1, none⟩ = some (.string cb) := by rw [hwB]; exact new_cell (cs := [_, _, _]) rfl rfl
      have k2 : wB.cell? ⟨w2.heap.size, 2, none⟩ = some (.bool cs) := by rw [hwB]; exact new_cell (cs := [_, _, _]) rfl rfl
      have HWB := Lib.hid hwB
      have hrA := fun n => (HMB.out.drewN n).look strKeyed Tryz.underlying65 zeroStr HKA.out
      have hrB := fun n => (HMB.out.drewN n).look strKeyed Tryz.underlying65 zeroStr HKB.out
      simp only [HLA.out, Option.getD_some] at hrA
      simp only [HLB.out, Option.getD_some] at hrB
      have HIJ : Hid (idAt p.ps la = idAt p.ps lb ↔ la = lb) := HPS.out.idInj ga gb
      have HLT1 : Hid (sLt (idAt p.ps la) (idAt p.ps lb) ↔ la < lb) := HPS.out.idLt ga gb
      have HLT2 : Hid (sLt (idAt p.ps lb) (idAt p.ps la) ↔ lb < la) := HPS.out.idLt gb ga
      have HGA := Lib.hid ga
      have HGBl := Lib.hid gb
      clear hwB HM HLA HLB ga gb
      obtain ⟨nA, hnA⟩ : ∃ nA, idAt p.ps la = nA := ⟨_, rfl⟩
      obtain ⟨nB, hnB⟩ : ∃ nB, idAt p.ps lb = nB := ⟨_, rfl⟩
      simp only [hnA] at hrA
      simp only [hnB] at hrB
      rw [hnA, hnB] at HIJ HLT1 HLT2
      have HNA := Lib.hid hnA
      have HNB := Lib.hid hnB
      clear hnA hnB
      go_upto_region 10 with (fail)
      rw [← HWB.out]
      clear d0 d1 d2
      go_quiet (fail)
      have HGW : Hid (Gq w0 (wB.drewN nq)) := below_drewN HGB.out nq
      have HMW : Hid (OMap Tryz.prog 9 (wB.drewN nq) (w.heap.size + 1) (100 + k * 100) (ofK p.ps g p.ps.length)) := HMB.out.drewN nq
      have k2' : (wB.drewN nq).cell? ⟨w2.heap.size, 2, none⟩ = some (.bool cs) := k2
      have x0' : (wB.drewN nq).cell? ⟨w.heap.size, 0, none⟩ = some (.slice A L.length c) := (HPX.out _ HGW.out).2.2.2.1
      obtain ⟨w3, hw3⟩ : ∃ w3, w3 = wB.drewN nq := ⟨_, rfl⟩
      rw [← hw3] at HGW HMW k2' x0' ⊢
      clear hw3 hrA hrB k0 k1 k2 HMB HGB
      by_cases hsk : cs = false ∨ la = lb
      · have HZ : Hid (g1 = g) := by
          show _ = _
          rcases hsk with h | h
          · exact HSK.out h
          · exact HSM.out h
        have HM3 : Hid (OMap Tryz.prog 9 w3 (w.heap.size + 1) (100 + (k + 1) * 100) (ofK p.ps g1 p.ps.length)) := by rw [HZ.out]; exact HMW.out.mono (by omega)
        rcases hsk with h | h
        · subst h
          go_wp2_with fail
          go_roundw
          case rel => exact ⟨k + 1, by omega, by go_num, HG1K.out ▸ HM3, HGW⟩
          case measure => simp [intOf]; omega
        · have hse := seq_t (HIJ.out.2 h)
          clear h
          cases cs
          · go_wp2_with fail
            go_roundw
            case rel => exact ⟨k + 1, by omega, by go_num, HG1K.out ▸ HM3, HGW⟩
            case measure => simp [intOf]; omega
          · go_wp2_with fail
            go_roundw
            case rel => exact ⟨k + 1, by omega, by go_num, HG1K.out ▸ HM3, HGW⟩
            case measure => simp [intOf]; omega
      have hcs : cs = true := by cases cs with | true => rfl | false => exact absurd (.inl rfl) hsk
      have hne : la ≠ lb := fun e => hsk (.inr e)
      subst hcs
      have HMG2 := Lib.hid (HMG.out (by first | rfl | trivial) hne)
      have hse := seq_f (fun e => hne (HIJ.out.1 e))
      obtain ⟨hi, lo, hmax, hmin⟩ : ∃ hi lo, max la lb = hi ∧ min la lb = lo := ⟨_, _, rfl, rfl⟩
      rw [hmax, hmin] at HMG2
      have HMX : Hid (Lib.maxS nA nB = idAt p.ps hi ∧ Lib.minS nA nB = idAt p.ps lo ∧ hi < p.ps.length) := by
        rcases Nat.lt_or_ge la lb with h | h
        · obtain ⟨e1, e2⟩ := mm_lt (HLT1.out.2 h)
          rw [e1, e2, ← hmax, ← hmin, show max la lb = lb by omega, show min la lb = la by omega, HNA.out, HNB.out]
          exact ⟨rfl, rfl, HGBl.out⟩
        · obtain ⟨e1, e2⟩ := mm_gt (HLT2.out.2 (by omega))
          rw [e1, e2, ← hmax, ← hmin, show max la lb = la by omega, show min la lb = lb by omega, HNA.out, HNB.out]
          exact ⟨rfl, rfl, HGA.out⟩
      have hrx := Lib.run_max_strs (P := Tryz.prog) w3 #[9, 9] 9 nA nB
      have hrn := Lib.run_min_strs (P := Tryz.prog) w3 #[9, 9] 9 nA nB
      rw [HMX.out.1] at hrx
      rw [HMX.out.2.1] at hrn
      have HHI : Hid (hi < p.ps.length) := HMX.out.2.2
      have HMS3 : Hid (OMap Tryz.prog 9 w3 (w.heap.size + 1) (100 + k * 100 + 0) (ofK p.ps (mrg g hi lo 0) p.ps.length)) := by rw [mrg_zero]; exact HMW.out
      clear hsk hne hmax hmin HIJ HLT1 HLT2 HSK HSM HMG HMX HMW HNA HNB
      go_wp2_with fail
      go_loopw [60] (fun jv wr => ∃ j : Nat, j ≤ L.length ∧ jv = .int .i64 (j : Int) ∧ Hid (OMap Tryz.prog 9 wr (w.heap.size + 1) (100 + k * 100 + j) (ofK p.ps (mrg g hi lo j) p.ps.length)) ∧ Hid (Gq w0 wr)) (fun jv _ => L.length - (intOf jv).toNat)
      case atStart => exact ⟨0, Nat.zero_le _, rfl, HMS3, HGW⟩
      case round =>
        obtain ⟨j, hj, rfl, HMJ, HGJ⟩ := hrel
        obtain ⟨w4, hw4⟩ : ∃ w4, w4 = wr := ⟨_, rfl⟩
        subst hw4
        by_cases hlj : j < L.length
        case neg =>
          have hd3 : decide (j < L.length) = false := by simpa using hlj
          have hje : j = p.ps.length := by rw [HLN.out]; omega
          have HM4 : Hid (OMap Tryz.prog 9 w4 (w.heap.size + 1) (100 + (k + 1) * 100) (ofK p.ps g1 p.ps.length)) := by
            have h1 := HMJ.out.mono (m := 100 + (k + 1) * 100) (by omega)
            rw [hje, ofK_congr HMG2.out] at h1
            exact h1
          clear hje
          go_wp2_with fail
          go_roundw
          case rel => exact ⟨k + 1, by omega, by go_num, HG1K.out ▸ HM4, HGJ⟩
          case measure => simp [intOf]; omega
        have hd3 : decide (j < L.length) = true := by simpa using hlj
        obtain ⟨rp, _, _, _, _⟩ := HPX.out w4 HGJ.out
        obtain ⟨b3, off3, rfl, hb3, hcs3⟩ := psn_at rp (by omega)
        obtain ⟨d0, d1⟩ := hcs3 j hlj
        clear rp hcs3
        have hljp : j < p.ps.length := by rw [HLN.out]; exact hlj
        have HK1 := Lib.hid (fun h => ofK_mrg1 HPS.out (g := g) (hi := hi) (lo := lo) hljp h)
        have HK2 := Lib.hid (ofK_mrg2 (ps := p.ps) (g := g) (hi := hi) (lo := lo) hljp)
        have HSKP := Lib.hid (fun h => mrg_skip (g := g) (hi := hi) (lo := lo) (j := j) h)
        have HKY := Lib.hid (strKey (HSZ.out j hlj))
        have hrun := HMJ.out.look strKeyed Tryz.underlying65 zeroStr HKY.out
        rw [ofK_at (by rw [HPS.out.ixAt hljp]; exact hljp), HPS.out.ixAt hljp, mrg_at, Option.getD_some] at hrun
        have HEQ : Hid (idAt p.ps (g j) = idAt p.ps hi ↔ g j = hi) := HPS.out.idInj (HGL.out j hljp) HHI.out
        rw [HID.out j hlj] at HK1 HK2 HKY hrun
        generalize L[j] = xx at *
        obtain ⟨id1, ⟨sa, sc, sl⟩⟩ := xx
        simp only at d0 d1 HK1 HK2 HKY hrun
        obtain ⟨w5, hw5⟩ : ∃ w5, w5 = w4.alloc (.cells #[.string id1, .slice sa sl.length sc] 41) := ⟨_, rfl⟩
        have HM5 : Hid (OMap Tryz.prog 9 w5 (w.heap.size + 1) (100 + k * 100 + j) (ofK p.ps (mrg g hi lo j) p.ps.length)) := by rw [hw5]; exact HMJ.out.alloc _
        have HG5 : Hid (Gq w0 w5) := by rw [hw5]; exact HGJ.out.alloc _
        have hrun5 := HM5.out.look strKeyed Tryz.underlying65 zeroStr HKY.out
        have HRV : Hid ((ofK p.ps (mrg g hi lo j) p.ps.length (.string id1)).getD (.string ⟨#[]⟩) = .string (idAt p.ps (g j))) := by
          have h1 := HMJ.out.look strKeyed Tryz.underlying65 zeroStr HKY.out
          rw [hrun] at h1
          injection h1 with h1 _
          exact h1.symm
        rw [HRV.out] at hrun5
        have k0 : w5.cell? ⟨w4.heap.size, 0, none⟩ = some (.string id1) := by rw [hw5]; exact new_cell (cs := [_, _]) rfl rfl
        have HW5 := Lib.hid hw5
        clear hw5 hrun
        by_cases he : g j = hi
        · have hse2 := seq_t (HEQ.out.2 he)
          have HP1 := Lib.hid (HK1.out he)
          clear he HEQ HK1
          go_upto_region 16 with (fail)
          rw [← HW5.out]
          clear d0 d1
          go_wp2_with (at_mapUpdate; refine wpList_omap _ rfl _ _ _ 65 rfl 9 9 strKeyed Tryz.underlying65 (w.heap.size + 1) (100 + k * 100 + j) (ofK p.ps (mrg g hi lo j) p.ps.length) (by rfl) HM5.out (by unfold maxLen; omega) (.string id1) (.string (idAt p.ps lo)) (by rfl) (by rfl) _ HKY.out (ofK p.ps (mrg g hi lo (j + 1)) p.ps.length) HP1.out HK2.out ?_; intro w6 ho6 hg6)
          have HM6 := Lib.hid ho6
          have HG6 : Hid (Gq w0 w6) := Below.grown HG5.out hg6 (Below.size HG5.out) (fun j hj => by injection hj with hj; have := HZ1.out; omega)
          clear ho6 hg6
          go_wp2_with fail
          go_roundw
          case rel => exact ⟨j + 1, by omega, by go_num, HM6, HG6⟩
          case measure => simp [intOf]; omega
        · have hse2 := seq_f (fun e => he (HEQ.out.1 e))
          have HM6 : Hid (OMap Tryz.prog 9 w5 (w.heap.size + 1) (100 + k * 100 + (j + 1)) (ofK p.ps (mrg g hi lo (j + 1)) p.ps.length)) := by rw [HSKP.out he]; exact HM5.out.mono (by omega)
          clear he HEQ HK1
          go_upto_region 16 with (fail)
          rw [← HW5.out]
          clear d0 d1
          go_wp2_with fail
          go_roundw
          case rel => exact ⟨j + 1, by omega, by go_num, HM6, HG5⟩
          case measure => simp [intOf]; omega
end Go.Proofs.YtnlnaglaipjlfaaGreatDoor
