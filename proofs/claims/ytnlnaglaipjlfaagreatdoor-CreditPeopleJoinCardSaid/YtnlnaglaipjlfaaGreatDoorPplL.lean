/- The contract of the reference's leaders. -/
import Derived.Test.YtnlnaglaipjlfaaGreatDoorPplK
import Derived.Deep.DeepCutAuto
import Derived.Deep.CutBlock
namespace Go.Proofs.YtnlnaglaipjlfaaGreatDoor
open Go.RowKit Go.Dw

theorem info_int : (Tryz.prog.info? 3).map (fun i => (i.zero, i.size, i.bytes)) = some (some (.int .i64 0), 1, 8) := by kernel_rfl
theorem call_gq {n : Nat} {args : Array Value} {w : World} {v : Value} (h : ∀ W, Gq w W → Calls Tryz.prog n args W fun e w' => e = .returned v ∧ Below W.heap.size W w') (W : World) (hW : Gq w W) : Calls Tryz.prog n args W fun e w' => e = .returned v ∧ Gq w w' :=
  (h W hW).mono fun _ _ ⟨he, hb⟩ => ⟨he, Below.trans hW (hb.mono (Below.size hW))⟩
set_option maxRecDepth 100000 in
set_option maxHeartbeats 8000000 in
theorem leaders_any (x : Peo) (w : World) (h : PeoOk w x) (hcs : ClR x.x.ps x.x.cs) (hn : x.x.ps.length ≤ 100) (hm : x.x.cs.length ≤ 200) :
    Calls Tryz.prog 47 #[x.v] w (LeadPost w x.x) := by
  have HOK := Lib.hid h
  have HPN := Lib.hid (fun (q : ByteArray) (W : World) (hW : Below w.heap.size w W) => personR_any x q W (h.below hW))
  have HCS := Lib.hid hcs
  obtain ⟨⟨A, c, L⟩, ⟨B, d, C⟩⟩ := x
  obtain ⟨p, hp⟩ : ∃ p : Ppl, p = Peo.x ⟨⟨A, c, L⟩, ⟨B, d, C⟩⟩ := ⟨_, rfl⟩
  have HPP : Hid (p.ps = L.map Psn.x) := by rw [hp]; rfl
  have HPC : Hid (p.cs = C) := by rw [hp]; rfl
  rw [← hp] at HCS HPN hn hm ⊢
  have HLN : Hid (p.ps.length = L.length) := by show _ = _; rw [HPP.out]; simp
  have hn' : L.length ≤ 100 := by rw [← HLN.out]; exact hn
  have hm' : C.length ≤ 200 := by rw [← HPC.out]; exact hm
  unfold Peo.v at *
  simp only [Slc.v] at *
  clear h hcs hp hn hm
  obtain ⟨ii, hii, hzi0, hzi1, hzi2⟩ := info_parts info_int
  have HII := Lib.hid (And.intro hii (And.intro hzi0 (And.intro hzi1 hzi2)))
  clear hii hzi0 hzi1 hzi2
  obtain ⟨w0, hw0⟩ : ∃ w0, w0 = w.alloc (.cells #[.slice A L.length c, .slice B C.length d] 25) := ⟨_, rfl⟩
  have HB0 : Hid (Below w.heap.size w w0) := by rw [hw0]; exact (Below.refl _ _).alloc (Nat.le_refl _) _
  have HX0 : Hid (w0.cell? ⟨w.heap.size, 0, none⟩ = some (.slice A L.length c) ∧ w0.cell? ⟨w.heap.size, 1, none⟩ = some (.slice B C.length d)) := by rw [hw0]; exact peoBox
  have hz0 : w.heap.size < w0.heap.size := by rw [hw0]; simp
  have HW0 := Lib.hid hw0
  have HPX : Hid (∀ W, Gq w0 W → Below w.heap.size w W ∧ W.cell? ⟨w.heap.size, 0, none⟩ = some (.slice A L.length c) ∧ W.cell? ⟨w.heap.size, 1, none⟩ = some (.slice B C.length d)) := fun W hW => by
    have hb : Below w.heap.size w W := HB0.out.trans (Below.mono hW HB0.out.size)
    exact ⟨hb, by rw [Below.cell hW (by exact hz0)]; exact HX0.out.1, by rw [Below.cell hW (by exact hz0)]; exact HX0.out.2⟩
  obtain ⟨_, z0, z1⟩ := HPX.out w0 (Gq.refl _)
  clear hw0 HX0
  go_enter Tryz.func47, Tryz.ntmps47
  go_upto_region 1 with (fail)
  rw [← HW0.out]
  go_upto_block 0 with (fail)
  go_cut [3] (fun v wx => ∃ A2 c2, v = .slice A2 L.length c2 ∧ Hid (Ow w0 A2 L.length c2 (List.range L.length) wx))
  case first =>
    go_wp2_with fail
    go_loopw [3, 14] (fun gv iv wr => ∃ (i : Nat) (N : List Nat), i ≤ L.length ∧ iv = .int .i64 (i : Int) ∧ N.length ≤ i ∧ Hid (N = List.range i) ∧ Hid (wr.ownsRow w0.heap.size 3 1 gv N.length (nc N)) ∧ Hid (Below w0.heap.size w0 wr)) (fun _ iv _ => L.length - (intOf iv).toNat)
    case atStart => exact ⟨0, [], by omega, rfl, by simp, rfl, World.ownsRow_nil _ _ _ _, Below.refl _ _⟩
    case round =>
      obtain ⟨i, N, hi, rfl, hNl, HN, HO, HB⟩ := hrel
      obtain ⟨A2, c2, rfl⟩ := slice_of_own HO.out
      have hsz := HB.out.size
      by_cases hil : i < L.length
      case neg =>
        have hie : i = L.length := by omega
        have hd1 : decide (i < L.length) = false := by simpa using hil
        have HNE : Hid (N.length = L.length) := by show _ = _; rw [HN.out, hie]; simp
        have HGP : Hid (Ow w0 A2 L.length c2 (List.range L.length) wr) := by
          have h1 := HO.out
          rw [HNE.out] at h1
          rw [HN.out, hie] at h1
          exact ⟨by simp, h1, HB.out⟩
        clear hie
        go_wp2_with fail
        go_meet
        case rel => exact ⟨A2, c2, by rw [HNE.out], HGP⟩
      have hd1 : decide (i < L.length) = true := by simpa using hil
      have HOA : Hid ((wr.alloc (.cells #[.int .i64 (i : Int)] 3)).ownsRow w0.heap.size 3 1 (.slice A2 N.length c2) N.length (nc N)) := HO.out.alloc _
      have HNX : Hid (N ++ [i] = List.range (i + 1)) := by show _ = _; rw [HN.out, List.range_succ]
      go_wp2_with (at_builtin; refine wpList_append_own _ rfl _ _ 83 rfl w0.heap.size 3 ii _ 1 8 Tryz.underlying83 HII.out.1 HII.out.2.1 HII.out.2.2.1 HII.out.2.2.2 rfl (by decide) _ _ _ rfl HOA.out ⟨wr.heap.size, 0, none⟩ 1 1 [.int .i64 (i : Int)] (by rfl) (by rfl) (World.news_of_block (cs := #[.int .i64 (i : Int)]) (t := 3) (fr := (0, 0)) (heap_alloc_new wr _)) (by simp [Value.oneCell']) (by unfold maxLen; omega) (by omega) (by simp; omega) ?_; intro v1 w5 hown2 hgrow2 _)
      have HB5 : Hid (Below w0.heap.size w0 w5) := (HB.out.alloc hsz _).grown hgrow2 (by simp; omega) (fun g hg => (HO.out.lt g hg).1)
      have HO5 : Hid (w5.ownsRow w0.heap.size 3 1 v1 (N ++ [i]).length (nc (N ++ [i]))) := by
        show World.ownsRow _ _ _ _ _ _ _
        rw [nc_snoc, List.length_append]
        exact hown2
      clear hown2 hgrow2 HOA
      have hl5 : (N ++ [i]).length ≤ i + 1 := by simp; omega
      generalize N ++ [i] = N2 at *
      go_wp2_with fail
      go_roundw
      case rel => exact ⟨i + 1, N2, by omega, by go_num, hl5, HNX, HO5, HB5⟩
      case measure => simp [intOf]; omega
  case rest =>
    obtain ⟨A2, c2, rfl, HG⟩ := hcut
    clear z0 z1
    have HOI : Hid (OutI (edg p.ps p.cs) (List.range L.length)) := OutI.start _ _
    generalize List.range L.length = out1 at HG HOI
    go_wp2_with fail
    go_loopw [5] (fun av wr => ∃ (ag : Bool) (out : List Nat), av = .bool ag ∧ Hid (Ow w0 A2 L.length c2 out wr) ∧ Hid (OutI (edg p.ps p.cs) out) ∧ Hid (ag = false → ∀ e ∈ edg p.ps p.cs, out.getD e.1 0 = out.getD e.2 0)) (fun av wr => 2 * mW A2 L.length wr + bM av)
    case atStart => exact ⟨true, out1, rfl, HG, HOI, by intro h; simp at h⟩
    case round =>
      clear HG HOI
      obtain ⟨ag, out0, rfl, HO, HI, HF⟩ := hrel
      obtain ⟨wo, hwo⟩ : ∃ wo, wo = wr := ⟨_, rfl⟩
      subst hwo
      cases ag with
      | false =>
        have HP : Hid (LeadPost w p (.returned (.slice A2 L.length c2)) wo) := by
          have he := lead_done HCS.out HI.out (by rw [HO.out.len, HLN.out]) (HF.out rfl)
          refine ⟨A2, c2, by rw [HLN.out], ?_, HB0.out.trans (HO.out.bel.mono HB0.out.size)⟩
          rw [← he]
          exact Rd.of_own HO.out.own
        go_wp2_with fail
        go_ret
        exact HP.out
      | true =>
        clear HF
        obtain ⟨_, z0, z1⟩ := HPX.out wo HO.out.bel
        go_wp2_with fail
        go_loopw [5, 26] (fun av kv wr => ∃ (k : Nat) (ag : Bool) (out : List Nat), k ≤ C.length ∧ kv = .int .i64 (k : Int) ∧ av = .bool ag ∧ Hid (Ow w0 A2 L.length c2 out wr) ∧ Hid (OutI (edg p.ps p.cs) out) ∧ Hid (IR p out0 out k ag)) (fun _ kv _ => C.length - (intOf kv).toNat)
        case atStart => exact ⟨0, false, out0, by omega, rfl, rfl, HO, HI, IR.start _ _⟩
        case round =>
          clear z0 z1
          obtain ⟨k, ag, out, hk, rfl, rfl, HO2, HI2, HR⟩ := hrel
          obtain ⟨wq, hwq⟩ : ∃ wq, wq = wr := ⟨_, rfl⟩
          subst hwq
          by_cases hlt : k < C.length
          case neg =>
            have hd1 : decide (k < C.length) = false := by simpa using hlt
            have hke : k = p.cs.length := by rw [HPC.out]; omega
            have HFE : Hid (ag = false → ∀ e ∈ edg p.ps p.cs, out.getD e.1 0 = out.getD e.2 0) := fun hf e he => (HR.out.f hf).2 e (by rw [hke, List.take_length]; exact he)
            have HM : Hid (2 * mW A2 L.length wq + bM (.bool ag) < 2 * mW A2 L.length wo + bM (.bool true)) := by
              show _ < _
              rw [HO2.out.sum, HO.out.sum]
              cases ag with
              | false => rw [(HR.out.f rfl).1]; simp [bM]
              | true => have := HR.out.t rfl; simp [bM]; omega
            clear hke
            go_wp2_with fail
            go_roundw
            case rel => exact ⟨ag, out, rfl, HO2, HI2, HFE⟩
            case measure => exact HM.out
          have hd1 : decide (k < C.length) = true := by simpa using hlt
          have hbw0 : Below w.heap.size w wq := HB0.out.trans (HO2.out.bel.mono HB0.out.size)
          have HBW := Lib.hid hbw0
          obtain ⟨b, off, hAB, hb, hcs⟩ := clm_at (HOK.out.cr.below hbw0) (by show 0 < C.length; omega)
          simp only at hAB hcs
          subst hAB
          obtain ⟨d0, d1, d2⟩ := hcs k hlt
          have hltp : k < p.cs.length := by rw [HPC.out]; exact hlt
          have hck : p.cs[k] = C[k] := by simp only [HPC.out]
          have hmem : C[k] ∈ p.cs := by rw [HPC.out]; exact List.getElem_mem hlt
          have ia := HCS.out.ia _ hmem
          have ib := HCS.out.ib _ hmem
          have HPA := Lib.hid (fun (W : World) (hW : Below w.heap.size w W) => HPN.out C[k].a W hW)
          have HPB := Lib.hid (fun (W : World) (hW : Below w.heap.size w W) => HPN.out C[k].b W hW)
          simp only [pix_in ia] at HPA
          simp only [pix_in ib] at HPB
          have HSK : Hid ((C[k].s = true → out.getD (ixP p.ps C[k].a) 0 = out.getD (ixP p.ps C[k].b) 0) → IR p out0 out (k + 1) ag) := fun hh => HR.out.skip hltp (by rw [hck]; exact hh)
          have HST : Hid (C[k].s = true → out.getD (ixP p.ps C[k].a) 0 ≠ out.getD (ixP p.ps C[k].b) 0 → ∀ m, m = min (out.getD (ixP p.ps C[k].a) 0) (out.getD (ixP p.ps C[k].b) 0) → OutI (edg p.ps p.cs) ((out.set (ixP p.ps C[k].a) m).set (ixP p.ps C[k].b) m) ∧ IR p out0 ((out.set (ixP p.ps C[k].a) m).set (ixP p.ps C[k].b) m) (k + 1) true) := fun h1 h2 m h3 => by
            have := pair_step HCS.out HI2.out (by rw [HO2.out.len, HLN.out]) hltp (by rw [hck]; exact h1) (m := m) (by rw [hck]; exact h2) (by rw [hck]; exact h3)
            rw [hck] at this
            exact ⟨this.1, HR.out.put this.2⟩
          rw [HLN.out] at ia ib
          clear hck hmem hcs hltp HR
          generalize ixP p.ps C[k].a = ea at *
          generalize ixP p.ps C[k].b = eb at *
          generalize C[k] = cc at *
          obtain ⟨ca, cb, cs⟩ := cc
          simp only at d0 d1 d2 HPA HPB HSK HST
          obtain ⟨g, rfl⟩ := HO2.out.ex (by omega)
          obtain ⟨wB, hwB⟩ : ∃ wB, wB = wq.alloc (.cells #[.string ca, .string cb, .bool cs] 49) := ⟨_, rfl⟩
          have HQB : Hid (Gq wq wB) := by rw [hwB]; exact (Gq.refl _).alloc _
          have HGB : Hid (Gq w0 wB) := Below.trans HO2.out.bel (HQB.out.mono (Below.size HO2.out.bel))
          have hbB : wq.heap.size < wB.heap.size := by rw [hwB]; simp
          have k0 : wB.cell? ⟨wq.heap.size, 0, none⟩ = some (.string ca) := by rw [hwB]; exact new_cell (cs := [_, _, _]) rfl rfl
          have k1 : wB.cell? ⟨wq.heap.size, 1, none⟩ = some (.string cb) := by rw [hwB]; exact new_cell (cs := [_, _, _]) rfl rfl
          have k2 : wB.cell? ⟨wq.heap.size, 2, none⟩ = some (.bool cs) := by rw [hwB]; exact new_cell (cs := [_, _, _]) rfl rfl
          have HS : Hid (∀ W, Gq wB W → W.cell? ⟨w.heap.size, 0, none⟩ = some (.slice A L.length c) ∧ W.cell? ⟨w.heap.size, 1, none⟩ = some (.slice (some ⟨b, off, none⟩) C.length d) ∧ W.cell? ⟨wq.heap.size, 0, none⟩ = some (.string ca) ∧ W.cell? ⟨wq.heap.size, 1, none⟩ = some (.string cb) ∧ Gq wB W) := fun W hW => by
            obtain ⟨_, x0, x1⟩ := HPX.out W (Below.trans HGB.out (Below.mono hW (Below.size HGB.out)))
            refine ⟨x0, x1, ?_, ?_, hW⟩
            · rw [Below.cell hW (by exact hbB)]; exact k0
            · rw [Below.cell hW (by exact hbB)]; exact k1
          have HCA := Lib.hid (call_gq (w := wB) fun W hW => HPA.out W (HB0.out.trans ((Below.trans HGB.out (Below.mono hW (Below.size HGB.out))).mono HB0.out.size)))
          have HCB := Lib.hid (call_gq (w := wB) fun W hW => HPB.out W (HB0.out.trans ((Below.trans HGB.out (Below.mono hW (Below.size HGB.out))).mono HB0.out.size)))
          have hBR : Gq wB wB := Gq.refl _
          have hBD : Gq wB wB.drew := (Gq.refl _).drew
          have HWB := Lib.hid hwB
          have HK2 := Lib.hid k2
          clear hwB k0 k1 k2 HPA HPB
          go_upto_region 13 with (fail)
          rw [← HWB.out]
          clear d0 d1 d2
          go_cut [8, 9] (fun va vb W => va = .int .i64 (ea : Int) ∧ vb = .int .i64 (eb : Int) ∧ Hid (Gq wB W))
          case first =>
            go_region_held3 (fun W => W.cell? ⟨w.heap.size, 0, none⟩ = some (.slice A L.length c) ∧ W.cell? ⟨w.heap.size, 1, none⟩ = some (.slice (some ⟨b, off, none⟩) C.length d) ∧ W.cell? ⟨wq.heap.size, 0, none⟩ = some (.string ca) ∧ W.cell? ⟨wq.heap.size, 1, none⟩ = some (.string cb) ∧ Gq wB W)
              (first | exact HS.out _ hBD | exact HS.out _ hqB | exact HS.out _ hBR | exact HS.out _ (Gq.drew hqB))
              (first | (go_at_call 25; with_reducible refine (HCA.out _ (by first | exact hqB | exact hBD | exact hBR)).mono ?_; rintro e wA ⟨rfl, hqB⟩) | (go_at_call 25; with_reducible refine (HCB.out _ (by first | exact hqB | exact hBD | exact hBR)).mono ?_; rintro e wA ⟨rfl, hqB⟩))
            all_goals
              go_wp2_with fail
              go_meet
              case rel => exact ⟨rfl, rfl, by first | exact hqB | exact Gq.drew hqB⟩
          case rest =>
            obtain ⟨rfl, rfl, hgc⟩ := hcut
            clear HS HCA HCB hBR hBD
            have HOC : Hid (Ow w0 (some ⟨g, 0, none⟩) L.length c2 out wc) := HO2.out.below (Below.trans HQB.out (Below.mono hgc.out (Below.size HQB.out)))
            have k2 : wc.cell? ⟨wq.heap.size, 2, none⟩ = some (.bool cs) := by rw [Below.cell hgc.out (by exact hbB)]; exact HK2.out
            have yi := HOC.out.cell ia
            have yk := HOC.out.cell ib
            obtain ⟨va, hva⟩ : ∃ va, out.getD ea 0 = va := ⟨_, rfl⟩
            obtain ⟨vb, hvb⟩ : ∃ vb, out.getD eb 0 = vb := ⟨_, rfl⟩
            rw [hva] at yi HSK HST
            rw [hvb] at yk HSK HST
            have a0 : (0 : Int) ≤ (ea : Int) := by omega
            have a1 : (ea : Int) < (L.length : Int) := by omega
            have b0 : (0 : Int) ≤ (eb : Int) := by omega
            have b1 : (eb : Int) < (L.length : Int) := by omega
            clear hva hvb HQB HGB HK2 HBW HWB HO2
            have HBR : Hid (∀ n, Ow w0 (some ⟨g, 0, none⟩) L.length c2 out (wc.drewN n)) := fun n => HOC.out.below (below_drewN (Below.refl _ _) n)
            cases cs with
            | false =>
              have HN : Hid (IR p out0 out (k + 1) ag) := HSK.out (fun h => by simp at h)
              go_wp2_with fail
              go_quiet (fail)
              go_wp2_with fail
              go_roundw
              case rel => exact ⟨k + 1, ag, out, by omega, by go_num, rfl, HBR.out _, HI2, HN⟩
              case measure => simp [intOf]; omega
            | true =>
              by_cases hab : va = vb
              · have HN : Hid (IR p out0 out (k + 1) ag) := HSK.out (fun _ => hab)
                have hne : ((va : Int) == (vb : Int)) = true := by simp [hab]
                clear hab
                go_wp2_with fail
                go_quiet (fail)
                go_wp2_with fail
                go_roundw
                case rel => exact ⟨k + 1, ag, out, by omega, by go_num, rfl, HBR.out _, HI2, HN⟩
                case measure => simp [intOf]; omega
              have hne : ((va : Int) == (vb : Int)) = false := by simp; omega
              obtain ⟨m, hm⟩ : ∃ m, m = min va vb := ⟨_, rfl⟩
              have hmn : min (va : Int) (vb : Int) = (m : Int) := by omega
              have HNX := Lib.hid (HST.out (by first | rfl | trivial) hab m hm)
              clear hm hab HSK HST
              go_wp2_with fail
              go_quiet (fail)
              obtain ⟨n1q, hn1q⟩ : ∃ n1q, n1q = nq := ⟨_, rfl⟩
              rw [← hn1q]
              clear hn1q
              go_upto_region 15 with (fail)
              go_quiet (fail)
              have HOD : Hid (Ow w0 (some ⟨g, 0, none⟩) L.length c2 out ((wc.drewN n1q).drewN nq)) := (HBR.out n1q).below (below_drewN (Below.refl _ _) nq)
              clear yi yk hmn HBR HOC k2
              generalize (wc.drewN n1q).drewN nq = wD at HOD ⊢
              have f1 := HOD.out.frozen ea
              have f2 := HOD.out.frozen eb
              have yi := HOD.out.cell ia
              have yk := HOD.out.cell ib
              have HOE : Hid (Ow w0 (some ⟨g, 0, none⟩) L.length c2 (out.set ea m) (wD.setCell ⟨g, ea, none⟩ (.int .i64 (m : Int)))) := HOD.out.store ea m
              have HOF : Hid (Ow w0 (some ⟨g, 0, none⟩) L.length c2 ((out.set ea m).set eb m) ((wD.setCell ⟨g, ea, none⟩ (.int .i64 (m : Int))).setCell ⟨g, eb, none⟩ (.int .i64 (m : Int)))) := HOE.out.store eb m
              have f3 := HOE.out.frozen eb
              have yk3 := HOE.out.cell ib
              have hg := HOD.out.lt
              go_wp2_with fail
              go_roundw
              case rel => exact ⟨k + 1, true, _, by omega, by go_num, rfl, HOF, HNX.out.1, HNX.out.2⟩
              case measure => simp [intOf]; omega
end Go.Proofs.YtnlnaglaipjlfaaGreatDoor
