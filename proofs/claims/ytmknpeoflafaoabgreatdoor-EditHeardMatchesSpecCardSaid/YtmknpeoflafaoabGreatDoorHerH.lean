/- The contract of the reference's Heard. -/
import Derived.Test.YtmknpeoflafaoabGreatDoorHerA
import Derived.Test.YtmknpeoflafaoabGreatDoorNumY
import Derived.Test.YtmknpeoflafaoabGreatDoorFacZ
namespace Go.Proofs.YtmknpeoflafaoabGreatDoor
open Go.RowKit Go.Dw
attribute [local go_sem ↓] Go.wp_at_zero Go.wp_at_succ
attribute [local go_sem] Go.Dwo.Oper.tame

theorem builtGr (m : ByteArray) (c s : Int) (n d : ByteArray) : Tryz.prog.built 33 [(0, .string m), (1, .int .i64 c), (2, .int .i64 s), (3, .agg #[.string n, .string d])] = some #[.string m, .int .i64 c, .int .i64 s, .string n, .string d] := by
  kernel_rfl
theorem runGr (m : ByteArray) (c s : Int) (n d : ByteArray) (w : World) : (Instr.build 33 #[(0, .string m), (1, .int .i64 c), (2, .int .i64 s), (3, .agg #[.string n, .string d])]).run Tryz.prog w = .ok (.agg #[.string m, .int .i64 c, .int .i64 s, .string n, .string d]) w :=
  run_build w _ _ _ (builtGr m c s n d)
theorem infoGH : (Tryz.prog.info? 33).map (fun i => (i.zero, i.size, i.bytes)) = some (some (.agg #[.string ⟨#[]⟩, .int .i64 0, .int .i64 0, .string ⟨#[]⟩, .string ⟨#[]⟩]), 5, 64) := by kernel_rfl
def hehF (w3 : World) (gb : Nat) (ym : ByteArray) (yc yg : Int) (ys : Bool) (yA : Option Addr) (yL yC : Nat) (yB : Option Addr) (yM yD : Nat) (TT UU : ByteArray) (AP : Option Addr) (n cP : Nat) (xs : List Value) : List Go.Dwo.Fact := [
  ⟨[], [], fun _ W => Gq w3 W ∧ Blk W gb 64 [.string ym, .int .i64 yc, .int .i64 yg, .bool ys, .slice yA yL yC, .slice yB yM yD]⟩,
  ⟨[], [12], fun _ W => W.ownsRow w3.heap.size 33 5 (.slice AP n cP) n xs⟩,
  ⟨[0], [], fun vs _ => vs 0 = .slice AP n cP⟩,
  ⟨[1], [], fun vs _ => vs 1 = .pointer (some ⟨gb, 0, none⟩)⟩,
  ⟨[2], [], fun vs _ => vs 2 = .string ym⟩,
  ⟨[3], [], fun vs _ => vs 3 = .pointer (some ⟨gb, 1, none⟩)⟩,
  ⟨[4], [], fun vs _ => vs 4 = .int .i64 yc⟩,
  ⟨[5], [], fun vs _ => vs 5 = .pointer (some ⟨gb, 2, none⟩)⟩,
  ⟨[6], [], fun vs _ => vs 6 = .int .i64 yg⟩,
  ⟨[7], [], fun vs _ => vs 7 = .pointer (some ⟨gb, 3, none⟩)⟩,
  ⟨[8], [], fun vs _ => vs 8 = .agg #[.bool ys, .slice yA yL yC, .slice yB yM yD]⟩,
  ⟨[9], [], fun vs _ => vs 9 = .agg #[.string TT, .string UU]⟩,
  ⟨[10], [], fun vs _ => vs 10 = .agg #[.string ym, .int .i64 yc, .int .i64 yg, .string TT, .string UU]⟩,
  ⟨[11], [12], fun vs W => ∃ g c, vs 11 = .slice (some ⟨g, 0, none⟩) 1 c ∧ Blk W g 33 [.string ym, .int .i64 yc, .int .i64 yg, .string TT, .string UU]⟩,
  ⟨[12], [], fun vs W => ∃ g cap, vs 12 = .slice (some ⟨g, 0, none⟩) (n + 1) cap ∧ W.ownsRow w3.heap.size 33 5 (.slice (some ⟨g, 0, none⟩) (n + 1) cap) (n + 1) (xs ++ [.string ym, .int .i64 yc, .int .i64 yg, .string TT, .string UU])⟩,
  ⟨[12, 13], [], fun vs _ => vs 13 = vs 12⟩]
theorem hehK (w3 : World) (gb : Nat) (ym : ByteArray) (yc yg : Int) (ys : Bool) (yA : Option Addr) (yL yC : Nat) (yB : Option Addr) (yM yD : Nat) (TT UU : ByteArray) (AP : Option Addr) (n cP : Nat) (xs : List Value) : ∀ f ∈ hehF w3 gb ym yc yg ys yA yL yC yB yM yD TT UU AP n cP xs, ∀ vs w w', Gq w w' → f.says vs w → f.says vs w' :=
  Go.Dwo.fa_cons (fun _ _ _ hg h => ⟨h.1.trans hg, blk_gqr h.2 hg⟩) <|
  Go.Dwo.fa_cons (fun _ _ _ hg h => own_belowL h hg) <|
  Go.Dwo.fa_cons (fun _ _ _ _ h => h) <|
  Go.Dwo.fa_cons (fun _ _ _ _ h => h) <|
  Go.Dwo.fa_cons (fun _ _ _ _ h => h) <|
  Go.Dwo.fa_cons (fun _ _ _ _ h => h) <|
  Go.Dwo.fa_cons (fun _ _ _ _ h => h) <|
  Go.Dwo.fa_cons (fun _ _ _ _ h => h) <|
  Go.Dwo.fa_cons (fun _ _ _ _ h => h) <|
  Go.Dwo.fa_cons (fun _ _ _ _ h => h) <|
  Go.Dwo.fa_cons (fun _ _ _ _ h => h) <|
  Go.Dwo.fa_cons (fun _ _ _ _ h => h) <|
  Go.Dwo.fa_cons (fun _ _ _ _ h => h) <|
  Go.Dwo.fa_cons (fun _ _ _ hg h => (by obtain ⟨g, c, h1, h2⟩ := h; exact ⟨g, c, h1, blk_gqr h2 hg⟩)) <|
  Go.Dwo.fa_cons (fun _ _ _ hg h => (by obtain ⟨g, c, h1, h2⟩ := h; exact ⟨g, c, h1, own_belowL h2 hg⟩)) <|
  Go.Dwo.fa_cons (fun _ _ _ _ h => h) <|
  Go.Dwo.fa_nil _
theorem hehS (w3 : World) (gb : Nat) (ym : ByteArray) (yc yg : Int) (ys : Bool) (yA : Option Addr) (yL yC : Nat) (yB : Option Addr) (yM yD : Nat) (TT UU : ByteArray) (AP : Option Addr) (n cP : Nat) (xs : List Value) : ∀ f ∈ hehF w3 gb ym yc yg ys yA yL yC yB yM yD TT UU AP n cP xs, 12 ∉ f.on → 12 ∉ f.off → ∀ vs w w', w.ownsRow w3.heap.size 33 5 (.slice AP n cP) n xs ∧ w.grownBy w' (Value.slice AP n cP).ownBlock → f.says vs w → f.says vs w' :=
  Go.Dwo.fa_cons (fun _ _ _ _ _ hr h => ⟨Below.grown h.1 hr.2 (Below.size h.1) (fun k hk => (hr.1.lt k hk).1), ((KpT.own hr.1 hr.2 (by decide)).b _ _ _ h.2).trans h.2⟩) <|
  Go.Dwo.fa_cons (fun _ hn => absurd (show (12 : Nat) ∈ ([12] : List Nat) from by decide) hn) <|
  Go.Dwo.fa_cons (fun _ _ _ _ _ hr h => h) <|
  Go.Dwo.fa_cons (fun _ _ _ _ _ hr h => h) <|
  Go.Dwo.fa_cons (fun _ _ _ _ _ hr h => h) <|
  Go.Dwo.fa_cons (fun _ _ _ _ _ hr h => h) <|
  Go.Dwo.fa_cons (fun _ _ _ _ _ hr h => h) <|
  Go.Dwo.fa_cons (fun _ _ _ _ _ hr h => h) <|
  Go.Dwo.fa_cons (fun _ _ _ _ _ hr h => h) <|
  Go.Dwo.fa_cons (fun _ _ _ _ _ hr h => h) <|
  Go.Dwo.fa_cons (fun _ _ _ _ _ hr h => h) <|
  Go.Dwo.fa_cons (fun _ _ _ _ _ hr h => h) <|
  Go.Dwo.fa_cons (fun _ _ _ _ _ hr h => h) <|
  Go.Dwo.fa_cons (fun _ hn => absurd (show (12 : Nat) ∈ ([12] : List Nat) from by decide) hn) <|
  Go.Dwo.fa_cons (fun hn _ => absurd (show (12 : Nat) ∈ ([12] : List Nat) from by decide) hn) <|
  Go.Dwo.fa_cons (fun hn _ => absurd (show (12 : Nat) ∈ ([12, 13] : List Nat) from by decide) hn) <|
  Go.Dwo.fa_nil _
set_option maxRecDepth 100000 in
set_option maxHeartbeats 16000000 in
theorem heardH_any (e : EdtM) (tr at_ : Int) (w : World) (h : EdtOk w e) (hpw : HasPow w) :
    Calls Tryz.prog 5 #[e.v, .int .i64 tr, .int .i64 at_] w (HeaR (heaF isNm 1000000 e.x tr at_) w) := by
  obtain ⟨E, hE⟩ : ∃ E, e = E := ⟨_, rfl⟩
  obtain ⟨rt, tk, ⟨A, d, xs⟩⟩ := e
  have hEv : E.v = .agg #[.int .i64 rt, .int .i64 tk, .slice A xs.length d] := by rw [← hE]; rfl
  have HEX : Hid (E.x.cs = xs.map CliM.x ∧ E.x.tracks = tk ∧ E.cs.a = A ∧ E.cs.xs = xs) := by rw [← hE]; exact ⟨rfl, rfl, rfl, rfl⟩
  rw [hE] at h ⊢
  rw [hEv]
  have htk := h.tracks
  rw [show E.tracks = tk by rw [← hE]] at htk
  obtain ⟨tk1, tk2⟩ := htk
  clear hE
  obtain ⟨w0, hw0⟩ : ∃ w0, w0 = w.alloc (.cells #[.int .i64 rt, .int .i64 tk, .slice A xs.length d] 24) := ⟨_, rfl⟩
  have HB0 : Hid (Gq w w0) := by rw [hw0]; exact (Gq.refl _).alloc _
  have HKE : Hid (Blk w0 w.heap.size 24 [.int .i64 rt, .int .i64 tk, .slice A xs.length d]) := by rw [hw0]; exact Blk.new w _ _
  have HOK : Hid (∀ W, Gq w0 W → EdtOk W E) := fun W hW => (h.below HB0.out).below hW
  have HPW : Hid (∀ W, Gq w0 W → HasPow W) := fun W hW => (hpw.below HB0.out).below hW
  have HCE : Hid (∀ W, Gq w0 W → W.cell? ⟨w.heap.size, 0, none⟩ = some (.int .i64 rt) ∧ W.cell? ⟨w.heap.size, 1, none⟩ = some (.int .i64 tk) ∧ W.cell? ⟨w.heap.size, 2, none⟩ = some (.slice A xs.length d)) := fun W hW => by
    have k1 := blk_gq HKE.out hW
    exact ⟨k1.cell 0, k1.cell 1, k1.cell 2⟩
  obtain ⟨f, hf⟩ : ∃ f, ediF isNm 1000000 E.x = f := ⟨_, rfl⟩
  have HCK : Hid (Calls Tryz.prog 19 #[.agg #[.int .i64 rt, .int .i64 tk, .slice A xs.length d]] w0 fun e w' => e = .returned (.int .i64 f) ∧ Gq w0 w') := by
    rw [← hEv, ← hf]; exact checkR_any E w0 (HOK.out w0 (Gq.refl _)) (HPW.out w0 (Gq.refl _))
  have HBAD : Hid (f ≠ 0 → heaF isNm 1000000 E.x tr at_ = ([], f)) := fun hn => by unfold heaF; rw [hf, if_pos hn]
  have HRNG : Hid (f = 0 → tr < 0 ∨ tk ≤ tr ∨ at_ < 0 ∨ 100000 ≤ at_ → heaF isNm 1000000 E.x tr at_ = ([], 1)) := fun h0 hn => by
    unfold heaF; rw [hf, if_neg (by simpa using h0), HEX.out.2.1, if_pos hn]
  have HGOOD : Hid (f = 0 → ¬ (tr < 0 ∨ tk ≤ tr ∨ at_ < 0 ∨ 100000 ≤ at_) → heaF isNm 1000000 E.x tr at_ = (heaL tr at_ (xs.map CliM.x), 0)) := fun h0 hn => by
    unfold heaF; rw [hf, if_neg (by simpa using h0), HEX.out.2.1, if_neg hn, HEX.out.1]
  have HFE := Lib.hid hf
  obtain ⟨c0, c1, c2⟩ := HCE.out w0 (Gq.refl _)
  have HW0 := Lib.hid hw0
  have HEV := Lib.hid hEv
  clear hw0 h hf hEv hpw
  by_cases hf0 : f = 0
  case neg =>
    have HR := Lib.hid (HBAD.out hf0)
    have hfb : (f != 0) = true := by simpa using hf0
    clear hf0 HBAD HRNG HGOOD
    go_enter Tryz.func5, Tryz.ntmps5
    go_upto_region 1 with (fail)
    rw [← HW0.out]
    go_wp2_with fail
    refine HCK.out.mono ?_
    rintro e w2 ⟨rfl, hb2⟩
    have HB2 : Hid (Below w.heap.size w w2) := HB0.out.trans hb2
    clear hb2
    go_wp2_with fail
    go_ret2
    exact heaR_none HR.out HB2.out
  subst hf0
  by_cases hr : tr < 0 ∨ tk ≤ tr ∨ at_ < 0 ∨ 100000 ≤ at_
  · have HR := Lib.hid (HRNG.out rfl hr)
    have hcs : decide (tr < 0) = true ∨ (decide (tr < 0) = false ∧ decide (tk ≤ tr) = true) ∨ (decide (tr < 0) = false ∧ decide (tk ≤ tr) = false ∧ decide (at_ < 0) = true) ∨ (decide (tr < 0) = false ∧ decide (tk ≤ tr) = false ∧ decide (at_ < 0) = false ∧ decide (100000 ≤ at_) = true) := by
      by_cases q1 : tr < 0
      · exact .inl (decide_eq_true q1)
      · by_cases q2 : tk ≤ tr
        · exact .inr (.inl ⟨decide_eq_false q1, decide_eq_true q2⟩)
        · by_cases q3 : at_ < 0
          · exact .inr (.inr (.inl ⟨decide_eq_false q1, decide_eq_false q2, decide_eq_true q3⟩))
          · exact .inr (.inr (.inr ⟨decide_eq_false q1, decide_eq_false q2, decide_eq_false q3, decide_eq_true (by omega)⟩))
    clear hr HBAD HRNG HGOOD
    rcases hcs with h1 | ⟨h1, h2⟩ | ⟨h1, h2, h3⟩ | ⟨h1, h2, h3, h4⟩
    all_goals
      go_enter Tryz.func5, Tryz.ntmps5
      go_upto_region 1 with (fail)
      rw [← HW0.out]
      go_wp2_with fail
      refine HCK.out.mono ?_
      rintro e w2 ⟨rfl, hb2⟩
      have HB2 : Hid (Below w.heap.size w w2) := HB0.out.trans hb2
      obtain ⟨d0, d1, d2⟩ := HCE.out w2 hb2
      clear hb2 c0 c1 c2
      go_wp2_with fail
      go_ret2
      exact heaR_none HR.out HB2.out
  have HR := Lib.hid (HGOOD.out rfl hr)
  have h1 : decide (tr < 0) = false := decide_eq_false (by omega)
  have h2 : decide (tk ≤ tr) = false := decide_eq_false (by omega)
  have h3 : decide (at_ < 0) = false := decide_eq_false (by omega)
  have h4 : decide (100000 ≤ at_) = false := decide_eq_false (by omega)
  have hp1 : 0 ≤ at_ ∧ at_ < 100000 := by omega
  have HRT := Lib.hid (ediF_ok HFE.out)
  have hxl : xs.length ≤ 300 := by have := HRT.out.l; rw [HEX.out.1] at this; simpa using this
  obtain ⟨F, hF⟩ : ∃ F, heaL tr at_ (xs.map CliM.x) = F := ⟨_, rfl⟩
  have HFL : Hid (F.length ≤ 300 ∧ LimG 90300 F) := by
    rw [← hF]
    have e1 := hrdL_len tr at_ (xs.map CliM.x)
    have e2 := hrdL_lim' HFE.out hp1 (tr := tr) xs.length
    rw [HEX.out.1, List.take_of_length_le (by simp)] at e2
    rw [List.length_map] at e1
    refine ⟨Nat.le_trans (List.length_filter_le _ _) (by omega), fun x hx => e2 x (List.mem_filter.mp hx).1⟩
  have HHD : Hid (∀ W, Gq w0 W → Calls Tryz.prog 20 #[.agg #[.int .i64 rt, .int .i64 tk, .slice A xs.length d], .int .i64 tr, .int .i64 at_] W fun en w' => ∃ A c, ∃ R : List Gr6, en = .returned (.slice A R.length c) ∧ Rd w' A (R.flatMap Gr6.cs) ∧ RelG w' R F ∧ Gq W w') := fun W hW => by
    have := heardR_any E tr at_ W (HOK.out W hW) HFE.out hp1 (HPW.out W hW)
    rw [HEX.out.1, hF, HEV.out] at this
    exact this
  rw [hF] at HR
  clear hr HBAD HRNG HGOOD hF
  obtain ⟨ii, hii, hzi0, hzi1, hzi2⟩ := info_parts infoGH
  have HII := Lib.hid (And.intro hii (And.intro hzi0 (And.intro hzi1 hzi2)))
  clear hii hzi0 hzi1 hzi2
  go_enter Tryz.func5, Tryz.ntmps5
  go_upto_region 1 with (fail)
  rw [← HW0.out]
  go_wp2_with fail
  refine HCK.out.mono ?_
  rintro e w2 ⟨rfl, hb2⟩
  have HG2 : Hid (Gq w0 w2) := hb2
  obtain ⟨d0, d1, d2⟩ := HCE.out w2 HG2.out
  clear hb2 c0 c1 c2
  have HH2 := Lib.hid (HHD.out w2 HG2.out)
  go_wp2_with fail
  refine HH2.out.mono ?_
  rintro e w3 ⟨AR, cR, R, rfl, hrd, hrl, hg3⟩
  have HRD := Lib.hid hrd
  have HRL := Lib.hid hrl
  have HG3 : Hid (Gq w0 w3) := HG2.out.trans hg3
  have HB3 : Hid (Below w.heap.size w w3) := HB0.out.trans HG3.out
  have hRL : R.length ≤ 300 := by rw [hrl.1]; exact HFL.out.1
  clear hrd hrl hg3 d0 d1 d2 HH2 HHD
  go_wp2_with fail
  go_loopw [9, 38] (fun ov jv wq => ∃ (j : Nat) (O : List Grn), j ≤ R.length ∧ jv = .int .i64 (j : Int) ∧ Hid (wq.ownsRow w3.heap.size 33 5 ov O.length (O.flatMap Grn.cs)) ∧ Hid (O = (F.take j).map grnOf) ∧ Hid (Gq w3 wq)) (fun _ jv _ => R.length - (intOf jv).toNat)
  case atStart => exact ⟨0, [], Nat.zero_le _, rfl, World.ownsRow_nil _ _ _ _, rfl, Gq.refl _⟩
  case round =>
    obtain ⟨j, O, hj, rfl, HOO, HOE, HGZ⟩ := hrel
    obtain ⟨AP, cP, rfl⟩ := slice_of_own HOO.out
    by_cases hjl : j < R.length
    case neg =>
      have hd1 : decide (j < R.length) = false := by simpa using hjl
      have HO2 : Hid (O = F.map grnOf) := by show _ = _; rw [HOE.out, List.take_of_length_le (by rw [← HRL.out.1]; omega)]
      go_wp2_with fail
      go_ret2
      refine ⟨AP, cP, ?_, ?_, Below.trans HB3.out (Below.mono HGZ.out (Below.size HB3.out))⟩
      · rw [HR.out, HO2.out, List.length_map]; rfl
      · rw [HR.out, ← HO2.out]; exact Rd.of_own HOO.out
    have hd1 : decide (j < R.length) = true := by simpa using hjl
    have hjl2 : j < F.length := by rw [← HRL.out.1]; exact hjl
    obtain ⟨rb, roff, hAO, hrb, hcs⟩ := gr6_at (HRD.out.below HGZ.out) (show 0 < R.length by omega)
    subst hAO
    obtain ⟨c0, c1, c2, c3, c4, c5⟩ := hcs j hjl
    have HRJ : Hid (R[j].g = F[j].1 ∧ NumQ w3 R[j].n F[j].2) := HRL.out.2 j hjl hjl2
    have HOE2 : Hid (O ++ [grnOf F[j]] = (F.take (j + 1)).map grnOf) := by
      show _ = _; rw [HOE.out, List.take_succ_eq_append_getElem hjl2, List.map_append]; rfl
    have HLQ : Hid (RLim 90300 F[j].2) := HFL.out.2 _ (List.getElem_mem _)
    have HPJ : Hid (∀ W, Gq w3 W → HasPow W) := fun W hW => HPW.out W (HG3.out.trans hW)
    clear hcs
    obtain ⟨Y, hY⟩ : ∃ Y, R[j] = Y := ⟨_, rfl⟩
    rw [hY] at c0 c1 c2 c3 c4 c5 HRJ
    clear hY
    obtain ⟨⟨gq, q⟩, hlj⟩ : ∃ g : Gk × Rat, F[j] = g := ⟨_, rfl⟩
    rw [hlj] at HRJ HOE2 HLQ
    clear hlj
    obtain ⟨⟨ym, yc, yg⟩, ys, yA, yL, yC, yB, yM, yD⟩ := Y
    simp only at c0 c1 c2 c3 c4 c5
    have hgq : gq = ⟨ym, yc, yg⟩ := HRJ.out.1.symm
    obtain ⟨TT, hTT⟩ : ∃ T : ByteArray, ⟨(topT q).toArray⟩ = T := ⟨_, rfl⟩
    obtain ⟨UU, hUU⟩ : ∃ T : ByteArray, ⟨(botT q).toArray⟩ = T := ⟨_, rfl⟩
    have HOU : Hid (∀ W, Gq w3 W → Calls Tryz.prog 21 #[.agg #[.bool ys, .slice yA yL yC, .slice yB yM yD]] W fun e w' => e = .returned (.agg #[.string TT, .string UU]) ∧ Gq W w') := fun W hW => by
      have := outQ_any _ q W (numQ_below HRJ.out.2 hW) 90300 HLQ.out (by omega) (HPJ.out W hW)
      unfold ratT at this
      rw [hTT, hUU] at this; exact this
    have HGQ : Hid (grnOf (gq, q) = ⟨ym, yc, yg, TT, UU⟩) := by show _ = _; rw [hgq, ← hTT, ← hUU]; rfl
    have i0 : (0 : Int) ≤ (j : Int) := by omega
    have i1 : (j : Int) < (R.length : Int) := by omega
    have hj1 : j + 1 ≤ R.length := hjl
    obtain ⟨n, hn⟩ : ∃ n, O.length = n := ⟨_, rfl⟩
    obtain ⟨xs', hxs⟩ : ∃ x, O.flatMap Grn.cs = x := ⟨_, rfl⟩
    rw [hn, hxs] at HOO
    have HNL : Hid (O.length = n ∧ O.flatMap Grn.cs = xs') := ⟨hn, hxs⟩
    have HNB : Hid (n + 1 ≤ maxLen ∧ (n + 1) * 64 ≤ 140737488355328) := by
      have h1 : O.length = ((F.take j).map grnOf).length := by rw [HOE.out]
      rw [List.length_map, List.length_take] at h1
      refine ⟨?_, ?_⟩
      · unfold maxLen; omega
      · omega
    rw [hn]
    clear hTT hUU hgq HRL HRD HOE HFL HPJ HPW HCE HOK hn hxs
    go_upto_region 10 with (fail)
    obtain ⟨wa, hwa⟩ : ∃ wa, wa = wr.alloc (.cells #[.string ym, .int .i64 yc, .int .i64 yg, .bool ys, .slice yA yL yC, .slice yB yM yD] 64) := ⟨_, rfl⟩
    have HBASE : Hid (Gq w3 wa.drew ∧ Blk wa.drew wr.heap.size 64 [.string ym, .int .i64 yc, .int .i64 yg, .bool ys, .slice yA yL yC, .slice yB yM yD]) := by
      rw [hwa]; exact ⟨(HGZ.out.alloc _).drew, blk_gqr (Blk.new wr _ _) (Gq.refl _).drew⟩
    have HROW : Hid (wa.drew.ownsRow w3.heap.size 33 5 (.slice AP n cP) n xs') := by
      rw [hwa]; exact own_belowL HOO.out ((Gq.refl _).alloc _).drew
    obtain ⟨gb, hgb⟩ : ∃ gb, wr.heap.size = gb := ⟨_, rfl⟩
    rw [hgb] at HBASE
    rw [← hwa, hgb]
    clear hwa hgb c0 c1 c2 c3 c4 c5 HGZ HOO
    refine Go.Dwo.wp_region_factsK _ (by kernel_rfl) [[], [], [1], [], [3], [], [5], [], [7], [7, 8], [1, 2, 3, 4, 5, 6, 7, 8, 9], [1, 2, 3, 4, 5, 6, 7, 8, 9, 10], [0, 1, 2, 3, 4, 5, 6, 7, 8, 9, 10, 11], [0, 1, 2, 3, 4, 5, 6, 7, 8, 9, 10, 11, 12]] (by kernel_rfl) (by kernel_rfl) [some 42, some 43, some 44, some 45, some 46, some 47, some 48, some 49, some 50, some 51, some 52, some 53, some 54, some 9] (by kernel_rfl) (fun vs => by simp only [Go.Dwo.putA, Go.Dwo.putL, if_true, Act.put, List.setIfInBounds_toArray, List.set_cons_zero, List.set_cons_succ]; rfl) (hehF w3 gb ym yc yg ys yA yL yC yB yM yD TT UU AP n cP xs') (by kernel_rfl) ?_ ⟨?_, ?_, ?_, ?_, ?_, ?_, ?_, ?_, ?_, ?_, ?_, ?_, ?_, ?_, trivial⟩ ?_
    · exact Go.Dwo.fa_zero [0, 1] (by kernel_rfl) <| Go.Dwo.fa_cons (HBASE.out) <| Go.Dwo.fa_cons (HROW.out) <| Go.Dwo.fa_nil _
    · -- 0: Op.move t9
      intro Ls vs w Kk H hu hD hK
      replace hu : ∀ k ∈ ([] : List Nat), Ls k = true := hu
      replace hD : ∀ k ∈ ([0, 12, 13] : List Nat), Ls k = false := Go.Dwo.fa_cons (hD 0 (.inl rfl)) <| Go.Dwo.fa_cons (hD 12 (.inr (by decide))) <| Go.Dwo.fa_cons (hD 13 (.inr (by decide))) <| Go.Dwo.fa_nil _
      simp only [Go.Dwo.actOf, List.getD_cons_zero]
      have qbase : Gq w3 w ∧ Blk w gb 64 [.string ym, .int .i64 yc, .int .i64 yg, .bool ys, .slice yA yL yC, .slice yB yM yD] := H.up hu hD 0 rfl rfl rfl
      obtain ⟨h0, hk⟩ := qbase
      have row : w.ownsRow w3.heap.size 33 5 (.slice AP n cP) n xs' := H.up hu hD 1 rfl rfl rfl
      have hKK := Lib.hid hK
      clear hK H hu hD
      go_simp
      refine hKK.out _ _ (fun f _ _ _ _ h => h) ?_
      exact Go.Dwo.fa_pick [2] (by kernel_rfl) <| Go.Dwo.fa_cons (fun _ => rfl) <| Go.Dwo.fa_nil _
    · -- 1: Op.fieldAddr 114 t11 0
      intro Ls vs w Kk H hu hD hK
      replace hu : ∀ k ∈ ([] : List Nat), Ls k = true := hu
      replace hD : ∀ k ∈ ([1, 2, 10, 11, 12, 13] : List Nat), Ls k = false := Go.Dwo.fa_cons (hD 1 (.inl rfl)) <| Go.Dwo.fa_cons (hD 2 (.inr (by decide))) <| Go.Dwo.fa_cons (hD 10 (.inr (by decide))) <| Go.Dwo.fa_cons (hD 11 (.inr (by decide))) <| Go.Dwo.fa_cons (hD 12 (.inr (by decide))) <| Go.Dwo.fa_cons (hD 13 (.inr (by decide))) <| Go.Dwo.fa_nil _
      simp only [Go.Dwo.actOf, List.getD_cons_succ, List.getD_cons_zero]
      have qbase : Gq w3 w ∧ Blk w gb 64 [.string ym, .int .i64 yc, .int .i64 yg, .bool ys, .slice yA yL yC, .slice yB yM yD] := H.up hu hD 0 rfl rfl rfl
      obtain ⟨h0, hk⟩ := qbase
      have row : w.ownsRow w3.heap.size 33 5 (.slice AP n cP) n xs' := H.up hu hD 1 rfl rfl rfl
      have hKK := Lib.hid hK
      clear hK H hu hD
      go_simp
      refine hKK.out _ _ (fun f _ _ _ _ h => h) ?_
      exact Go.Dwo.fa_pick [3] (by kernel_rfl) <| Go.Dwo.fa_cons (fun _ => rfl) <| Go.Dwo.fa_nil _
    · -- 2: Op.load 9 t43
      intro Ls vs w Kk H hu hD hK
      replace hu : ∀ k ∈ ([1] : List Nat), Ls k = true := hu
      replace hD : ∀ k ∈ ([2, 10, 11, 12, 13] : List Nat), Ls k = false := Go.Dwo.fa_cons (hD 2 (.inl rfl)) <| Go.Dwo.fa_cons (hD 10 (.inr (by decide))) <| Go.Dwo.fa_cons (hD 11 (.inr (by decide))) <| Go.Dwo.fa_cons (hD 12 (.inr (by decide))) <| Go.Dwo.fa_cons (hD 13 (.inr (by decide))) <| Go.Dwo.fa_nil _
      simp only [Go.Dwo.actOf, List.getD_cons_succ, List.getD_cons_zero]
      have qbase : Gq w3 w ∧ Blk w gb 64 [.string ym, .int .i64 yc, .int .i64 yg, .bool ys, .slice yA yL yC, .slice yB yM yD] := H.up hu hD 0 rfl rfl rfl
      obtain ⟨h0, hk⟩ := qbase
      have row : w.ownsRow w3.heap.size 33 5 (.slice AP n cP) n xs' := H.up hu hD 1 rfl rfl rfl
      have f1 : vs 1 = .pointer (some ⟨gb, 0, none⟩) := H.up hu hD 3 rfl rfl rfl
      have d0 : w.cell? ⟨gb, 0, none⟩ = _ := hk.cell 0
      simp only [List.getElem?_cons_zero] at d0
      have hKK := Lib.hid hK
      clear hK H hu hD
      go_simp
      refine hKK.out _ _ (fun f _ _ _ _ h => h) ?_
      exact Go.Dwo.fa_pick [4] (by kernel_rfl) <| Go.Dwo.fa_cons (fun _ => rfl) <| Go.Dwo.fa_nil _
    · -- 3: Op.fieldAddr 114 t11 1
      intro Ls vs w Kk H hu hD hK
      replace hu : ∀ k ∈ ([] : List Nat), Ls k = true := hu
      replace hD : ∀ k ∈ ([3, 4, 10, 11, 12, 13] : List Nat), Ls k = false := Go.Dwo.fa_cons (hD 3 (.inl rfl)) <| Go.Dwo.fa_cons (hD 4 (.inr (by decide))) <| Go.Dwo.fa_cons (hD 10 (.inr (by decide))) <| Go.Dwo.fa_cons (hD 11 (.inr (by decide))) <| Go.Dwo.fa_cons (hD 12 (.inr (by decide))) <| Go.Dwo.fa_cons (hD 13 (.inr (by decide))) <| Go.Dwo.fa_nil _
      simp only [Go.Dwo.actOf, List.getD_cons_succ, List.getD_cons_zero]
      have qbase : Gq w3 w ∧ Blk w gb 64 [.string ym, .int .i64 yc, .int .i64 yg, .bool ys, .slice yA yL yC, .slice yB yM yD] := H.up hu hD 0 rfl rfl rfl
      obtain ⟨h0, hk⟩ := qbase
      have row : w.ownsRow w3.heap.size 33 5 (.slice AP n cP) n xs' := H.up hu hD 1 rfl rfl rfl
      have hKK := Lib.hid hK
      clear hK H hu hD
      go_simp
      refine hKK.out _ _ (fun f _ _ _ _ h => h) ?_
      exact Go.Dwo.fa_pick [5] (by kernel_rfl) <| Go.Dwo.fa_cons (fun _ => rfl) <| Go.Dwo.fa_nil _
    · -- 4: Op.load 3 t45
      intro Ls vs w Kk H hu hD hK
      replace hu : ∀ k ∈ ([3] : List Nat), Ls k = true := hu
      replace hD : ∀ k ∈ ([4, 10, 11, 12, 13] : List Nat), Ls k = false := Go.Dwo.fa_cons (hD 4 (.inl rfl)) <| Go.Dwo.fa_cons (hD 10 (.inr (by decide))) <| Go.Dwo.fa_cons (hD 11 (.inr (by decide))) <| Go.Dwo.fa_cons (hD 12 (.inr (by decide))) <| Go.Dwo.fa_cons (hD 13 (.inr (by decide))) <| Go.Dwo.fa_nil _
      simp only [Go.Dwo.actOf, List.getD_cons_succ, List.getD_cons_zero]
      have qbase : Gq w3 w ∧ Blk w gb 64 [.string ym, .int .i64 yc, .int .i64 yg, .bool ys, .slice yA yL yC, .slice yB yM yD] := H.up hu hD 0 rfl rfl rfl
      obtain ⟨h0, hk⟩ := qbase
      have row : w.ownsRow w3.heap.size 33 5 (.slice AP n cP) n xs' := H.up hu hD 1 rfl rfl rfl
      have f3 : vs 3 = .pointer (some ⟨gb, 1, none⟩) := H.up hu hD 5 rfl rfl rfl
      have d1 : w.cell? ⟨gb, 1, none⟩ = _ := hk.cell 1
      simp only [List.getElem?_cons_zero, List.getElem?_cons_succ] at d1
      have hKK := Lib.hid hK
      clear hK H hu hD
      go_simp
      refine hKK.out _ _ (fun f _ _ _ _ h => h) ?_
      exact Go.Dwo.fa_pick [6] (by kernel_rfl) <| Go.Dwo.fa_cons (fun _ => rfl) <| Go.Dwo.fa_nil _
    · -- 5: Op.fieldAddr 114 t11 2
      intro Ls vs w Kk H hu hD hK
      replace hu : ∀ k ∈ ([] : List Nat), Ls k = true := hu
      replace hD : ∀ k ∈ ([5, 6, 10, 11, 12, 13] : List Nat), Ls k = false := Go.Dwo.fa_cons (hD 5 (.inl rfl)) <| Go.Dwo.fa_cons (hD 6 (.inr (by decide))) <| Go.Dwo.fa_cons (hD 10 (.inr (by decide))) <| Go.Dwo.fa_cons (hD 11 (.inr (by decide))) <| Go.Dwo.fa_cons (hD 12 (.inr (by decide))) <| Go.Dwo.fa_cons (hD 13 (.inr (by decide))) <| Go.Dwo.fa_nil _
      simp only [Go.Dwo.actOf, List.getD_cons_succ, List.getD_cons_zero]
      have qbase : Gq w3 w ∧ Blk w gb 64 [.string ym, .int .i64 yc, .int .i64 yg, .bool ys, .slice yA yL yC, .slice yB yM yD] := H.up hu hD 0 rfl rfl rfl
      obtain ⟨h0, hk⟩ := qbase
      have row : w.ownsRow w3.heap.size 33 5 (.slice AP n cP) n xs' := H.up hu hD 1 rfl rfl rfl
      have hKK := Lib.hid hK
      clear hK H hu hD
      go_simp
      refine hKK.out _ _ (fun f _ _ _ _ h => h) ?_
      exact Go.Dwo.fa_pick [7] (by kernel_rfl) <| Go.Dwo.fa_cons (fun _ => rfl) <| Go.Dwo.fa_nil _
    · -- 6: Op.load 3 t47
      intro Ls vs w Kk H hu hD hK
      replace hu : ∀ k ∈ ([5] : List Nat), Ls k = true := hu
      replace hD : ∀ k ∈ ([6, 10, 11, 12, 13] : List Nat), Ls k = false := Go.Dwo.fa_cons (hD 6 (.inl rfl)) <| Go.Dwo.fa_cons (hD 10 (.inr (by decide))) <| Go.Dwo.fa_cons (hD 11 (.inr (by decide))) <| Go.Dwo.fa_cons (hD 12 (.inr (by decide))) <| Go.Dwo.fa_cons (hD 13 (.inr (by decide))) <| Go.Dwo.fa_nil _
      simp only [Go.Dwo.actOf, List.getD_cons_succ, List.getD_cons_zero]
      have qbase : Gq w3 w ∧ Blk w gb 64 [.string ym, .int .i64 yc, .int .i64 yg, .bool ys, .slice yA yL yC, .slice yB yM yD] := H.up hu hD 0 rfl rfl rfl
      obtain ⟨h0, hk⟩ := qbase
      have row : w.ownsRow w3.heap.size 33 5 (.slice AP n cP) n xs' := H.up hu hD 1 rfl rfl rfl
      have f5 : vs 5 = .pointer (some ⟨gb, 2, none⟩) := H.up hu hD 7 rfl rfl rfl
      have d2 : w.cell? ⟨gb, 2, none⟩ = _ := hk.cell 2
      simp only [List.getElem?_cons_zero, List.getElem?_cons_succ] at d2
      have hKK := Lib.hid hK
      clear hK H hu hD
      go_simp
      refine hKK.out _ _ (fun f _ _ _ _ h => h) ?_
      exact Go.Dwo.fa_pick [8] (by kernel_rfl) <| Go.Dwo.fa_cons (fun _ => rfl) <| Go.Dwo.fa_nil _
    · -- 7: Op.fieldAddr 114 t11 3
      intro Ls vs w Kk H hu hD hK
      replace hu : ∀ k ∈ ([] : List Nat), Ls k = true := hu
      replace hD : ∀ k ∈ ([7, 8, 9, 10, 11, 12, 13] : List Nat), Ls k = false := Go.Dwo.fa_cons (hD 7 (.inl rfl)) <| Go.Dwo.fa_cons (hD 8 (.inr (by decide))) <| Go.Dwo.fa_cons (hD 9 (.inr (by decide))) <| Go.Dwo.fa_cons (hD 10 (.inr (by decide))) <| Go.Dwo.fa_cons (hD 11 (.inr (by decide))) <| Go.Dwo.fa_cons (hD 12 (.inr (by decide))) <| Go.Dwo.fa_cons (hD 13 (.inr (by decide))) <| Go.Dwo.fa_nil _
      simp only [Go.Dwo.actOf, List.getD_cons_succ, List.getD_cons_zero]
      have qbase : Gq w3 w ∧ Blk w gb 64 [.string ym, .int .i64 yc, .int .i64 yg, .bool ys, .slice yA yL yC, .slice yB yM yD] := H.up hu hD 0 rfl rfl rfl
      obtain ⟨h0, hk⟩ := qbase
      have row : w.ownsRow w3.heap.size 33 5 (.slice AP n cP) n xs' := H.up hu hD 1 rfl rfl rfl
      have hKK := Lib.hid hK
      clear hK H hu hD
      go_simp
      refine hKK.out _ _ (fun f _ _ _ _ h => h) ?_
      exact Go.Dwo.fa_pick [9] (by kernel_rfl) <| Go.Dwo.fa_cons (fun _ => rfl) <| Go.Dwo.fa_nil _
    · -- 8: Op.load 109 t49
      intro Ls vs w Kk H hu hD hK
      replace hu : ∀ k ∈ ([7] : List Nat), Ls k = true := hu
      replace hD : ∀ k ∈ ([8, 9, 10, 11, 12, 13] : List Nat), Ls k = false := Go.Dwo.fa_cons (hD 8 (.inl rfl)) <| Go.Dwo.fa_cons (hD 9 (.inr (by decide))) <| Go.Dwo.fa_cons (hD 10 (.inr (by decide))) <| Go.Dwo.fa_cons (hD 11 (.inr (by decide))) <| Go.Dwo.fa_cons (hD 12 (.inr (by decide))) <| Go.Dwo.fa_cons (hD 13 (.inr (by decide))) <| Go.Dwo.fa_nil _
      simp only [Go.Dwo.actOf, List.getD_cons_succ, List.getD_cons_zero]
      have qbase : Gq w3 w ∧ Blk w gb 64 [.string ym, .int .i64 yc, .int .i64 yg, .bool ys, .slice yA yL yC, .slice yB yM yD] := H.up hu hD 0 rfl rfl rfl
      obtain ⟨h0, hk⟩ := qbase
      have row : w.ownsRow w3.heap.size 33 5 (.slice AP n cP) n xs' := H.up hu hD 1 rfl rfl rfl
      have f7 : vs 7 = .pointer (some ⟨gb, 3, none⟩) := H.up hu hD 9 rfl rfl rfl
      have d3 : w.cell? ⟨gb, 3, none⟩ = _ := hk.cell 3
      simp only [List.getElem?_cons_zero, List.getElem?_cons_succ] at d3
      have d4 : w.cell? ⟨gb, 4, none⟩ = _ := hk.cell 4
      simp only [List.getElem?_cons_zero, List.getElem?_cons_succ] at d4
      have d5 : w.cell? ⟨gb, 5, none⟩ = _ := hk.cell 5
      simp only [List.getElem?_cons_zero, List.getElem?_cons_succ] at d5
      have hKK := Lib.hid hK
      clear hK H hu hD
      go_simp
      refine hKK.out _ _ (fun f _ _ _ _ h => h) ?_
      exact Go.Dwo.fa_pick [10] (by kernel_rfl) <| Go.Dwo.fa_cons (fun _ => rfl) <| Go.Dwo.fa_nil _
    · -- 9: Op.call { value (Operand.func 70), args := #[t50], argTypes := #[109] }
      intro Ls vs w Kk H hu hD hK
      replace hu : ∀ k ∈ ([7, 8] : List Nat), Ls k = true := hu
      replace hD : ∀ k ∈ ([9, 10, 11, 12, 13] : List Nat), Ls k = false := Go.Dwo.fa_cons (hD 9 (.inl rfl)) <| Go.Dwo.fa_cons (hD 10 (.inr (by decide))) <| Go.Dwo.fa_cons (hD 11 (.inr (by decide))) <| Go.Dwo.fa_cons (hD 12 (.inr (by decide))) <| Go.Dwo.fa_cons (hD 13 (.inr (by decide))) <| Go.Dwo.fa_nil _
      simp only [Go.Dwo.actOf, List.getD_cons_succ, List.getD_cons_zero]
      have qbase : Gq w3 w ∧ Blk w gb 64 [.string ym, .int .i64 yc, .int .i64 yg, .bool ys, .slice yA yL yC, .slice yB yM yD] := H.up hu hD 0 rfl rfl rfl
      obtain ⟨h0, hk⟩ := qbase
      have row : w.ownsRow w3.heap.size 33 5 (.slice AP n cP) n xs' := H.up hu hD 1 rfl rfl rfl
      have f8 : vs 8 = .agg #[.bool ys, .slice yA yL yC, .slice yB yM yD] := H.up hu hD 10 rfl rfl rfl
      have hKK := Lib.hid hK
      clear hK H hu hD
      go_simp
      refine (HOU.out w h0).mono ?_
      rintro e w' ⟨rfl, hb⟩
      refine ⟨_, rfl, hKK.out _ _ (fun f hf _ _ _ h => hehK w3 gb ym yc yg ys yA yL yC yB yM yD TT UU AP n cP xs' f hf _ _ _ hb h) ?_⟩
      exact Go.Dwo.fa_pick [11] (by kernel_rfl) <| Go.Dwo.fa_cons (fun _ => rfl) <| Go.Dwo.fa_nil _
    · -- 10: Op.build 47 #[(0, t44), (1, t46), (2, t48), (3, t51)]
      intro Ls vs w Kk H hu hD hK
      replace hu : ∀ k ∈ ([1, 2, 3, 4, 5, 6, 7, 8, 9] : List Nat), Ls k = true := hu
      replace hD : ∀ k ∈ ([10, 11, 12, 13] : List Nat), Ls k = false := Go.Dwo.fa_cons (hD 10 (.inl rfl)) <| Go.Dwo.fa_cons (hD 11 (.inr (by decide))) <| Go.Dwo.fa_cons (hD 12 (.inr (by decide))) <| Go.Dwo.fa_cons (hD 13 (.inr (by decide))) <| Go.Dwo.fa_nil _
      simp only [Go.Dwo.actOf, List.getD_cons_succ, List.getD_cons_zero]
      have qbase : Gq w3 w ∧ Blk w gb 64 [.string ym, .int .i64 yc, .int .i64 yg, .bool ys, .slice yA yL yC, .slice yB yM yD] := H.up hu hD 0 rfl rfl rfl
      obtain ⟨h0, hk⟩ := qbase
      have row : w.ownsRow w3.heap.size 33 5 (.slice AP n cP) n xs' := H.up hu hD 1 rfl rfl rfl
      have f2 : vs 2 = .string ym := H.up hu hD 4 rfl rfl rfl
      have f4 : vs 4 = .int .i64 yc := H.up hu hD 6 rfl rfl rfl
      have f6 : vs 6 = .int .i64 yg := H.up hu hD 8 rfl rfl rfl
      have f9 : vs 9 = .agg #[.string TT, .string UU] := H.up hu hD 11 rfl rfl rfl
      have hKK := Lib.hid hK
      clear hK H hu hD
      simp only [Nat.zero_add, Nat.reduceAdd, f2, f4, f6, f9]
      refine Eq.mpr (if_pos rfl) ?_
      refine Go.Dwo.tame_build _ _ rfl _ (by simp [Act.eval]; exact builtGr ym yc yg TT UU) ?_
      refine hKK.out _ _ (fun f _ _ _ _ h => h) ?_
      exact Go.Dwo.fa_pick [12] (by kernel_rfl) <| Go.Dwo.fa_cons (fun _ => rfl) <| Go.Dwo.fa_nil _
    · -- 11: Op.buildSlice 40 1 #[(0, t52)]
      intro Ls vs w Kk H hu hD hK
      replace hu : ∀ k ∈ ([1, 2, 3, 4, 5, 6, 7, 8, 9, 10] : List Nat), Ls k = true := hu
      replace hD : ∀ k ∈ ([11, 12, 13] : List Nat), Ls k = false := Go.Dwo.fa_cons (hD 11 (.inl rfl)) <| Go.Dwo.fa_cons (hD 12 (.inr (by decide))) <| Go.Dwo.fa_cons (hD 13 (.inr (by decide))) <| Go.Dwo.fa_nil _
      simp only [Go.Dwo.actOf, List.getD_cons_succ, List.getD_cons_zero]
      have qbase : Gq w3 w ∧ Blk w gb 64 [.string ym, .int .i64 yc, .int .i64 yg, .bool ys, .slice yA yL yC, .slice yB yM yD] := H.up hu hD 0 rfl rfl rfl
      obtain ⟨h0, hk⟩ := qbase
      have row : w.ownsRow w3.heap.size 33 5 (.slice AP n cP) n xs' := H.up hu hD 1 rfl rfl rfl
      have f10 : vs 10 = .agg #[.string ym, .int .i64 yc, .int .i64 yg, .string TT, .string UU] := H.up hu hD 12 rfl rfl rfl
      have hKK := Lib.hid hK
      clear hK H hu hD
      go_simp
      refine hKK.out _ _ (fun f hf _ _ _ h => hehK w3 gb ym yc yg ys yA yL yC yB yM yD TT UU AP n cP xs' f hf _ _ _ (Gq.alloc (Gq.refl _) _) h) ?_
      exact Go.Dwo.fa_pick [13] (by kernel_rfl) <| Go.Dwo.fa_cons (fun _ => ⟨_, _, rfl, Blk.new w 33 [.string ym, .int .i64 yc, .int .i64 yg, .string TT, .string UU]⟩) <| Go.Dwo.fa_nil _
    · -- 12: Op.call { builtin append, args := #[t42, t53], argTypes := #[40, 40] }
      intro Ls vs w Kk H hu hD hK
      replace hu : ∀ k ∈ ([0, 1, 2, 3, 4, 5, 6, 7, 8, 9, 10, 11] : List Nat), Ls k = true := hu
      replace hD : ∀ k ∈ ([12, 13] : List Nat), Ls k = false := Go.Dwo.fa_cons (hD 12 (.inl rfl)) <| Go.Dwo.fa_cons (hD 13 (.inr (by decide))) <| Go.Dwo.fa_nil _
      simp only [Go.Dwo.actOf, List.getD_cons_succ, List.getD_cons_zero]
      have qbase : Gq w3 w ∧ Blk w gb 64 [.string ym, .int .i64 yc, .int .i64 yg, .bool ys, .slice yA yL yC, .slice yB yM yD] := H.up hu hD 0 rfl rfl rfl
      obtain ⟨h0, hk⟩ := qbase
      have row : w.ownsRow w3.heap.size 33 5 (.slice AP n cP) n xs' := H.up hu hD 1 rfl rfl rfl
      have f0 : vs 0 = .slice AP n cP := H.up hu hD 2 rfl rfl rfl
      have qn11 : ∃ g c, vs 11 = .slice (some ⟨g, 0, none⟩) 1 c ∧ Blk w g 33 [.string ym, .int .i64 yc, .int .i64 yg, .string TT, .string UU] := H.up hu hD 13 rfl rfl rfl
      obtain ⟨gn, cn, en, bn⟩ := qn11
      have hKK := Lib.hid hK
      clear hK H hu hD
      simp only [Nat.zero_add, Nat.reduceAdd, f0, en]
      refine Eq.mpr (if_pos rfl) ?_
      refine Go.Dwo.tame_append (.tmp 42) (.tmp 53) 25 rfl w3.heap.size 33 ii _ 5 64 Tryz.underlying25 HII.out.1 HII.out.2.1 HII.out.2.2.1 HII.out.2.2.2 rfl (by decide) (.slice AP n cP) n xs' (by rfl) row ⟨gn, 0, none⟩ 1 cn [.string ym, .int .i64 yc, .int .i64 yg, .string TT, .string UU] (by rfl) (by rfl) (World.news_of_block (cs := #[.string ym, .int .i64 yc, .int .i64 yg, .string TT, .string UU]) (t := 33) (fr := (0, 0)) (by exact bn)) (by simp [Value.oneCell']) (by decide) HNB.out.1 HNB.out.2 (Below.size h0) ?_
      intro g cap w' hown hgr hat
      refine hKK.out _ _ (fun f hf h1 h2 _ h => hehS w3 gb ym yc yg ys yA yL yC yB yM yD TT UU AP n cP xs' f hf h1 h2 _ _ _ ⟨row, hgr⟩ h) ?_
      exact Go.Dwo.fa_pick [14, 15] (by kernel_rfl) <| Go.Dwo.fa_cons (fun _ => ⟨g, cap, rfl, hown⟩) <|
          Go.Dwo.fa_cons (fun hL => absurd (show (12 : Nat) ∈ ([0, 1, 2, 3, 4, 5, 6, 7, 8, 9, 10, 11, 12] : List Nat) from by decide) (hL 13 (show (13 : Nat) ∈ ([12, 13] : List Nat) from by decide) (show (13 : Nat) ≠ 12 from by decide)).2) <| Go.Dwo.fa_nil _
    · -- 13: Op.assign t54
      intro Ls vs w Kk H hu hD hK
      replace hu : ∀ k ∈ ([0, 1, 2, 3, 4, 5, 6, 7, 8, 9, 10, 11, 12] : List Nat), Ls k = true := hu
      replace hD : ∀ k ∈ ([13] : List Nat), Ls k = false := Go.Dwo.fa_cons (hD 13 (.inl rfl)) <| Go.Dwo.fa_nil _
      simp only [Go.Dwo.actOf, List.getD_cons_succ, List.getD_cons_zero]
      have qbase : Gq w3 w ∧ Blk w gb 64 [.string ym, .int .i64 yc, .int .i64 yg, .bool ys, .slice yA yL yC, .slice yB yM yD] := H.up hu hD 0 rfl rfl rfl
      obtain ⟨h0, hk⟩ := qbase
      have qn12 : ∃ g cap, vs 12 = .slice (some ⟨g, 0, none⟩) (n + 1) cap ∧ w.ownsRow w3.heap.size 33 5 (.slice (some ⟨g, 0, none⟩) (n + 1) cap) (n + 1) (xs' ++ [.string ym, .int .i64 yc, .int .i64 yg, .string TT, .string UU]) := H.up hu hD 14 rfl rfl rfl
      obtain ⟨gz, cz, ez, oz⟩ := qn12
      have hKK := Lib.hid hK
      clear hK H hu hD
      go_simp
      refine hKK.out _ _ (fun f _ _ _ _ h => h) ?_
      exact Go.Dwo.fa_pick [15] (by kernel_rfl) <| Go.Dwo.fa_cons (fun _ => ez.symm) <| Go.Dwo.fa_nil _
    · intro vs w H
      have qbase : Gq w3 w ∧ Blk w gb 64 [.string ym, .int .i64 yc, .int .i64 yg, .bool ys, .slice yA yL yC, .slice yB yM yD] := Go.Dwo.fa_at H 0 rfl rfl
      obtain ⟨h0, hk⟩ := qbase
      have f0 : vs 0 = .slice AP n cP := Go.Dwo.fa_at H 2 rfl rfl
      have f1 : vs 1 = .pointer (some ⟨gb, 0, none⟩) := Go.Dwo.fa_at H 3 rfl rfl
      have f2 : vs 2 = .string ym := Go.Dwo.fa_at H 4 rfl rfl
      have f3 : vs 3 = .pointer (some ⟨gb, 1, none⟩) := Go.Dwo.fa_at H 5 rfl rfl
      have f4 : vs 4 = .int .i64 yc := Go.Dwo.fa_at H 6 rfl rfl
      have f5 : vs 5 = .pointer (some ⟨gb, 2, none⟩) := Go.Dwo.fa_at H 7 rfl rfl
      have f6 : vs 6 = .int .i64 yg := Go.Dwo.fa_at H 8 rfl rfl
      have f7 : vs 7 = .pointer (some ⟨gb, 3, none⟩) := Go.Dwo.fa_at H 9 rfl rfl
      have f8 : vs 8 = .agg #[.bool ys, .slice yA yL yC, .slice yB yM yD] := Go.Dwo.fa_at H 10 rfl rfl
      have f9 : vs 9 = .agg #[.string TT, .string UU] := Go.Dwo.fa_at H 11 rfl rfl
      have f10 : vs 10 = .agg #[.string ym, .int .i64 yc, .int .i64 yg, .string TT, .string UU] := Go.Dwo.fa_at H 12 rfl rfl
      have qn12 : ∃ g cap, vs 12 = .slice (some ⟨g, 0, none⟩) (n + 1) cap ∧ w.ownsRow w3.heap.size 33 5 (.slice (some ⟨g, 0, none⟩) (n + 1) cap) (n + 1) (xs' ++ [.string ym, .int .i64 yc, .int .i64 yg, .string TT, .string UU]) := Go.Dwo.fa_at H 14 rfl rfl
      obtain ⟨gz, cz, ez, oz⟩ := qn12
      have f13 : vs 13 = vs 12 := Go.Dwo.fa_at H 15 rfl rfl
      clear H
      simp only [Nat.zero_add, Nat.reduceAdd]
      have HG9 : Hid (Gq w3 w) := h0
      have HO9 : Hid (w.ownsRow w3.heap.size 33 5 (.slice (some ⟨gz, 0, none⟩) (n + 1) cz) (O ++ [grnOf (gq, q)]).length ((O ++ [grnOf (gq, q)]).flatMap Grn.cs)) := by
        show World.ownsRow _ _ _ _ _ _ _
        rw [flat_snoc, List.length_append, List.length_singleton, HNL.out.1, HNL.out.2, HGQ.out]; exact oz
      simp only [f0, f1, f2, f3, f4, f5, f6, f7, f8, f9, f10, ez, f13]
      clear f0 f1 f2 f3 f4 f5 f6 f7 f8 f9 f10 ez f13 h0 hk oz
      go_wp2_with fail
      go_roundw
      case rel => exact ⟨j + 1, O ++ [grnOf (gq, q)], hj1, by go_num, HO9, HOE2, HG9⟩
      case measure => simp [intOf]; omega
end Go.Proofs.YtmknpeoflafaoabGreatDoor
