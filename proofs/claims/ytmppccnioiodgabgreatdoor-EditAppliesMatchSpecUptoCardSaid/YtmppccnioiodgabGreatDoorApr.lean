/- Generated (gen/apr.py): the contract of the reference's Apply. -/
import Derived.Test.YtmppccnioiodgabGreatDoorSrS
import Derived.Test.YtmppccnioiodgabGreatDoorSteZ
namespace Go.Proofs.YtmppccnioiodgabGreatDoor
open Go.RowKit Go.Dw
attribute [local go_sem ↓] Go.wp_at_zero Go.wp_at_succ
attribute [local go_sem] Go.Dwo.Oper.tame

def tup (v : Value) (i : Nat) : Value := match v with
  | .tuple a => a.getD i undef
  | _ => undef

def aprF (w0 w1 : World) (rt tk : Int) (A : Option Addr) (n c : Nat) (b off k ln lc : Nat) (sk : Int) (sA : Option Addr) (sn sc : Nat) (sa sb : Int) (q : List Cli × Int) : List Go.Dwo.Fact := [
  ⟨[], [], fun _ W => Gq w1 W⟩,
  ⟨[0], [], fun vs _ => vs 0 = .agg #[.int .i64 rt, .int .i64 tk, .slice A n c]⟩,
  ⟨[1], [], fun vs _ => vs 1 = .slice (some ⟨b, off, none⟩) ln lc⟩,
  ⟨[2], [], fun vs _ => vs 2 = .int .i64 (k : Int)⟩,
  ⟨[3], [], fun vs _ => vs 3 = .pointer (some ⟨b, off + k * 4, none⟩)⟩,
  ⟨[4], [], fun vs _ => vs 4 = .agg #[.int .i64 sk, .slice sA sn sc, .int .i64 sa, .int .i64 sb]⟩,
  ⟨[5], [], fun vs W => ∃ (x : EdtM) (f : Int), vs 5 = .tuple #[x.v, .int .i64 f] ∧ RstG w0 rt tk q W x f⟩,
  ⟨[5, 6], [], fun vs _ => vs 6 = vs 5⟩,
  ⟨[6, 7], [], fun vs _ => vs 7 = tup (vs 6) 0⟩,
  ⟨[6, 8], [], fun vs _ => vs 8 = tup (vs 6) 1⟩,
  ⟨[9], [10], fun vs W => ∃ g, vs 9 = .pointer (some ⟨g, 0, none⟩) ∧ w1.heap.size ≤ g ∧ Blk W g 24 [.int .i64 0, .int .i64 0, .slice none 0 0]⟩,
  ⟨[5, 9, 10], [], fun vs W => ∃ (g : Nat) (x : EdtM) (f : Int), vs 9 = .pointer (some ⟨g, 0, none⟩) ∧ vs 5 = .tuple #[x.v, .int .i64 f] ∧ w1.heap.size ≤ g ∧ Blk W g 24 [.int .i64 x.rate, .int .i64 x.tracks, .slice x.cs.a x.cs.xs.length x.cs.c] ∧ RstG w0 rt tk q W x f⟩,
  ⟨[8, 11], [], fun vs _ => vs 11 = vs 8⟩]
theorem aprK (w0 w1 : World) (rt tk : Int) (A : Option Addr) (n c : Nat) (b off k ln lc : Nat) (sk : Int) (sA : Option Addr) (sn sc : Nat) (sa sb : Int) (q : List Cli × Int) : ∀ f ∈ aprF w0 w1 rt tk A n c b off k ln lc sk sA sn sc sa sb q, ∀ vs w w', Gq w w' → f.says vs w → f.says vs w' :=
  Go.Dwo.fa_cons (fun _ _ _ hg h => h.trans hg) <|
  Go.Dwo.fa_cons (fun _ _ _ _ h => h) <|
  Go.Dwo.fa_cons (fun _ _ _ _ h => h) <|
  Go.Dwo.fa_cons (fun _ _ _ _ h => h) <|
  Go.Dwo.fa_cons (fun _ _ _ _ h => h) <|
  Go.Dwo.fa_cons (fun _ _ _ _ h => h) <|
  Go.Dwo.fa_cons (fun _ _ _ hg h => (by obtain ⟨x, f, h1, h2⟩ := h; exact ⟨x, f, h1, h2.below hg⟩)) <|
  Go.Dwo.fa_cons (fun _ _ _ _ h => h) <|
  Go.Dwo.fa_cons (fun _ _ _ _ h => h) <|
  Go.Dwo.fa_cons (fun _ _ _ _ h => h) <|
  Go.Dwo.fa_cons (fun _ _ _ hg h => (by obtain ⟨g, h1, h2, h3⟩ := h; exact ⟨g, h1, h2, blkq h3 hg⟩)) <|
  Go.Dwo.fa_cons (fun _ _ _ hg h => (by obtain ⟨g, x, f, h1, h2, h3, h4, h5⟩ := h; exact ⟨g, x, f, h1, h2, h3, blkq h4 hg, h5.below hg⟩)) <|
  Go.Dwo.fa_cons (fun _ _ _ _ h => h) <|
  Go.Dwo.fa_nil _
set_option maxRecDepth 100000 in
set_option maxHeartbeats 16000000 in
theorem applyR_any (x : EdtM) (l : Slc StpM) (w0 : World) (hx : EdtOk w0 x) (hcap : x.cs.xs.length ≤ x.cs.c) (hl : StsB 1048576 w0 l) (hp : HasPow w0) :
    Calls Tryz.prog 5 #[x.v, l.v] w0 (AplR (applyF isNm 1000000 x.x (l.xs.map StpM.x)) w0) := by
  obtain ⟨r, hr⟩ : ∃ r, applyF isNm 1000000 x.x (l.xs.map StpM.x) = r := ⟨_, rfl⟩
  obtain ⟨f, hf⟩ : ∃ f, ediF isNm 1000000 x.x = f := ⟨_, rfl⟩
  have HCK : Hid (∀ W, Gq w0 W → Calls Tryz.prog 16 #[x.v] W fun e w' => e = .returned (.int .i64 f) ∧ Gq W w') := fun W hW => by rw [← hf]; exact checkR_any x W (hx.below hW) (hp.below hW)
  have HB1 : Hid (f ≠ 0 → r = (e0, 0, f)) := fun h => by rw [← hr, ← hf] at *; unfold applyF; rw [if_pos h]
  have HB2 : Hid (f = 0 → 200 < l.xs.length → r = (e0, 0, 2)) := fun h h2 => by rw [← hr]; unfold applyF; rw [hf, if_neg (fun k => k h), if_pos (by rw [List.length_map]; exact h2)]
  have HB3 : Hid (f = 0 → l.xs.length ≤ 200 → r = applyL isNm 1000000 x.x (l.xs.map StpM.x) 0) := fun h h2 => by rw [← hr]; unfold applyF; rw [hf, if_neg (fun k => k h), if_neg (by rw [List.length_map]; omega)]
  have HFE : Hid (f = 0 → ediF isNm 1000000 x.x = 0) := fun h => by rw [hf]; exact h
  rw [hr]
  have HX := Lib.hid hx
  have HCAP := Lib.hid hcap
  have HLS := Lib.hid hl
  have HPO := Lib.hid hp
  clear hr hf hx hl hp hcap
  obtain ⟨X, hX⟩ : ∃ X, x = X := ⟨_, rfl⟩
  obtain ⟨rt, tk, ⟨xA, xd, xs⟩⟩ := x
  obtain ⟨xn, hxn⟩ : ∃ xn : Nat, xs.length = xn := ⟨_, rfl⟩
  have hxv : X.v = .agg #[.int .i64 rt, .int .i64 tk, .slice xA xn xd] := by rw [← hX, ← hxn]; rfl
  have HXS : Hid (X.rate = rt ∧ X.tracks = tk ∧ X.cs = ⟨xA, xd, xs⟩ ∧ X.x = ⟨rt, tk, xs.map CliM.x⟩ ∧ xs.length = xn) := by rw [← hX]; exact ⟨rfl, rfl, rfl, rfl, hxn⟩
  rw [hX] at HCK HX HB3 HFE HCAP ⊢
  rw [hxv] at HCK ⊢
  clear hX hxn hxv
  obtain ⟨lA, lc, ls⟩ := l
  simp only [Slc.v] at HB1 HB2 HB3 HLS ⊢
  obtain ⟨ln, hln⟩ : ∃ ln : Nat, ls.length = ln := ⟨_, rfl⟩
  rw [hln] at HB2 HB3 ⊢
  have HLN := Lib.hid hln
  clear hln
  obtain ⟨wa, hwa⟩ : ∃ wa, wa = w0.alloc (.cells #[.int .i64 rt, .int .i64 tk, .slice xA xn xd] 24) := ⟨_, rfl⟩
  obtain ⟨wb, hwb⟩ : ∃ wb, wb = wa.alloc (.cells #[.int .i64 0, .int .i64 0, .slice none 0 0] 24) := ⟨_, rfl⟩
  have hza : wa.heap.size = w0.heap.size + 1 := by rw [hwa]; simp
  have hzb : wb.heap.size = w0.heap.size + 2 := by rw [hwb]; simp; omega
  have hga : Gq w0 wa := by rw [hwa]; exact (Gq.refl _).alloc _
  have hgb : Gq wa wb := by rw [hwb]; exact (Gq.refl _).alloc _
  have HGB : Hid (Gq w0 wb) := hga.trans hgb
  have HZB : Hid (wb.heap.size = w0.heap.size + 2) := hzb
  have HKA : Hid (Blk wb w0.heap.size 24 [.int .i64 rt, .int .i64 tk, .slice xA xn xd]) := by
    refine blkq (?_ : Blk wa w0.heap.size _ _) hgb; rw [hwa]; exact Blk.new w0 _ _
  have HKR : Hid (Blk wb (w0.heap.size + 1) 24 [.int .i64 0, .int .i64 0, .slice none 0 0]) := by
    rw [hwb, ← hza]; exact Blk.new wa _ _
  -- the result's cell is written
  have HST : Hid (∀ W u0 u1 u2, Blk W (w0.heap.size + 1) 24 [.int .i64 0, .int .i64 0, .slice none 0 0] → Gq w0 W → (W.cell? ⟨w0.heap.size + 1, 0, none⟩ = some (.int .i64 0) ∧ W.cell? ⟨w0.heap.size + 1, 1, none⟩ = some (.int .i64 0) ∧ W.cell? ⟨w0.heap.size + 1, 2, none⟩ = some (.slice none 0 0) ∧ W.frozen? ⟨w0.heap.size + 1, 0, none⟩ = false ∧ W.frozen? ⟨w0.heap.size + 1, 1, none⟩ = false ∧ W.frozen? ⟨w0.heap.size + 1, 2, none⟩ = false) ∧ ∃ W', W' = ((W.setCell ⟨w0.heap.size + 1, 0, none⟩ u0).setCell ⟨w0.heap.size + 1, 1, none⟩ u1).setCell ⟨w0.heap.size + 1, 2, none⟩ u2 ∧ W'.cell? ⟨w0.heap.size + 1, 0, none⟩ = some u0 ∧ W'.cell? ⟨w0.heap.size + 1, 1, none⟩ = some u1 ∧ W'.cell? ⟨w0.heap.size + 1, 2, none⟩ = some u2 ∧ Gq w0 W' ∧ ∀ T, T ≠ 24 → KpT T W W') := fun W u0 u1 u2 hk hg => by
    have h1 := setN_blk [u0, u1, u2] hk rfl
    exact ⟨⟨hk.cell 0, hk.cell 1, hk.cell 2, hk.frozen 0, hk.frozen 1, hk.frozen 2⟩, _, rfl, h1.cell 0, h1.cell 1, h1.cell 2, setN_below (by omega) [u0, u1, u2] W 0 hg, fun T hT => setN_kp [u0, u1, u2] hk (fun e => hT e.symm) 0⟩
  have HE0 := Lib.hid runEA
  rw [hwa] at hwb
  have HWB := Lib.hid hwb
  have HC1 := Lib.hid (HCK.out wb HGB.out)
  have c0 : wb.cell? ⟨w0.heap.size, 0, none⟩ = some (.int .i64 rt) := HKA.out.cell 0
  have c1 : wb.cell? ⟨w0.heap.size, 1, none⟩ = some (.int .i64 tk) := HKA.out.cell 1
  have c2 : wb.cell? ⟨w0.heap.size, 2, none⟩ = some (.slice xA xn xd) := HKA.out.cell 2
  clear hwa hwb hza hzb hga hgb HCK
  go_enter Tryz.func5, Tryz.ntmps5
  go_upto_region 1 with (fail)
  rw [← HWB.out]
  go_wp2_with fail
  refine HC1.out.mono ?_
  rintro e w2 ⟨rfl, hg2⟩
  have HG2 : Hid (Gq w0 w2) := HGB.out.trans hg2
  have HKA2 := Lib.hid (blkq HKA.out hg2)
  have HKR2 := Lib.hid (blkq HKR.out hg2)
  clear hg2 c0 c1 c2 HC1
  by_cases h0 : f = 0
  case neg =>
    have hfb : (f != 0) = true := by simpa using h0
    have HE := Lib.hid (HB1.out h0)
    obtain ⟨⟨k0, k1, k2, f0', f1, f2⟩, W', hW', e0', e1, e2, hge, _⟩ := HST.out w2 (.int .i64 0) (.int .i64 0) (.slice none 0 0) HKR2.out HG2.out
    have HGE := Lib.hid hge
    have HWW := Lib.hid hW'
    have hrun := HE0.out w2
    clear h0 hge hW'
    go_wp2_with fail
    rw [← HWW.out]
    exact bodyPost_ret (v := .tuple #[.agg #[.int .i64 0, .int .i64 0, .slice none 0 0], .int .i64 0, .int .i64 f]) (by simp [results, Tryz.results5, go_sem, e0', e1, e2]) rfl (aplR_none (k := 0) HE.out HGE.out)
  have hfb : (f != 0) = false := by simp [h0]
  by_cases hlr : 200 < ln
  · have HE := Lib.hid (HB2.out h0 hlr)
    have q : decide ((200 : Int) < (ln : Int)) = true := decide_eq_true (by omega)
    obtain ⟨⟨k0, k1, k2, f0', f1, f2⟩, W', hW', e0', e1, e2, hge, _⟩ := HST.out w2 (.int .i64 0) (.int .i64 0) (.slice none 0 0) HKR2.out HG2.out
    have HGE := Lib.hid hge
    have HWW := Lib.hid hW'
    have hrun := HE0.out w2
    clear h0 hge hW' hlr
    go_wp2_with fail
    rw [← HWW.out]
    exact bodyPost_ret (v := .tuple #[.agg #[.int .i64 0, .int .i64 0, .slice none 0 0], .int .i64 0, .int .i64 2]) (by simp [results, Tryz.results5, go_sem, e0', e1, e2]) rfl (aplR_none (k := 0) HE.out HGE.out)
  have q : decide ((200 : Int) < (ln : Int)) = false := decide_eq_false (by omega)
  have HLL : Hid (ln ≤ 200) := by show _ ≤ _; omega
  have HRL : Hid (r = applyL isNm 1000000 ⟨rt, tk, xs.map CliM.x⟩ (ls.map StpM.x) 0) := by
    have := HB3.out h0 HLL.out
    rw [HXS.out.2.2.2.1] at this; exact this
  have HED : Hid (ediF isNm 1000000 ⟨rt, tk, xs.map CliM.x⟩ = 0) := by rw [← HXS.out.2.2.2.1]; exact HFE.out h0
  have HE0S : Hid (EdtS w0 w2 ⟨rt, tk, ⟨xA, xd, xs⟩⟩) := by
    have h1 := HX.out
    have h2 := HCAP.out
    have h3 := h1.cr
    have h4 := h1.co
    have h5 := h1.rate
    have h6 := h1.tracks
    rw [HXS.out.2.2.1] at h2 h3 h4
    rw [HXS.out.1] at h5
    rw [HXS.out.2.1] at h6
    exact ⟨h5, h6, .inl h3, h4, h2⟩
  obtain ⟨gE, hgE⟩ : ∃ g, w0.heap.size = g := ⟨_, rfl⟩
  have HGE0 := Lib.hid hgE
  rw [hgE] at HKA2 HKR2 HST
  clear h0 hlr HB1 HB2 HB3 HFE q HKA HKR HWB HZB
  have q : decide ((200 : Int) < (ln : Int)) = false := decide_eq_false (by have := HLL.out; omega)
  simp only [hgE]
  clear hgE
  go_wp2_with fail
  go_loopw [8] (fun kv wr => ∃ k : Nat, k ≤ ln ∧ kv = .int .i64 (k : Int) ∧ Hid (∃ (A : Option Addr) (n c : Nat) (M : List CliM), M.length = n ∧ Blk wr gE 24 [.int .i64 rt, .int .i64 tk, .slice A n c] ∧ Blk wr (gE + 1) 24 [.int .i64 0, .int .i64 0, .slice none 0 0] ∧ EdtS w0 wr ⟨rt, tk, ⟨A, c, M⟩⟩ ∧ ediF isNm 1000000 ⟨rt, tk, M.map CliM.x⟩ = 0 ∧ r = applyL isNm 1000000 ⟨rt, tk, M.map CliM.x⟩ ((ls.map StpM.x).drop k) k ∧ Gq w0 wr)) (fun kv _ => ln - (intOf kv).toNat)
  case atStart => exact ⟨0, Nat.zero_le _, rfl, xA, xn, xd, xs, HXS.out.2.2.2.2, HKA2.out, HKR2.out, HE0S.out, HED.out, HRL.out, HG2.out⟩
  case round =>
    obtain ⟨k, hk, rfl, HI⟩ := hrel
    obtain ⟨A, n, c, M, hML, hKE, hKR, hES, hED, hR, hG⟩ := HI.out
    have HML := Lib.hid hML
    have HKE := Lib.hid hKE
    have HKRR := Lib.hid hKR
    have HES := Lib.hid hES
    have HED := Lib.hid hED
    have HR := Lib.hid hR
    have HGR := Lib.hid hG
    clear hML hKE hKR hES hED hR hG HI
    by_cases hlt : k < ln
    case neg =>
      have hd : decide (k < ln) = false := by simpa using hlt
      have HR2 : Hid (r = (⟨rt, tk, M.map CliM.x⟩, 0, 0)) := by
        show _ = _
        rw [HR.out, List.drop_of_length_le (by rw [List.length_map, HLN.out]; omega)]; rfl
      have a0 : wr.cell? ⟨gE, 0, none⟩ = some (.int .i64 rt) := HKE.out.cell 0
      have a1 : wr.cell? ⟨gE, 1, none⟩ = some (.int .i64 tk) := HKE.out.cell 1
      have a2 : wr.cell? ⟨gE, 2, none⟩ = some (.slice A n c) := HKE.out.cell 2
      obtain ⟨⟨k0, k1, k2, f0', f1, f2⟩, W', hW', e0', e1, e2, hge, hkp⟩ := HST.out wr (.int .i64 rt) (.int .i64 tk) (.slice A n c) HKRR.out HGR.out
      have HFIN : Hid (AplR r w0 (.returned (.tuple #[.agg #[.int .i64 rt, .int .i64 tk, .slice A n c], .int .i64 0, .int .i64 0])) W') := by
        refine ⟨hge, ⟨rt, tk, ⟨A, c, M⟩⟩, ?_, by rw [HR2.out]; rfl, (HES.out.kp (hkp _ (by decide))).ok hge ?_⟩
        · rw [HR2.out]; simp only [EdtM.v, Slc.v]; rw [HML.out]; rfl
        · have h3 := (ediF_parts HED.out).2.1
          have h4 : (M.map CliM.x).length ≤ 300 := h3
          rw [List.length_map] at h4
          show M.length ≤ _; omega
      have HWW := Lib.hid hW'
      clear hge hkp hW' hlt
      go_wp2_with fail
      rw [← HWW.out]
      exact bodyPost_ret (v := .tuple #[.agg #[.int .i64 rt, .int .i64 tk, .slice A n c], .int .i64 0, .int .i64 0]) (by simp [results, Tryz.results5, go_sem, e0', e1, e2]) rfl HFIN.out
    have hd : decide (k < ln) = true := by simpa using hlt
    have hkl : k < ls.length := by rw [HLN.out]; exact hlt
    have hlr := HLS.out.r.below HGR.out
    obtain ⟨b, off, hA, hb, hc⟩ := stp_at hlr (by show 0 < ls.length; omega)
    obtain rfl : lA = some ⟨b, off, none⟩ := hA
    have hck := hc k hkl
    have HSO : Hid (StpB 1048576 w0 ls[k]) := HLS.out.o _ (List.getElem_mem hkl)
    have HRN : Hid ((ls.map StpM.x).drop k = (ls[k]).x :: (ls.map StpM.x).drop (k + 1)) := by
      show _ = _
      rw [List.drop_eq_getElem_cons (by rw [List.length_map]; exact hkl), List.getElem_map]
    have HR2 : Hid (r = applyL isNm 1000000 ⟨rt, tk, M.map CliM.x⟩ ((ls[k]).x :: (ls.map StpM.x).drop (k + 1)) k) := by
      show _ = _; rw [HR.out, HRN.out]
    obtain ⟨q, hq⟩ : ∃ q, stepL (M.map CliM.x) (ls[k]).x = q := ⟨_, rfl⟩
    have HRQ : Hid (r = if q.2 ≠ 0 then (e0, k, q.2) else if ediF isNm 1000000 ⟨rt, tk, q.1⟩ ≠ 0 then (e0, k, ediF isNm 1000000 ⟨rt, tk, q.1⟩) else applyL isNm 1000000 ⟨rt, tk, q.1⟩ ((ls.map StpM.x).drop (k + 1)) (k + 1)) := by
      show _ = _
      rw [HR2.out, applyL, ← hq]
    have HSTP : Hid (∀ W, Gq wr W → Calls Tryz.prog 17 #[.agg #[.int .i64 rt, .int .i64 tk, .slice A n c], (ls[k]).v] W (RstR w0 rt tk q W)) := fun W hW => by
      have := stepR_any w0 W (HGR.out.trans hW) ⟨rt, tk, ⟨A, c, M⟩⟩ ls[k] (HES.out.below hW) HED.out HSO.out HPO.out
      simp only [EdtM.v, Slc.v] at this
      rw [HML.out] at this
      have he : (EdtM.x ⟨rt, tk, ⟨A, c, M⟩⟩).cs = M.map CliM.x := rfl
      rw [he, hq] at this
      exact this
    clear hq hc HRN HR2 HSO hlr
    obtain ⟨Z, hZ⟩ : ∃ Z, ls[k] = Z := ⟨_, rfl⟩
    rw [hZ] at HSTP hck
    obtain ⟨sk, ⟨sA, sc, sx⟩, sa, sb⟩ := Z
    simp only [StpM.v, Slc.v] at HSTP hck
    obtain ⟨sn, hsn⟩ : ∃ sn : Nat, sx.length = sn := ⟨_, rfl⟩
    rw [hsn] at HSTP hck
    obtain ⟨p0, p1, p2, p3⟩ := hck
    clear hZ hsn
    have HCS : Hid (∀ W, Gq wr W → W.cell? ⟨gE, 0, none⟩ = some (.int .i64 rt) ∧ W.cell? ⟨gE, 1, none⟩ = some (.int .i64 tk) ∧ W.cell? ⟨gE, 2, none⟩ = some (.slice A n c) ∧ W.cell? ⟨b, off + k * 4, none⟩ = some (.int .i64 sk) ∧ W.cell? ⟨b, off + k * 4 + 1, none⟩ = some (.slice sA sn sc) ∧ W.cell? ⟨b, off + k * 4 + 2, none⟩ = some (.int .i64 sa) ∧ W.cell? ⟨b, off + k * 4 + 3, none⟩ = some (.int .i64 sb)) := fun W hW => by
      have k1 := blkq HKE.out hW
      have qx := fun i (u : Value) (hu : wr.cell? ⟨b, i, none⟩ = some u) => (Below.cell hW (p := ⟨b, i, none⟩) (by exact hb)).trans hu
      exact ⟨k1.cell 0, k1.cell 1, k1.cell 2, qx _ _ p0, qx _ _ p1, qx _ _ p2, qx _ _ p3⟩
    have HKL : Hid (k < ln) := hlt
    obtain ⟨w1, hw1⟩ : ∃ w1, wr = w1 := ⟨_, rfl⟩
    rw [hw1] at HCS HSTP HKE HKRR HGR
    have HBASE : Hid (Gq w1 w1.drew) := (Gq.refl _).drew
    have i0 : (0 : Int) ≤ (k : Int) := by omega
    have i1 : (k : Int) < (ln : Int) := by omega
    have it : ((k : Int)).toNat = k := by omega
    clear p0 p1 p2 p3 hb hkl HES
    go_upto_region 9 with (fail)
    clear hw1
    go_cut [9, 10] (fun pv fv wx => ∃ (g : Nat) (x : EdtM) (f : Int), pv = .pointer (some ⟨g, 0, none⟩) ∧ fv = .int .i64 f ∧ Hid (Gq w1 wx) ∧ Hid (w1.heap.size ≤ g) ∧ Hid (Blk wx g 24 [.int .i64 x.rate, .int .i64 x.tracks, .slice x.cs.a x.cs.xs.length x.cs.c]) ∧ Hid (RstG w0 rt tk q wx x f))
    case first =>
      have HST := HSTP
      go_wp2_with fail
      refine Go.Dwo.wp_region_factsK _ (by kernel_rfl) [[], [], [], [1, 2], [1, 2, 3], [0, 1, 2, 3, 4], [0, 1, 2, 3, 4, 5], [0, 1, 2, 3, 4, 5, 6], [0, 1, 2, 3, 4, 5, 6], [], [0, 1, 2, 3, 4, 5, 6, 7, 9], [0, 1, 2, 3, 4, 5, 6, 8]] (by kernel_rfl) (by kernel_rfl) [some 28, some 29, some 30, some 31, some 32, some 33, some 27, some 34, some 35, some 9, none, some 10] (by kernel_rfl) (fun vs => by simp only [Go.Dwo.putA, Go.Dwo.putL, if_true, Act.put, List.setIfInBounds_toArray, List.set_cons_zero, List.set_cons_succ]; rfl) (aprF w0 w1 rt tk A n c b off k ln lc sk sA sn sc sa sb q) (by kernel_rfl) ?_ ⟨?_, ?_, ?_, ?_, ?_, ?_, ?_, ?_, ?_, ?_, ?_, ?_, trivial⟩ ?_
      · exact Go.Dwo.fa_zero [0] (by kernel_rfl) <| Go.Dwo.fa_cons (HBASE.out) <| Go.Dwo.fa_nil _
      · -- 0: Op.load 24 t2
        intro Ls vs w Kk H hu hD hK
        replace hu : ∀ k ∈ ([] : List Nat), Ls k = true := hu
        replace hD : ∀ k ∈ ([0, 5, 6, 7, 8, 10, 11] : List Nat), Ls k = false := Go.Dwo.fa_cons (hD 0 (.inl rfl)) <| Go.Dwo.fa_cons (hD 5 (.inr (by decide))) <| Go.Dwo.fa_cons (hD 6 (.inr (by decide))) <| Go.Dwo.fa_cons (hD 7 (.inr (by decide))) <| Go.Dwo.fa_cons (hD 8 (.inr (by decide))) <| Go.Dwo.fa_cons (hD 10 (.inr (by decide))) <| Go.Dwo.fa_cons (hD 11 (.inr (by decide))) <| Go.Dwo.fa_nil _
        simp only [Go.Dwo.actOf, List.getD_cons_zero]
        have h0 : Gq w1 w := H.up hu hD 0 rfl rfl rfl
        obtain ⟨d0, d1, d2, _⟩ := HCS.out w h0
        have hKK := Lib.hid hK
        clear hK H hu hD
        go_simp
        refine hKK.out _ _ (fun f _ _ _ _ h => h) ?_
        exact Go.Dwo.fa_pick [1] (by kernel_rfl) <| Go.Dwo.fa_cons (fun _ => rfl) <| Go.Dwo.fa_nil _
      · -- 1: Op.move t1
        intro Ls vs w Kk H hu hD hK
        replace hu : ∀ k ∈ ([] : List Nat), Ls k = true := hu
        replace hD : ∀ k ∈ ([1, 3, 4, 5, 6, 7, 8, 10, 11] : List Nat), Ls k = false := Go.Dwo.fa_cons (hD 1 (.inl rfl)) <| Go.Dwo.fa_cons (hD 3 (.inr (by decide))) <| Go.Dwo.fa_cons (hD 4 (.inr (by decide))) <| Go.Dwo.fa_cons (hD 5 (.inr (by decide))) <| Go.Dwo.fa_cons (hD 6 (.inr (by decide))) <| Go.Dwo.fa_cons (hD 7 (.inr (by decide))) <| Go.Dwo.fa_cons (hD 8 (.inr (by decide))) <| Go.Dwo.fa_cons (hD 10 (.inr (by decide))) <| Go.Dwo.fa_cons (hD 11 (.inr (by decide))) <| Go.Dwo.fa_nil _
        simp only [Go.Dwo.actOf, List.getD_cons_succ, List.getD_cons_zero]
        have h0 : Gq w1 w := H.up hu hD 0 rfl rfl rfl
        have hKK := Lib.hid hK
        clear hK H hu hD
        go_simp
        refine hKK.out _ _ (fun f _ _ _ _ h => h) ?_
        exact Go.Dwo.fa_pick [2] (by kernel_rfl) <| Go.Dwo.fa_cons (fun _ => rfl) <| Go.Dwo.fa_nil _
      · -- 2: Op.move t8
        intro Ls vs w Kk H hu hD hK
        replace hu : ∀ k ∈ ([] : List Nat), Ls k = true := hu
        replace hD : ∀ k ∈ ([2, 3, 4, 5, 6, 7, 8, 10, 11] : List Nat), Ls k = false := Go.Dwo.fa_cons (hD 2 (.inl rfl)) <| Go.Dwo.fa_cons (hD 3 (.inr (by decide))) <| Go.Dwo.fa_cons (hD 4 (.inr (by decide))) <| Go.Dwo.fa_cons (hD 5 (.inr (by decide))) <| Go.Dwo.fa_cons (hD 6 (.inr (by decide))) <| Go.Dwo.fa_cons (hD 7 (.inr (by decide))) <| Go.Dwo.fa_cons (hD 8 (.inr (by decide))) <| Go.Dwo.fa_cons (hD 10 (.inr (by decide))) <| Go.Dwo.fa_cons (hD 11 (.inr (by decide))) <| Go.Dwo.fa_nil _
        simp only [Go.Dwo.actOf, List.getD_cons_succ, List.getD_cons_zero]
        have h0 : Gq w1 w := H.up hu hD 0 rfl rfl rfl
        have hKK := Lib.hid hK
        clear hK H hu hD
        go_simp
        refine hKK.out _ _ (fun f _ _ _ _ h => h) ?_
        exact Go.Dwo.fa_pick [3] (by kernel_rfl) <| Go.Dwo.fa_cons (fun _ => rfl) <| Go.Dwo.fa_nil _
      · -- 3: Op.indexAddr 25 t29 t30
        intro Ls vs w Kk H hu hD hK
        replace hu : ∀ k ∈ ([1, 2] : List Nat), Ls k = true := hu
        replace hD : ∀ k ∈ ([3, 4, 5, 6, 7, 8, 10, 11] : List Nat), Ls k = false := Go.Dwo.fa_cons (hD 3 (.inl rfl)) <| Go.Dwo.fa_cons (hD 4 (.inr (by decide))) <| Go.Dwo.fa_cons (hD 5 (.inr (by decide))) <| Go.Dwo.fa_cons (hD 6 (.inr (by decide))) <| Go.Dwo.fa_cons (hD 7 (.inr (by decide))) <| Go.Dwo.fa_cons (hD 8 (.inr (by decide))) <| Go.Dwo.fa_cons (hD 10 (.inr (by decide))) <| Go.Dwo.fa_cons (hD 11 (.inr (by decide))) <| Go.Dwo.fa_nil _
        simp only [Go.Dwo.actOf, List.getD_cons_succ, List.getD_cons_zero]
        have h0 : Gq w1 w := H.up hu hD 0 rfl rfl rfl
        have f1 : vs 1 = .slice (some ⟨b, off, none⟩) ln lc := H.up hu hD 2 rfl rfl rfl
        have f2 : vs 2 = .int .i64 (k : Int) := H.up hu hD 3 rfl rfl rfl
        have hKK := Lib.hid hK
        clear hK H hu hD
        go_simp
        refine hKK.out _ _ (fun f _ _ _ _ h => h) ?_
        exact Go.Dwo.fa_pick [4] (by kernel_rfl) <| Go.Dwo.fa_cons (fun _ => rfl) <| Go.Dwo.fa_nil _
      · -- 4: Op.load 40 t31
        intro Ls vs w Kk H hu hD hK
        replace hu : ∀ k ∈ ([1, 2, 3] : List Nat), Ls k = true := hu
        replace hD : ∀ k ∈ ([4, 5, 6, 7, 8, 10, 11] : List Nat), Ls k = false := Go.Dwo.fa_cons (hD 4 (.inl rfl)) <| Go.Dwo.fa_cons (hD 5 (.inr (by decide))) <| Go.Dwo.fa_cons (hD 6 (.inr (by decide))) <| Go.Dwo.fa_cons (hD 7 (.inr (by decide))) <| Go.Dwo.fa_cons (hD 8 (.inr (by decide))) <| Go.Dwo.fa_cons (hD 10 (.inr (by decide))) <| Go.Dwo.fa_cons (hD 11 (.inr (by decide))) <| Go.Dwo.fa_nil _
        simp only [Go.Dwo.actOf, List.getD_cons_succ, List.getD_cons_zero]
        have h0 : Gq w1 w := H.up hu hD 0 rfl rfl rfl
        have f3 : vs 3 = .pointer (some ⟨b, off + k * 4, none⟩) := H.up hu hD 4 rfl rfl rfl
        obtain ⟨_, _, _, d0, d1, d2, d3⟩ := HCS.out w h0
        have hKK := Lib.hid hK
        clear hK H hu hD
        go_simp
        refine hKK.out _ _ (fun f _ _ _ _ h => h) ?_
        exact Go.Dwo.fa_pick [5] (by kernel_rfl) <| Go.Dwo.fa_cons (fun _ => rfl) <| Go.Dwo.fa_nil _
      · -- 5: Op.call { value (Operand.func 17), args := #[t28, t32], argTypes := #[24, 40] }
        intro Ls vs w Kk H hu hD hK
        replace hu : ∀ k ∈ ([0, 1, 2, 3, 4] : List Nat), Ls k = true := hu
        replace hD : ∀ k ∈ ([5, 6, 7, 8, 10, 11] : List Nat), Ls k = false := Go.Dwo.fa_cons (hD 5 (.inl rfl)) <| Go.Dwo.fa_cons (hD 6 (.inr (by decide))) <| Go.Dwo.fa_cons (hD 7 (.inr (by decide))) <| Go.Dwo.fa_cons (hD 8 (.inr (by decide))) <| Go.Dwo.fa_cons (hD 10 (.inr (by decide))) <| Go.Dwo.fa_cons (hD 11 (.inr (by decide))) <| Go.Dwo.fa_nil _
        simp only [Go.Dwo.actOf, List.getD_cons_succ, List.getD_cons_zero]
        have h0 : Gq w1 w := H.up hu hD 0 rfl rfl rfl
        have f0 : vs 0 = .agg #[.int .i64 rt, .int .i64 tk, .slice A n c] := H.up hu hD 1 rfl rfl rfl
        have f4 : vs 4 = .agg #[.int .i64 sk, .slice sA sn sc, .int .i64 sa, .int .i64 sb] := H.up hu hD 5 rfl rfl rfl
        have hKK := Lib.hid hK
        clear hK H hu hD
        go_simp
        refine (HST.out w h0).mono ?_
        rintro e w' ⟨hb, x, f, rfl, hr⟩
        refine ⟨_, rfl, hKK.out _ _ (fun f hf _ _ _ h => aprK w0 w1 rt tk A n c b off k ln lc sk sA sn sc sa sb q f hf _ _ _ hb h) ?_⟩
        exact Go.Dwo.fa_pick [6, 7, 11] (by kernel_rfl) <| Go.Dwo.fa_cons (fun _ => ⟨x, f, rfl, hr⟩) <|
            Go.Dwo.fa_cons (fun hL => absurd (show (5 : Nat) ∈ ([0, 1, 2, 3, 4, 5] : List Nat) from by decide) (hL 6 (show (6 : Nat) ∈ ([5, 6] : List Nat) from by decide) (show (6 : Nat) ≠ 5 from by decide)).2) <|
            Go.Dwo.fa_cons (fun hL => absurd (show (5 : Nat) ∈ ([0, 1, 2, 3, 4, 5, 6, 7, 9] : List Nat) from by decide) (hL 10 (show (10 : Nat) ∈ ([5, 9, 10] : List Nat) from by decide) (show (10 : Nat) ≠ 5 from by decide)).2) <| Go.Dwo.fa_nil _
      · -- 6: Op.move t33
        intro Ls vs w Kk H hu hD hK
        replace hu : ∀ k ∈ ([0, 1, 2, 3, 4, 5] : List Nat), Ls k = true := hu
        replace hD : ∀ k ∈ ([6, 7, 8, 10, 11] : List Nat), Ls k = false := Go.Dwo.fa_cons (hD 6 (.inl rfl)) <| Go.Dwo.fa_cons (hD 7 (.inr (by decide))) <| Go.Dwo.fa_cons (hD 8 (.inr (by decide))) <| Go.Dwo.fa_cons (hD 10 (.inr (by decide))) <| Go.Dwo.fa_cons (hD 11 (.inr (by decide))) <| Go.Dwo.fa_nil _
        simp only [Go.Dwo.actOf, List.getD_cons_succ, List.getD_cons_zero]
        have h0 : Gq w1 w := H.up hu hD 0 rfl rfl rfl
        have qn5 : ∃ (x : EdtM) (f : Int), vs 5 = .tuple #[x.v, .int .i64 f] ∧ RstG w0 rt tk q w x f := H.up hu hD 6 rfl rfl rfl
        obtain ⟨x5, z5, e5, r5⟩ := qn5
        have hKK := Lib.hid hK
        clear hK H hu hD
        go_simp
        refine hKK.out _ _ (fun f _ _ _ _ h => h) ?_
        exact Go.Dwo.fa_pick [7, 8, 9] (by kernel_rfl) <| Go.Dwo.fa_cons (fun _ => e5.symm) <|
            Go.Dwo.fa_cons (fun hL => absurd (show (6 : Nat) ∈ ([0, 1, 2, 3, 4, 5, 6] : List Nat) from by decide) (hL 7 (show (7 : Nat) ∈ ([6, 7] : List Nat) from by decide) (show (7 : Nat) ≠ 6 from by decide)).2) <|
            Go.Dwo.fa_cons (fun hL => absurd (show (6 : Nat) ∈ ([0, 1, 2, 3, 4, 5, 6] : List Nat) from by decide) (hL 8 (show (8 : Nat) ∈ ([6, 8] : List Nat) from by decide) (show (8 : Nat) ≠ 6 from by decide)).2) <| Go.Dwo.fa_nil _
      · -- 7: Op.extract t27 0
        intro Ls vs w Kk H hu hD hK
        replace hu : ∀ k ∈ ([0, 1, 2, 3, 4, 5, 6] : List Nat), Ls k = true := hu
        replace hD : ∀ k ∈ ([7, 10] : List Nat), Ls k = false := Go.Dwo.fa_cons (hD 7 (.inl rfl)) <| Go.Dwo.fa_cons (hD 10 (.inr (by decide))) <| Go.Dwo.fa_nil _
        simp only [Go.Dwo.actOf, List.getD_cons_succ, List.getD_cons_zero]
        have h0 : Gq w1 w := H.up hu hD 0 rfl rfl rfl
        have qn5 : ∃ (x : EdtM) (f : Int), vs 5 = .tuple #[x.v, .int .i64 f] ∧ RstG w0 rt tk q w x f := H.up hu hD 6 rfl rfl rfl
        obtain ⟨x5, z5, e5, r5⟩ := qn5
        have f6 : vs 6 = vs 5 := H.up hu hD 7 rfl rfl rfl
        rw [e5] at f6
        have hKK := Lib.hid hK
        clear hK H hu hD
        go_simp
        refine hKK.out _ _ (fun f _ _ _ _ h => h) ?_
        exact Go.Dwo.fa_pick [8] (by kernel_rfl) <| Go.Dwo.fa_cons (fun _ => by show _ = tup (vs 6) 0; rw [show vs 6 = _ from f6]; rfl) <| Go.Dwo.fa_nil _
      · -- 8: Op.extract t27 1
        intro Ls vs w Kk H hu hD hK
        replace hu : ∀ k ∈ ([0, 1, 2, 3, 4, 5, 6] : List Nat), Ls k = true := hu
        replace hD : ∀ k ∈ ([8, 11] : List Nat), Ls k = false := Go.Dwo.fa_cons (hD 8 (.inl rfl)) <| Go.Dwo.fa_cons (hD 11 (.inr (by decide))) <| Go.Dwo.fa_nil _
        simp only [Go.Dwo.actOf, List.getD_cons_succ, List.getD_cons_zero]
        have h0 : Gq w1 w := H.up hu hD 0 rfl rfl rfl
        have qn5 : ∃ (x : EdtM) (f : Int), vs 5 = .tuple #[x.v, .int .i64 f] ∧ RstG w0 rt tk q w x f := H.up hu hD 6 rfl rfl rfl
        obtain ⟨x5, z5, e5, r5⟩ := qn5
        have f6 : vs 6 = vs 5 := H.up hu hD 7 rfl rfl rfl
        rw [e5] at f6
        have hKK := Lib.hid hK
        clear hK H hu hD
        go_simp
        refine hKK.out _ _ (fun f _ _ _ _ h => h) ?_
        exact Go.Dwo.fa_pick [9, 12] (by kernel_rfl) <| Go.Dwo.fa_cons (fun _ => by show _ = tup (vs 6) 1; rw [show vs 6 = _ from f6]; rfl) <|
            Go.Dwo.fa_cons (fun hL => absurd (show (8 : Nat) ∈ ([0, 1, 2, 3, 4, 5, 6, 8] : List Nat) from by decide) (hL 11 (show (11 : Nat) ∈ ([8, 11] : List Nat) from by decide) (show (11 : Nat) ≠ 8 from by decide)).2) <| Go.Dwo.fa_nil _
      · -- 9: Op.alloc 24
        intro Ls vs w Kk H hu hD hK
        replace hu : ∀ k ∈ ([] : List Nat), Ls k = true := hu
        replace hD : ∀ k ∈ ([9, 10] : List Nat), Ls k = false := Go.Dwo.fa_cons (hD 9 (.inl rfl)) <| Go.Dwo.fa_cons (hD 10 (.inr (by decide))) <| Go.Dwo.fa_nil _
        simp only [Go.Dwo.actOf, List.getD_cons_succ, List.getD_cons_zero]
        have h0 : Gq w1 w := H.up hu hD 0 rfl rfl rfl
        have hKK := Lib.hid hK
        clear hK H hu hD
        go_simp
        refine hKK.out _ _ (fun f hf _ _ _ h => aprK w0 w1 rt tk A n c b off k ln lc sk sA sn sc sa sb q f hf _ _ _ (Gq.alloc (Gq.refl _) _) h) ?_
        exact Go.Dwo.fa_pick [10, 11] (by kernel_rfl) <| Go.Dwo.fa_cons (fun _ => ⟨_, rfl, Below.size h0, Blk.new w 24 [.int .i64 0, .int .i64 0, .slice none 0 0]⟩) <|
            Go.Dwo.fa_cons (fun hL => absurd (show (9 : Nat) ∈ ([0, 1, 2, 3, 4, 5, 6, 7, 9] : List Nat) from by decide) (hL 10 (show (10 : Nat) ∈ ([5, 9, 10] : List Nat) from by decide) (show (10 : Nat) ≠ 9 from by decide)).2) <| Go.Dwo.fa_nil _
      · -- 10: Op.store 24 t9 t34
        intro Ls vs w Kk H hu hD hK
        replace hu : ∀ k ∈ ([0, 1, 2, 3, 4, 5, 6, 7, 9] : List Nat), Ls k = true := hu
        replace hD : ∀ k ∈ ([10] : List Nat), Ls k = false := Go.Dwo.fa_cons (hD 10 (.inl rfl)) <| Go.Dwo.fa_nil _
        simp only [Go.Dwo.actOf, List.getD_cons_succ, List.getD_cons_zero]
        have h0 : Gq w1 w := H.up hu hD 0 rfl rfl rfl
        have qn5 : ∃ (x : EdtM) (f : Int), vs 5 = .tuple #[x.v, .int .i64 f] ∧ RstG w0 rt tk q w x f := H.up hu hD 6 rfl rfl rfl
        obtain ⟨x5, z5, e5, r5⟩ := qn5
        have f6 : vs 6 = vs 5 := H.up hu hD 7 rfl rfl rfl
        have f7 : vs 7 = tup (vs 6) 0 := H.up hu hD 8 rfl rfl rfl
        have qn9 : ∃ g, vs 9 = .pointer (some ⟨g, 0, none⟩) ∧ w1.heap.size ≤ g ∧ Blk w g 24 [.int .i64 0, .int .i64 0, .slice none 0 0] := H.up hu hD 10 rfl rfl rfl
        obtain ⟨g9, e9, l9, k9⟩ := qn9
        have HDD := Lib.hid hD
        have HH := Lib.hid H
        rw [f6, e5] at f7
        replace f7 : vs 7 = .agg #[.int .i64 x5.rate, .int .i64 x5.tracks, .slice x5.cs.a x5.cs.xs.length x5.cs.c] := f7
        have d0 : w.cell? ⟨g9, 0, none⟩ = _ := k9.cell 0
        have z0 := k9.frozen 0
        have d1 : w.cell? ⟨g9, 1, none⟩ = _ := k9.cell 1
        have z1 := k9.frozen 1
        have d2 : w.cell? ⟨g9, 2, none⟩ = _ := k9.cell 2
        have z2 := k9.frozen 2
        simp only [List.getElem?_cons_zero, List.getElem?_cons_succ] at d0 d1 d2
        have hKK := Lib.hid hK
        clear hK H hu hD
        go_simp
        have HSTB := Lib.hid (setN_blk [.int .i64 x5.rate, .int .i64 x5.tracks, .slice x5.cs.a x5.cs.xs.length x5.cs.c] k9 rfl)
        refine hKK.out _ _ (Go.Dwo.fa_cons (fun _ _ _ h => setN_below l9 [.int .i64 x5.rate, .int .i64 x5.tracks, .slice x5.cs.a x5.cs.xs.length x5.cs.c] w 0 h) <|
            Go.Dwo.fa_cons (fun _ _ _ h => h) <|
            Go.Dwo.fa_cons (fun _ _ _ h => h) <|
            Go.Dwo.fa_cons (fun _ _ _ h => h) <|
            Go.Dwo.fa_cons (fun _ _ _ h => h) <|
            Go.Dwo.fa_cons (fun _ _ _ h => h) <|
            Go.Dwo.fa_cons (fun _ _ _ h => (by obtain ⟨x, f, h1, h2⟩ := h; exact ⟨x, f, h1, h2.kp (setN_kp [.int .i64 x5.rate, .int .i64 x5.tracks, .slice x5.cs.a x5.cs.xs.length x5.cs.c] k9 (by decide) 0)⟩)) <|
            Go.Dwo.fa_cons (fun _ _ _ h => h) <|
            Go.Dwo.fa_cons (fun _ _ _ h => h) <|
            Go.Dwo.fa_cons (fun _ _ _ h => h) <|
            Go.Dwo.fa_cons (fun _ hn _ _ => absurd (show (10 : Nat) ∈ ([10] : List Nat) from by decide) hn) <|
            Go.Dwo.fa_cons (fun hn _ _ _ => absurd (show (10 : Nat) ∈ ([5, 9, 10] : List Nat) from by decide) hn) <|
            Go.Dwo.fa_cons (fun _ _ _ h => h) <| Go.Dwo.fa_nil _) ?_
        exact Go.Dwo.fa_pick [11] (by kernel_rfl) <| Go.Dwo.fa_cons (fun _ => ⟨g9, x5, z5, e9, e5, l9, HSTB.out, r5.kp (setN_kp [.int .i64 x5.rate, .int .i64 x5.tracks, .slice x5.cs.a x5.cs.xs.length x5.cs.c] k9 (by decide) 0)⟩) <| Go.Dwo.fa_nil _
      · -- 11: Op.assign t35
        intro Ls vs w Kk H hu hD hK
        replace hu : ∀ k ∈ ([0, 1, 2, 3, 4, 5, 6, 8] : List Nat), Ls k = true := hu
        replace hD : ∀ k ∈ ([11] : List Nat), Ls k = false := Go.Dwo.fa_cons (hD 11 (.inl rfl)) <| Go.Dwo.fa_nil _
        simp only [Go.Dwo.actOf, List.getD_cons_succ, List.getD_cons_zero]
        have h0 : Gq w1 w := H.up hu hD 0 rfl rfl rfl
        have hKK := Lib.hid hK
        clear hK H hu hD
        go_simp
        refine hKK.out _ _ (fun f _ _ _ _ h => h) ?_
        exact Go.Dwo.fa_pick [12] (by kernel_rfl) <| Go.Dwo.fa_cons (fun _ => rfl) <| Go.Dwo.fa_nil _
      · intro vs w H
        have h0 : Gq w1 w := Go.Dwo.fa_at H 0 rfl rfl
        have f0 : vs 0 = .agg #[.int .i64 rt, .int .i64 tk, .slice A n c] := Go.Dwo.fa_at H 1 rfl rfl
        have f1 : vs 1 = .slice (some ⟨b, off, none⟩) ln lc := Go.Dwo.fa_at H 2 rfl rfl
        have f2 : vs 2 = .int .i64 (k : Int) := Go.Dwo.fa_at H 3 rfl rfl
        have f3 : vs 3 = .pointer (some ⟨b, off + k * 4, none⟩) := Go.Dwo.fa_at H 4 rfl rfl
        have f4 : vs 4 = .agg #[.int .i64 sk, .slice sA sn sc, .int .i64 sa, .int .i64 sb] := Go.Dwo.fa_at H 5 rfl rfl
        have qn5 : ∃ (x : EdtM) (f : Int), vs 5 = .tuple #[x.v, .int .i64 f] ∧ RstG w0 rt tk q w x f := Go.Dwo.fa_at H 6 rfl rfl
        obtain ⟨x5, z5, e5, r5⟩ := qn5
        have f6 : vs 6 = vs 5 := Go.Dwo.fa_at H 7 rfl rfl
        have f7 : vs 7 = tup (vs 6) 0 := Go.Dwo.fa_at H 8 rfl rfl
        have f8 : vs 8 = tup (vs 6) 1 := Go.Dwo.fa_at H 9 rfl rfl
        have qn10 : ∃ (g : Nat) (x : EdtM) (f : Int), vs 9 = .pointer (some ⟨g, 0, none⟩) ∧ vs 5 = .tuple #[x.v, .int .i64 f] ∧ w1.heap.size ≤ g ∧ Blk w g 24 [.int .i64 x.rate, .int .i64 x.tracks, .slice x.cs.a x.cs.xs.length x.cs.c] ∧ RstG w0 rt tk q w x f := Go.Dwo.fa_at H 11 rfl rfl
        obtain ⟨gT, xT, zT, eT, eT5, lT, kT, rT⟩ := qn10
        have f11 : vs 11 = vs 8 := Go.Dwo.fa_at H 12 rfl rfl
        clear H
        simp only [Nat.zero_add, Nat.reduceAdd]
        have HGT : Hid (Gq w1 w) := h0
        have HLT : Hid (w1.heap.size ≤ gT) := lT
        have HKT : Hid (Blk w gT 24 [.int .i64 xT.rate, .int .i64 xT.tracks, .slice xT.cs.a xT.cs.xs.length xT.cs.c]) := kT
        have HRT9 : Hid (RstG w0 rt tk q w xT zT) := rT
        have HF : Hid (vs 11 = .int .i64 zT) := by show _ = _; rw [f11, f8, f6, eT5]; rfl
        simp only [eT, HF.out]
        clear f0 f1 f2 f3 f4 f6 f7 f8 f11 e5 r5 eT eT5 h0 lT kT rT HF
        go_wp2_with fail
        go_meet
        case rel => exact ⟨gT, xT, zT, rfl, rfl, HGT, HLT, HKT, HRT9⟩
    case rest =>
      obtain ⟨g, ⟨yr, yt, ⟨yA, yc, ys⟩⟩, f', rfl, rfl, HGC, HGL, HKG, HRG⟩ := hcut
      obtain ⟨yn, hyn⟩ : ∃ yn : Nat, ys.length = yn := ⟨_, rfl⟩
      have HYN := Lib.hid hyn
      simp only at HKG
      rw [hyn] at HKG
      clear hyn
      have HGW : Hid (Gq w0 wc) := HGR.out.trans HGC.out
      have HKE2 := Lib.hid (blkq HKE.out HGC.out)
      have HKR2 := Lib.hid (blkq HKRR.out HGC.out)
      by_cases hf : f' = 0
      case neg =>
        have hfb : (f' != 0) = true := by simpa using hf
        have HE : Hid (r = (e0, k, f')) := by
          have h1 := HRQ.out
          by_cases hq2 : q.2 = 0
          · have h2 := (HRG.out.good hq2).2.1
            rw [if_neg (fun k => k hq2), ← h2, if_pos hf] at h1
            exact h1
          · have h2 := (HRG.out.bad hq2).2
            rw [if_pos hq2, ← h2] at h1
            exact h1
        obtain ⟨⟨k0, k1, k2, f0', f1, f2⟩, W', hW', e0', e1, e2, hge, _⟩ := HST.out wc (.int .i64 0) (.int .i64 0) (.slice none 0 0) HKR2.out HGW.out
        have HGE := Lib.hid hge
        have HWW := Lib.hid hW'
        have hrun := HE0.out wc
        clear hf hge hW'
        go_wp2_with fail
        rw [← HWW.out]
        exact bodyPost_ret (v := .tuple #[.agg #[.int .i64 0, .int .i64 0, .slice none 0 0], .int .i64 (k : Int), .int .i64 f']) (by simp [results, Tryz.results5, go_sem, e0', e1, e2]) rfl (aplR_none (k := k) HE.out HGE.out)
      have hfb : (f' != 0) = false := by simp [hf]
      have HQ0 : Hid (q.2 = 0) := by
        by_cases hq2 : q.2 = 0
        · exact hq2
        · have h2 := (HRG.out.bad hq2).2
          rw [hf] at h2; exact absurd h2.symm hq2
      have HGD : Hid (yr = rt ∧ yt = tk ∧ ys.map CliM.x = q.1 ∧ ediF isNm 1000000 ⟨rt, tk, q.1⟩ = 0 ∧ EdtS w0 wc ⟨rt, tk, ⟨yA, yc, ys⟩⟩) := by
        obtain ⟨h1, h2, h3⟩ := HRG.out.good HQ0.out
        have h4 : (⟨yr, yt, ys.map CliM.x⟩ : Edt) = ⟨rt, tk, q.1⟩ := h1
        injection h4 with h5 h6 h7
        subst h5; subst h6
        exact ⟨rfl, rfl, h7, by rw [← h2]; exact hf, h3⟩
      have HRN2 : Hid (r = applyL isNm 1000000 ⟨rt, tk, ys.map CliM.x⟩ ((ls.map StpM.x).drop (k + 1)) (k + 1)) := by
        have h1 := HRQ.out
        have h2 := HGD.out
        rw [if_neg (fun k => k HQ0.out), if_neg (fun k => k h2.2.2.2.1), ← h2.2.2.1] at h1
        exact h1
      have hyr : yr = rt := HGD.out.1
      have hyt : yt = tk := HGD.out.2.1
      rw [hyr, hyt] at HKG
      clear hf hyr hyt HRQ HRG
      have a0 : wc.cell? ⟨gE, 0, none⟩ = some (.int .i64 rt) := HKE2.out.cell 0
      have a1 : wc.cell? ⟨gE, 1, none⟩ = some (.int .i64 tk) := HKE2.out.cell 1
      have a2 : wc.cell? ⟨gE, 2, none⟩ = some (.slice A n c) := HKE2.out.cell 2
      have af0 : wc.frozen? ⟨gE, 0, none⟩ = false := HKE2.out.frozen 0
      have af1 : wc.frozen? ⟨gE, 1, none⟩ = false := HKE2.out.frozen 1
      have af2 : wc.frozen? ⟨gE, 2, none⟩ = false := HKE2.out.frozen 2
      have b0 : wc.cell? ⟨g, 0, none⟩ = some (.int .i64 rt) := HKG.out.cell 0
      have b1 : wc.cell? ⟨g, 1, none⟩ = some (.int .i64 tk) := HKG.out.cell 1
      have b2 : wc.cell? ⟨g, 2, none⟩ = some (.slice yA yn yc) := HKG.out.cell 2
      obtain ⟨wd, hwd⟩ : ∃ wd, ((wc.setCell ⟨gE, 0, none⟩ (.int .i64 rt)).setCell ⟨gE, 1, none⟩ (.int .i64 tk)).setCell ⟨gE, 2, none⟩ (.slice yA yn yc) = wd := ⟨_, rfl⟩
      have HNX : Hid (∃ (A : Option Addr) (n c : Nat) (M : List CliM), M.length = n ∧ Blk wd gE 24 [.int .i64 rt, .int .i64 tk, .slice A n c] ∧ Blk wd (gE + 1) 24 [.int .i64 0, .int .i64 0, .slice none 0 0] ∧ EdtS w0 wd ⟨rt, tk, ⟨A, c, M⟩⟩ ∧ ediF isNm 1000000 ⟨rt, tk, M.map CliM.x⟩ = 0 ∧ r = applyL isNm 1000000 ⟨rt, tk, M.map CliM.x⟩ ((ls.map StpM.x).drop (k + 1)) (k + 1) ∧ Gq w0 wd) := by
        have h2 := HGD.out
        have h3 := setN_blk [.int .i64 rt, .int .i64 tk, .slice yA yn yc] HKE2.out rfl
        have h4 := setN_kp (T := 52) [.int .i64 rt, .int .i64 tk, .slice yA yn yc] HKE2.out (by decide) 0
        have h5 := setN_heap (g := gE) [.int .i64 rt, .int .i64 tk, .slice yA yn yc] wc 0 (gE + 1) (by omega)
        have h6 := setN_below (w0 := w0) (B := w0.heap.size) (g := gE) (by rw [HGE0.out]; exact Nat.le_refl _) [.int .i64 rt, .int .i64 tk, .slice yA yn yc] wc 0 HGW.out
        have e : setN wc gE 0 [.int .i64 rt, .int .i64 tk, .slice yA yn yc] = wd := hwd
        rw [e] at h3 h4 h5 h6
        exact ⟨yA, yn, yc, ys, HYN.out, h3, h5.trans HKR2.out, h2.2.2.2.2.kp h4, by rw [h2.2.2.1]; exact h2.2.2.2.1, HRN2.out, h6⟩
      have HWD := Lib.hid hwd
      have hlt2 := HKL.out
      have hll2 := HLL.out
      clear hwd HKE HKRR HKE2 HKR2 HKG HGC HGL
      go_wp2_with fail
      rw [HWD.out]
      go_roundw
      case rel => exact ⟨k + 1, by omega, by go_num, HNX⟩
      case measure => simp [intOf]; omega
end Go.Proofs.YtmppccnioiodgabGreatDoor
