/- The contract of edit.Heard. -/
import Derived.Test.YtmknpeoflafaoabGreatDoorHeaZ
import Derived.Test.YtmknpeoflafaoabGreatDoorHeaC
import Derived.Test.YtmknpeoflafaoabGreatDoorGra
import Derived.Test.YtmknpeoflafaoabGreatDoorSgn
import Derived.Test.YtmknpeoflafaoabGreatDoorNatY
import Derived.Test.YtmknpeoflafaoabGreatDoorRatX
import Derived.Test.YtmknpeoflafaoabGreatDoorCliZ
import Derived.Deep.DeepCutAuto
import Derived.Deep.CutBlock
namespace Go.Proofs.YtmknpeoflafaoabGreatDoor
open Go.RowKit Go.Dw Go.Maps
attribute [local go_sem ↓] Go.wp_at_zero Go.wp_at_succ

theorem sgnZ_zero (q : Rat) : (q = 0 → sgnZ q.num = 0) ∧ (q ≠ 0 → (sgnZ q.num != 0) = true) := by
  refine ⟨fun h => by rw [h]; rfl, fun h => ?_⟩
  have : q.num ≠ 0 := fun e => h (by
    have := Rat.num_eq_zero.1 e; exact this)
  unfold sgnZ
  split
  · rfl
  · rfl
theorem infoGr : (Tryz.prog.info? 33).map (fun i => (i.zero, i.size, i.bytes)) = some (some (.agg #[.string ⟨#[]⟩, .int .i64 0, .int .i64 0, .string ⟨#[]⟩, .string ⟨#[]⟩]), 5, 64) := by kernel_rfl
theorem grown_setC (W : World) (g i : Nat) (v : Value) : W.grownBy (W.setCell ⟨g, i, none⟩ v) (some g) :=
  ⟨rfl, rfl, rfl, by simp [World.setCell], fun j _ hne => Below.heap_setCell W ⟨g, i, none⟩ v j (fun e => hne (by rw [e]))⟩
theorem own_lower {w : World} {base base' e size n : Nat} {v : Value} {xs : List Value} (h : w.ownsRow base e size v n xs) (hb : base' ≤ base) : w.ownsRow base' e size v n xs :=
  ⟨h.1, h.2.imp id fun ⟨g, cap, cur, h1, h2, h3⟩ => ⟨g, cap, cur, h1, Nat.le_trans hb h2, h3⟩⟩
set_option maxRecDepth 100000 in
set_option maxHeartbeats 16000000 in
theorem heard_any (e : EdtM) (tr at_ : Int) (w : World) (h : EdtOk w e) :
    Calls Tryz.prog 4 #[e.v, .int .i64 tr, .int .i64 at_] w (HeaR (heaF isNm 1000000 e.x tr at_) w) := by
  obtain ⟨E, hE⟩ : ∃ E, e = E := ⟨_, rfl⟩
  obtain ⟨rt, tk, ⟨A, d, xs⟩⟩ := e
  have hEv : E.v = .agg #[.int .i64 rt, .int .i64 tk, .slice A xs.length d] := by rw [← hE]; rfl
  have HEX : Hid (E.x.cs = xs.map CliM.x ∧ E.x.tracks = tk ∧ E.cs.a = A ∧ E.cs.xs = xs) := by rw [← hE]; exact ⟨rfl, rfl, rfl, rfl⟩
  rw [hE] at h ⊢
  rw [hEv]
  have htk := h.tracks
  rw [show E.tracks = tk by rw [← hE]] at htk
  obtain ⟨tk1, tk2⟩ := htk
  clear hE
  obtain ⟨w0, hw0⟩ : ∃ w0, w0 = w.alloc (.cells #[.int .i64 rt, .int .i64 tk, .slice A xs.length d] 24) := ⟨_, rfl⟩
  have HB0 : Hid (Gq w w0) := by rw [hw0]; exact (Gq.refl _).alloc _
  have HKE : Hid (Blk w0 w.heap.size 24 [.int .i64 rt, .int .i64 tk, .slice A xs.length d]) := by rw [hw0]; exact Blk.new w _ _
  have HOK : Hid (∀ W, Gq w0 W → EdtOk W E) := fun W hW => (h.below HB0.out).below hW
  have HCE : Hid (∀ W, Gq w0 W → W.cell? ⟨w.heap.size, 0, none⟩ = some (.int .i64 rt) ∧ W.cell? ⟨w.heap.size, 1, none⟩ = some (.int .i64 tk) ∧ W.cell? ⟨w.heap.size, 2, none⟩ = some (.slice A xs.length d)) := fun W hW => by
    have k1 := blk_gq HKE.out hW
    exact ⟨k1.cell 0, k1.cell 1, k1.cell 2⟩
  obtain ⟨f, hf⟩ : ∃ f, ediF isNm 1000000 E.x = f := ⟨_, rfl⟩
  have HCK : Hid (Calls Tryz.prog 8 #[.agg #[.int .i64 rt, .int .i64 tk, .slice A xs.length d]] w0 fun e w' => e = .returned (.int .i64 f) ∧ Gq w0 w') := by
    rw [← hEv, ← hf]; exact check_any E w0 (HOK.out w0 (Gq.refl _))
  have HBAD : Hid (f ≠ 0 → heaF isNm 1000000 E.x tr at_ = ([], f)) := fun hn => by unfold heaF; rw [hf, if_pos hn]
  have HRNG : Hid (f = 0 → tr < 0 ∨ tk ≤ tr ∨ at_ < 0 ∨ 100000 ≤ at_ → heaF isNm 1000000 E.x tr at_ = ([], 1)) := fun h0 hn => by
    unfold heaF; rw [hf, if_neg (by simpa using h0), HEX.out.2.1, if_pos hn]
  have HGOOD : Hid (f = 0 → ¬ (tr < 0 ∨ tk ≤ tr ∨ at_ < 0 ∨ 100000 ≤ at_) → heaF isNm 1000000 E.x tr at_ = (heaL tr at_ (xs.map CliM.x), 0)) := fun h0 hn => by
    unfold heaF; rw [hf, if_neg (by simpa using h0), HEX.out.2.1, if_neg hn, HEX.out.1]
  have HFE := Lib.hid hf
  obtain ⟨c0, c1, c2⟩ := HCE.out w0 (Gq.refl _)
  have HW0 := Lib.hid hw0
  clear hw0 h hf hEv
  by_cases hf0 : f = 0
  case neg =>
    have HR := Lib.hid (HBAD.out hf0)
    have hfb : (f != 0) = true := by simpa using hf0
    clear hf0 HBAD HRNG HGOOD
    go_enter Tryz.func4, Tryz.ntmps4
    go_upto_region 1 with (fail)
    rw [← HW0.out]
    go_wp2_with fail
    refine HCK.out.mono ?_
    rintro e w2 ⟨rfl, hb2⟩
    have HB2 : Hid (Below w.heap.size w w2) := HB0.out.trans hb2
    clear hb2
    go_wp2_with fail
    go_ret2
    exact heaR_none HR.out HB2.out
  subst hf0
  by_cases hr : tr < 0 ∨ tk ≤ tr ∨ at_ < 0 ∨ 100000 ≤ at_
  · have HR := Lib.hid (HRNG.out rfl hr)
    have hcs : decide (tr < 0) = true ∨ (decide (tr < 0) = false ∧ decide (tk ≤ tr) = true) ∨ (decide (tr < 0) = false ∧ decide (tk ≤ tr) = false ∧ decide (at_ < 0) = true) ∨ (decide (tr < 0) = false ∧ decide (tk ≤ tr) = false ∧ decide (at_ < 0) = false ∧ decide (100000 ≤ at_) = true) := by
      by_cases q1 : tr < 0
      · exact .inl (decide_eq_true q1)
      · by_cases q2 : tk ≤ tr
        · exact .inr (.inl ⟨decide_eq_false q1, decide_eq_true q2⟩)
        · by_cases q3 : at_ < 0
          · exact .inr (.inr (.inl ⟨decide_eq_false q1, decide_eq_false q2, decide_eq_true q3⟩))
          · exact .inr (.inr (.inr ⟨decide_eq_false q1, decide_eq_false q2, decide_eq_false q3, decide_eq_true (by omega)⟩))
    clear hr HBAD HRNG HGOOD
    rcases hcs with h1 | ⟨h1, h2⟩ | ⟨h1, h2, h3⟩ | ⟨h1, h2, h3, h4⟩
    all_goals
      go_enter Tryz.func4, Tryz.ntmps4
      go_upto_region 1 with (fail)
      rw [← HW0.out]
      go_wp2_with fail
      refine HCK.out.mono ?_
      rintro e w2 ⟨rfl, hb2⟩
      have HB2 : Hid (Below w.heap.size w w2) := HB0.out.trans hb2
      obtain ⟨d0, d1, d2⟩ := HCE.out w2 hb2
      clear hb2 c0 c1 c2
      go_wp2_with fail
      go_ret2
      exact heaR_none HR.out HB2.out
  have HR := Lib.hid (HGOOD.out rfl hr)
  have h1 : decide (tr < 0) = false := decide_eq_false (by omega)
  have h2 : decide (tk ≤ tr) = false := decide_eq_false (by omega)
  have h3 : decide (at_ < 0) = false := decide_eq_false (by omega)
  have h4 : decide (100000 ≤ at_) = false := decide_eq_false (by omega)
  have hp1 : 0 ≤ at_ ∧ at_ < 100000 := by omega
  have HRT := Lib.hid (ediF_ok HFE.out)
  have hxl : xs.length ≤ 300 := by have := HRT.out.l; rw [HEX.out.1] at this; simpa using this
  have HMS : Hid (∀ c ∈ E.x.cs, c.m.size ≤ 9223372036854775807) := fun c hc => by
    rw [HEX.out.1] at hc
    obtain ⟨x, hx, rfl⟩ := List.mem_map.1 hc
    exact ((HOK.out w0 (Gq.refl _)).co x (by rw [HEX.out.2.2.2]; exact hx)).m
  obtain ⟨L, hL⟩ : ∃ L : Nat → Gs, L = fun i => hrdL tr at_ ((xs.map CliM.x).take i) := ⟨_, rfl⟩
  have HL0 : Hid (L 0 = [] ∧ L xs.length = hrdL tr at_ (xs.map CliM.x)) := by
    rw [hL]
    refine ⟨rfl, ?_⟩
    show hrdL tr at_ ((xs.map CliM.x).take xs.length) = _
    rw [List.take_of_length_le (by simp)]
  have HLN : Hid (∀ i (hi : i < xs.length), L (i + 1) = hrdS tr at_ (L i) xs[i].x) := fun i hi => by
    rw [hL]
    have := hrdL_next tr at_ (xs.map CliM.x) i (by simpa using hi)
    simpa using this
  have HLS : Hid (∀ i, SrtG (L i)) := fun i => by rw [hL]; exact hrdL_srt _ _ _
  have HLK : Hid (∀ i, ∀ x ∈ L i, GkOk x.1) := fun i => by
    rw [hL]; have := hrdL_ok HFE.out hp1 HMS.out (tr := tr) i; rw [HEX.out.1] at this; exact this
  have HLL : Hid (∀ i, LimG 90300 (L i)) := fun i => by
    rw [hL]; have := hrdL_lim' HFE.out hp1 (tr := tr) i; rw [HEX.out.1] at this; exact this
  have HHC : Hid (∀ i (hi : i < xs.length), onC tr at_ xs[i].x = true → HrdC tr at_ xs[i].x) := fun i hi ho => by
    refine hrdC_of HFE.out hp1 ?_ ho
    rw [HEX.out.1]; exact List.mem_map.2 ⟨_, List.getElem_mem hi, rfl⟩
  have HCR : Hid (∀ i (hi : i < xs.length), (0 ≤ xs[i].at_ ∧ xs[i].at_ < 100000) ∧ 1 ≤ xs[i].ln ∧ xs[i].ln ≤ 100000) := fun i hi => by
    have hm : xs[i].x ∈ E.x.cs := by rw [HEX.out.1]; exact List.mem_map.2 ⟨_, List.getElem_mem hi, rfl⟩
    have := (HRT.out.c _ hm).r
    obtain ⟨_, _, _, r4, r5, _⟩ := this
    simp only [CliM.x] at r4 r5
    exact ⟨r4, by omega, by omega⟩
  clear hr HBAD HRNG HGOOD hL
  have hmm := @run_makeMap Tryz.prog
  obtain ⟨ii, hii, hzi0, hzi1, hzi2⟩ := info_parts infoGr
  have HII := Lib.hid (And.intro hii (And.intro hzi0 (And.intro hzi1 hzi2)))
  clear hii hzi0 hzi1 hzi2
  go_enter Tryz.func4, Tryz.ntmps4
  go_upto_region 1 with (fail)
  rw [← HW0.out]
  go_wp2_with fail
  refine HCK.out.mono ?_
  rintro e w2 ⟨rfl, hb2⟩
  have HG2 : Hid (Gq w0 w2) := hb2
  obtain ⟨d0, d1, d2⟩ := HCE.out w2 HG2.out
  have HB2 : Hid (Below w.heap.size w w2) := HB0.out.trans hb2
  clear hb2 c0 c1 c2
  obtain ⟨w3, hw3⟩ : ∃ w3, w3 = w2.alloc (.map #[] 0) := ⟨_, rfl⟩
  have HM3 : Hid (MapG w3 w2.heap.size 0 []) := by rw [hw3]; exact MapG.made w2
  have HG3 : Hid (Gq w2 w3) := by rw [hw3]; exact (Gq.refl _).alloc _
  have HW3 := Lib.hid hw3
  obtain ⟨e0, e1, e2⟩ := HCE.out w3 (HG2.out.trans HG3.out)
  clear hw3
  go_upto_region 7 with (fail)
  rw [← HW3.out]
  clear d0 d1 d2
  go_wp2_with fail
  go_loopw [43] (fun iv wr => ∃ (i n : Nat), i ≤ xs.length ∧ iv = .int .i64 (i : Int) ∧ n ≤ i ∧ Hid (MapG wr w2.heap.size n (L i)) ∧ Hid (Gq w2 wr)) (fun iv _ => xs.length - (intOf iv).toNat)
  case atStart => exact ⟨0, 0, Nat.zero_le _, rfl, Nat.le_refl _, by rw [HL0.out.1]; exact HM3.out, HG3.out⟩
  case round =>
    clear HM3 e0 e1 e2
    obtain ⟨i, n, hi, rfl, hn, HM, HG⟩ := hrel
    by_cases hlt : i < xs.length
    case neg =>
      have hd0 : decide (i < xs.length) = false := by simpa using hlt
      have hie : i = xs.length := by omega
      have HLE : Hid (L i = hrdL tr at_ (xs.map CliM.x)) := by show _ = _; rw [hie, HL0.out.2]
      have hn3 : n ≤ 300 := by omega
      obtain ⟨l, hl⟩ : ∃ l, L i = l := ⟨_, rfl⟩
      have HSL : Hid (SrtG l) := by rw [← hl]; exact HLS.out i
      have HKL : Hid (∀ x ∈ l, GkOk x.1) := by rw [← hl]; exact HLK.out i
      have HQL : Hid (LimG 90300 l) := by rw [← hl]; exact HLL.out i
      rw [hl] at HM HLE
      clear hie hl HLN HLS HLK HLL HHC HCR
      obtain ⟨wo, hwo⟩ : ∃ wo, wo = wr := ⟨_, rfl⟩
      subst hwo
      go_wp2_with (first | (at_range; refine wpList_rangeG _ rfl _ rfl _ _ _ rfl HM.out ?_; intro w0' f left0 cnt0 hsf hit0 hvi0 hcn0 hg0 hs0))
      go_frame
      have HSF := Lib.hid hsf
      have HIT0 := Lib.hid hit0
      have HVI0 := Lib.hid hvi0
      have HGX : Hid (Gq wo w0') := ⟨hg0.os, hg0.tape, hg0.output, hg0.size, fun j hj => hg0.block j hj (by simp)⟩
      have HML : Hid (w2.heap.size < wo.heap.size) := HM.out.lt
      have HS0 := Lib.hid hs0
      clear hsf hit0 hvi0 hg0 hs0 HM
      go_loopw [15] (fun ov wq => ∃ (left : Lit → Bool) (cnt : Nat) (V : Gs), Hid (IterF wq w2.heap.size wo.heap.size n f left cnt) ∧ V.length + cnt ≤ 300 ∧ Hid (VisG l left V) ∧ Hid (wq.ownsRow w0'.heap.size 33 5 ov (nzL V).length ((nzL V).flatMap Grn.cs)) ∧ Hid (Gq wo wq) ∧ w0'.heap.size ≤ wq.heap.size ∧ (nzL V).length ≤ V.length) (fun _ wq => wq.rangeLeft w2.heap.size wo.heap.size)
      case atStart => exact ⟨left0, cnt0, [], HIT0, by simp; omega, HVI0, World.ownsRow_nil _ _ _ _, HGX, Nat.le_refl _, Nat.le_refl _⟩
      case round =>
        clear HIT0 HVI0 hcn0
        obtain ⟨left, cnt, V, HIT, hvl, HVI, HOW, HGQ, hsq, hnl⟩ := hrel
        go_wp2_with (first | (at_next; refine wpList_nextG _ rfl _ rfl w2.heap.size wo.heap.size n l f left cnt V wo HSF.out rfl HIT.out HVI.out ?_ ?_))
        · intro hc0 hl0
          obtain ⟨A2, c2, rfl⟩ := slice_of_own HOW.out
          have HB4 : Hid (Gq w wr) := Below.trans HB2.out (Below.mono (HG.out.trans HGQ.out) (Below.size HB2.out))
          have HSO := Lib.hid (sortG_any w.heap.size w0'.heap.size A2 (nzL V).length c2 (nzL V) wr (by have := Below.size HB2.out; have := Below.size HG.out; have := Below.size HGX.out; omega) HOW.out rfl (by omega))
          have HEN : Hid (∀ l' : List Grn, l'.Perm (nzL V) → l'.Pairwise (fun x y => ltOf cfG y x = false) → l' = (heaL tr at_ (xs.map CliM.x)).map grnOf) := fun l' p hw => by
            have := nzL_sorted HSL.out (HVI.out.done hl0 HSL.out HKL.out) HVI.out.1 p (hw.imp fun {x y} hh => (ltOf_cfG' y x).1 hh)
            rw [this, HLE.out]; rfl
          clear hl0 hc0 HVI HIT
          generalize hNV : (nzL V).length = nv at *
          have HNV := Lib.hid hNV
          clear hNV
          go_wp2_with fail
          refine HSO.out.mono ?_
          rintro e w5 ⟨rfl, l', hp, hpw, hrd, hbl⟩
          have HE : Hid (l' = (heaL tr at_ (xs.map CliM.x)).map grnOf) := HEN.out l' hp hpw
          have HPL : Hid (l'.length = nv) := by show _ = _; rw [hp.length_eq]; exact HNV.out
          have HRD5 := Lib.hid hrd
          have HB5 : Hid (Below w.heap.size w w5) := Below.trans HB4.out hbl
          clear hp hpw hrd hbl
          go_wp2_with fail
          go_ret2
          refine ⟨A2, c2, ?_, ?_, HB5.out⟩
          · rw [HR.out, ← HPL.out, HE.out, List.length_map]; rfl
          · rw [HR.out]; rw [← HE.out]; exact HRD5.out
        · intro g q vv w4 left' cnt' hrv hnv hlk hit' hvi' hlt' hgr hsz hen
          obtain ⟨s, A', L', c', B', M', d', rfl⟩ := rat_agg hrv
          obtain ⟨gm, gc, gs⟩ := g
          unfold gv at hen ⊢
          have hz1 := HS0.out
          have HGQ4 : Hid (Gq wo w4) := Below.grown HGQ.out hgr (Below.size HGQ.out) (fun j hj => by cases hj; exact Nat.le_refl _)
          have HOW4 : Hid (w4.ownsRow w0'.heap.size 33 5 u15 (nzL V).length ((nzL V).flatMap Grn.cs)) := HOW.out.kept hgr (.inr (fun e => by have := (HOW.out.lt _ e).1; omega))
          have HQ : Hid (∀ W, Gq wo W → RatV W (.agg #[.bool s, .slice A' L' c', .slice B' M' d']) q) := fun W hW => hrv.below hW
          have HLQ : Hid (RLim 90300 q) := HQL.out (⟨gm, gc, gs⟩, q) ((look_mem HSL.out).1 hlk)
          have HIT4 := Lib.hid hit'
          have HVI4 := Lib.hid hvi'
          have hs4 : w0'.heap.size ≤ w4.heap.size := by omega
          have HSZ := Lib.hid hsz
          clear hsz
          have HLT := Lib.hid hlt'
          have HTL := Lib.hid HIT.out.left_eq
          clear hrv hnv hlk hit' hvi' hgr hlt' HIT HVI HOW HGQ
          go_upto_region 21 with (fail)
          obtain ⟨wg, hwg⟩ : ∃ wg, wg = w4.alloc (.cells #[.string gm, .int .i64 gc, .int .i64 gs, .string ⟨#[]⟩, .string ⟨#[]⟩] 33) := ⟨_, rfl⟩
          obtain ⟨w5, hw5⟩ : ∃ w5, w5 = wg.alloc (.cells #[.bool s, .slice A' L' c', .slice B' M' d'] 47) := ⟨_, rfl⟩
          have HGg : Hid (Gq w4 wg) := by rw [hwg]; exact (Gq.refl _).alloc _
          have HGh : Hid (Gq wg w5) := by rw [hw5]; exact (Gq.refl _).alloc _
          have hzg : wg.heap.size = w4.heap.size + 1 := by rw [hwg]; simp
          have HKG : Hid (Blk w5 w4.heap.size 33 [.string gm, .int .i64 gc, .int .i64 gs, .string ⟨#[]⟩, .string ⟨#[]⟩]) := by
            refine blk_gq (?_ : Blk wg w4.heap.size _ _) HGh.out; rw [hwg]; exact Blk.new w4 _ _
          have HKR : Hid (Blk w5 (w4.heap.size + 1) 47 [.bool s, .slice A' L' c', .slice B' M' d']) := by rw [hw5, ← hzg]; exact Blk.new wg _ _
          have HG45 : Hid (Gq w4 w5) := HGg.out.trans HGh.out
          have HGo5 : Hid (Gq wo w5) := HGQ4.out.trans HG45.out
          have HSG := Lib.hid (signQ_any _ q w5 (HQ.out w5 HGo5.out))
          have HCR5 : Hid (∀ W, Gq w5 W → W.cell? ⟨w4.heap.size + 1, 0, none⟩ = some (.bool s) ∧ W.cell? ⟨w4.heap.size + 1, 1, none⟩ = some (.slice A' L' c') ∧ W.cell? ⟨w4.heap.size + 1, 2, none⟩ = some (.slice B' M' d')) := fun W hW => by
            have k1 := blk_gq HKR.out hW
            exact ⟨k1.cell 0, k1.cell 1, k1.cell 2⟩
          obtain ⟨j0, j1, j2⟩ := HCR5.out w5 (Gq.refl _)
          rw [hwg] at hw5
          have HW5 := Lib.hid hw5
          clear hwg hw5
          rw [← HW5.out]
          have HVL : Hid ((V ++ [((⟨gm, gc, gs⟩ : Gk), q)]).length + cnt' ≤ 300) := by have := HLT.out; show _ ≤ _; rw [List.length_append, List.length_singleton]; omega
          by_cases hq0 : q = 0
          · have hsg : sgnZ q.num = 0 := (sgnZ_zero q).1 hq0
            rw [hsg] at HSG
            have HNZ : Hid (nzL (V ++ [((⟨gm, gc, gs⟩ : Gk), q)]) = nzL V) := nzL_no hq0
            clear hq0 hsg
            go_wp2_with fail
            refine HSG.out.mono ?_
            rintro e w6 ⟨rfl, hb6⟩
            have HG56 : Hid (Gq w5 w6) := hb6
            have HG46 : Hid (Gq w4 w6) := HG45.out.trans HG56.out
            have HIT6 := Lib.hid (HIT4.out.below HG46.out)
            have HOW6 : Hid (w6.ownsRow w0'.heap.size 33 5 u15 (nzL (V ++ [((⟨gm, gc, gs⟩ : Gk), q)])).length ((nzL (V ++ [((⟨gm, gc, gs⟩ : Gk), q)])).flatMap Grn.cs)) := by
              rw [HNZ.out]; exact own_belowL HOW4.out HG46.out
            have HGo6 : Hid (Gq wo w6) := HGo5.out.trans HG56.out
            have hs6 : w0'.heap.size ≤ w6.heap.size := by have := Below.size HG46.out; omega
            have HNL : Hid ((nzL (V ++ [((⟨gm, gc, gs⟩ : Gk), q)])).length ≤ (V ++ [((⟨gm, gc, gs⟩ : Gk), q)]).length) := by rw [HNZ.out, List.length_append]; show _ ≤ _; omega
            have HME : Hid (w6.rangeLeft w2.heap.size wo.heap.size < wr.rangeLeft w2.heap.size wo.heap.size) := by
              show _ < _
              rw [HIT6.out.left_eq, HTL.out]; exact HLT.out
            clear hb6
            go_wp2_with fail
            go_roundw
            case rel => exact ⟨_, cnt', _, HIT6, HVL.out, HVI4, HOW6, HGo6, hs6, HNL.out⟩
            case measure => exact HME.out
          · have hsg : (sgnZ q.num != 0) = true := (sgnZ_zero q).2 hq0
            have HNZ : Hid (nzL (V ++ [((⟨gm, gc, gs⟩ : Gk), q)]) = nzL V ++ [grnOf (⟨gm, gc, gs⟩, q)]) := nzL_yes hq0
            have HWR : Hid (∀ W, Gq wo W → Calls Tryz.prog 13 #[.agg #[.bool s, .slice A' L' c', .slice B' M' d']] W fun e w' => e = .returned (.agg #[.string ⟨(topT q).toArray⟩, .string ⟨(botT q).toArray⟩]) ∧ Gq W w') := fun W hW => written_any _ q W (HQ.out W hW) 90300 HLQ.out (by omega)
            obtain ⟨tt, htt⟩ : ∃ tt : ByteArray, (⟨(topT q).toArray⟩ : ByteArray) = tt := ⟨_, rfl⟩
            obtain ⟨tb, htb⟩ : ∃ tb : ByteArray, (⟨(botT q).toArray⟩ : ByteArray) = tb := ⟨_, rfl⟩
            rw [htt, htb] at HWR
            have HNZ2 : Hid (nzL (V ++ [((⟨gm, gc, gs⟩ : Gk), q)]) = nzL V ++ [(⟨gm, gc, gs, tt, tb⟩ : Grn)]) := by show _ = _; rw [HNZ.out]; unfold grnOf; rw [← htt, ← htb]
            generalize sgnZ q.num = sg at *
            clear hq0 htt htb HNZ
            go_wp2_with fail
            refine HSG.out.mono ?_
            rintro e w6 ⟨rfl, hb6⟩
            have HG56 : Hid (Gq w5 w6) := hb6
            obtain ⟨m0, m1, m2⟩ := HCR5.out w6 HG56.out
            clear hb6 j0 j1 j2
            go_wp2_with fail
            refine (HWR.out w6 (HGo5.out.trans HG56.out)).mono ?_
            rintro e w7 ⟨rfl, hb7⟩
            have HG67 : Hid (Gq w6 w7) := hb7
            have HG57 : Hid (Gq w5 w7) := HG56.out.trans HG67.out
            have HK7 := Lib.hid (blk_gq HKG.out HG57.out)
            clear hb7 m0 m1 m2
            obtain ⟨w8, hw8⟩ : ∃ w8, w8 = (w7.setCell ⟨w4.heap.size, 3, none⟩ (.string tt)).setCell ⟨w4.heap.size, 4, none⟩ (.string tb) := ⟨_, rfl⟩
            have k3 : w7.cell? ⟨w4.heap.size, 3, none⟩ = _ := HK7.out.cell 3
            have k4 : w7.cell? ⟨w4.heap.size, 4, none⟩ = _ := HK7.out.cell 4
            have f3 := HK7.out.frozen 3
            have f4 := HK7.out.frozen 4
            simp only [List.getElem?_cons_zero, List.getElem?_cons_succ] at k3 k4
            have HK8 : Hid (Blk w8 w4.heap.size 33 [.string gm, .int .i64 gc, .int .i64 gs, .string tt, .string tb]) := by rw [hw8]; exact (HK7.out.set_ 3 _).set_ 4 _
            have HG78 : Hid (w7.grownBy w8 (some w4.heap.size)) := by
              rw [hw8]
              have g1 := grown_setC w7 w4.heap.size 3 (.string tt)
              have g2 := grown_setC (w7.setCell ⟨w4.heap.size, 3, none⟩ (.string tt)) w4.heap.size 4 (.string tb)
              exact ⟨g2.os.trans g1.os, g2.tape.trans g1.tape, g2.output.trans g1.output, Nat.le_trans g1.size g2.size, fun j hj hne => (g2.block j (Nat.lt_of_lt_of_le hj g1.size) hne).trans (g1.block j hj hne)⟩
            have HW8 := Lib.hid hw8
            clear hw8
            go_upto_region 23 with (fail)
            rw [← HW8.out]
            have HG47 : Hid (Gq w4 w7) := HG45.out.trans HG57.out
            have HIT8 : Hid (IterF w8 w2.heap.size wo.heap.size n f left' cnt') := (HIT4.out.below HG47.out).kept HG78.out (by have := HML.out; intro e; injection e with e; omega) (by intro e; injection e with e; omega)
            have HOW8 : Hid (w8.ownsRow w0'.heap.size 33 5 u15 (nzL V).length ((nzL V).flatMap Grn.cs)) := (own_belowL HOW4.out HG47.out).kept HG78.out (.inr (fun e => by have := (HOW4.out.lt _ e).2; omega))
            have HGo8 : Hid (Gq wo w8) := by
              have h1 : Below wo.heap.size wo w7 := HGQ4.out.trans HG47.out
              exact Below.grown h1 HG78.out (Below.size h1) (fun j hj => by cases hj; have := Below.size HGQ4.out; omega)
            have hs8 : w0'.heap.size ≤ w8.heap.size := by have := Below.size HG47.out; have := HG78.out.size; omega
            have n0 : w8.cell? ⟨w4.heap.size, 0, none⟩ = _ := HK8.out.cell 0
            have n1 : w8.cell? ⟨w4.heap.size, 1, none⟩ = _ := HK8.out.cell 1
            have n2 : w8.cell? ⟨w4.heap.size, 2, none⟩ = _ := HK8.out.cell 2
            have n3 : w8.cell? ⟨w4.heap.size, 3, none⟩ = _ := HK8.out.cell 3
            have n4 : w8.cell? ⟨w4.heap.size, 4, none⟩ = _ := HK8.out.cell 4
            simp only [List.getElem?_cons_zero, List.getElem?_cons_succ] at n0 n1 n2 n3 n4
            have hno := HVL.out
            rw [List.length_append, List.length_singleton] at hno
            clear k3 k4 f3 f4 HG67 HG56 HSG HWR HCR5 HKG HKR HK7 HW8 HW5
            go_wp2_with (at_builtin; (refine wpList_append_own _ rfl _ _ 25 rfl w0'.heap.size 33 ii _ 5 64 Tryz.underlying25 HII.out.1 HII.out.2.1 HII.out.2.2.1 HII.out.2.2.2 rfl (by decide) _ _ _ rfl (HOW8.out.alloc _) ⟨w8.heap.size, 0, none⟩ 1 1 [.string gm, .int .i64 gc, .int .i64 gs, .string tt, .string tb] (by rfl) (by rfl) (World.news_of_block (cs := #[.string gm, .int .i64 gc, .int .i64 gs, .string tt, .string tb]) (t := 33) (fr := (0, 0)) (by exact heap_alloc_new w8 _)) (by simp [Value.oneCell']) (by unfold maxLen; omega) (by omega) (by simp; omega) ?_); intro v1 w9 hown9 hgrow9 _)
            have HB9 : Hid (Gq wo w9) := below_app' HGo8.out (Below.size HGo8.out) (e := 33) (size := 5) (own_lower HOW8.out (by have := HS0.out; omega)) hgrow9
            have HO9 : Hid (w9.ownsRow w0'.heap.size 33 5 v1 (nzL (V ++ [((⟨gm, gc, gs⟩ : Gk), q)])).length ((nzL (V ++ [((⟨gm, gc, gs⟩ : Gk), q)])).flatMap Grn.cs)) := by
              show World.ownsRow _ _ _ _ _ _ _
              rw [HNZ2.out, flat_snoc, List.length_append, List.length_singleton]
              exact hown9
            have HGQQ : Hid (∀ j, u15.ownBlock = some j → w0'.heap.size ≤ j) := fun j hj => (HOW8.out.lt _ hj).1
            have HIT9 : Hid (IterF w9 w2.heap.size wo.heap.size n f left' cnt') := by
              have h1 : IterF (w8.alloc (.cells #[.string gm, .int .i64 gc, .int .i64 gs, .string tt, .string tb] 33)) w2.heap.size wo.heap.size n f left' cnt' := HIT8.out.below ((Gq.refl _).alloc _)
              exact h1.kept hgrow9 (fun e => by have := HGQQ.out _ e.symm; have := HS0.out; have := HML.out; omega) (fun e => by have := HGQQ.out _ e.symm; have := HS0.out; omega)
            have hs9 : w0'.heap.size ≤ w9.heap.size := by have := hgrow9.size; simp at this; omega
            have HNL : Hid ((nzL (V ++ [((⟨gm, gc, gs⟩ : Gk), q)])).length ≤ (V ++ [((⟨gm, gc, gs⟩ : Gk), q)]).length) := by rw [HNZ2.out, List.length_append, List.length_append, List.length_singleton, List.length_singleton]; show _ ≤ _; omega
            have HME : Hid (w9.rangeLeft w2.heap.size wo.heap.size < wr.rangeLeft w2.heap.size wo.heap.size) := by
              show _ < _
              rw [HIT9.out.left_eq, HTL.out]; exact HLT.out
            clear hown9 hgrow9 n0 n1 n2 n3 n4
            go_wp2_with fail
            go_roundw
            case rel => exact ⟨_, cnt', _, HIT9, HVL.out, HVI4, HO9, HB9, hs9, HNL.out⟩
            case measure => exact HME.out
    have hd1 : decide (i < xs.length) = true := by simpa using hlt
    have HEO : Hid (EdtOk wr E) := HOK.out wr (HG2.out.trans HG.out)
    obtain ⟨b, off, hA, hb, hcs⟩ := cli_at (HEO.out.cr) (by rw [HEX.out.2.2.2]; omega)
    rw [HEX.out.2.2.1] at hA
    subst hA
    obtain ⟨p0, p1, p2, p3, p4, p5, p6⟩ := hcs i (by rw [HEX.out.2.2.2]; exact hlt)
    simp only [HEX.out.2.2.2] at p0 p1 p2 p3 p4 p5 p6
    have HCO : Hid (CliOk wr xs[i]) := HEO.out.co _ (by rw [HEX.out.2.2.2]; exact List.getElem_mem hlt)
    have HNX := Lib.hid (HLN.out i hlt)
    have HHR := Lib.hid (HHC.out i hlt)
    obtain ⟨hxa, hxl1, hxl2⟩ := HCR.out i hlt
    clear hcs HEO
    obtain ⟨X, hX⟩ : ∃ X, xs[i] = X := ⟨_, rfl⟩
    rw [hX] at p0 p1 p2 p3 p4 p5 p6 HCO HNX HHR hxa hxl1 hxl2
    clear hX
    obtain ⟨xm, xc, xf, xt, xa, xl, ⟨EA, ed, es⟩⟩ := X
    simp only at p0 p1 p2 p3 p4 p5 p6 hxa hxl1 hxl2
    obtain ⟨en, hen⟩ : ∃ en, es.length = en := ⟨_, rfl⟩
    rw [hen] at p6
    have HXV : Hid (CliM.v ⟨xm, xc, xf, xt, xa, xl, ⟨EA, ed, es⟩⟩ = .agg #[.string xm, .int .i64 xc, .int .i64 xf, .int .i64 xt, .int .i64 xa, .int .i64 xl, .slice EA en ed]) := by show _ = _; rw [← hen]; rfl
    have HEL : Hid ((⟨xm, xc, xf, xt, xa, xl, ⟨EA, ed, es⟩⟩ : CliM).e.xs = es ∧ (⟨xm, xc, xf, xt, xa, xl, ⟨EA, ed, es⟩⟩ : CliM).x.e = es) := ⟨rfl, rfl⟩
    clear hen
    obtain ⟨wa, hwa⟩ : ∃ wa, wa = wr.alloc (.cells #[.string xm, .int .i64 xc, .int .i64 xf, .int .i64 xt, .int .i64 xa, .int .i64 xl, .slice EA en ed] 40) := ⟨_, rfl⟩
    have HGA : Hid (Gq wr wa) := by rw [hwa]; exact (Gq.refl _).alloc _
    have HKC : Hid (Blk wa wr.heap.size 40 [.string xm, .int .i64 xc, .int .i64 xf, .int .i64 xt, .int .i64 xa, .int .i64 xl, .slice EA en ed]) := by rw [hwa]; exact Blk.new wr _ _
    have HCC : Hid (∀ W, Gq wa W → W.cell? ⟨wr.heap.size, 0, none⟩ = some (.string xm) ∧ W.cell? ⟨wr.heap.size, 1, none⟩ = some (.int .i64 xc) ∧ W.cell? ⟨wr.heap.size, 2, none⟩ = some (.int .i64 xf) ∧ W.cell? ⟨wr.heap.size, 3, none⟩ = some (.int .i64 xt) ∧ W.cell? ⟨wr.heap.size, 4, none⟩ = some (.int .i64 xa) ∧ W.cell? ⟨wr.heap.size, 5, none⟩ = some (.int .i64 xl) ∧ W.cell? ⟨wr.heap.size, 6, none⟩ = some (.slice EA en ed)) := fun W hW => by
      have k1 := blk_gq HKC.out hW
      exact ⟨k1.cell 0, k1.cell 1, k1.cell 2, k1.cell 3, k1.cell 4, k1.cell 5, k1.cell 6⟩
    obtain ⟨a0, a1, a2, a3, a4, a5, a6⟩ := HCC.out wa (Gq.refl _)
    have HWA := Lib.hid hwa
    clear hwa
    by_cases ho : xt = tr ∧ xa ≤ at_ ∧ at_ < xa + xl
    case neg =>
      have HN2 : Hid (L (i + 1) = L i) := by
        show _ = _
        rw [HNX.out]; unfold hrdS
        rw [if_neg (show ¬ onC tr at_ (CliM.x ⟨xm, xc, xf, xt, xa, xl, ⟨EA, ed, es⟩⟩) = true from fun hh => ho (of_decide_eq_true hh))]
      have HMA : Hid (MapG wa w2.heap.size n (L (i + 1))) := by rw [HN2.out]; exact HM.out.below HGA.out
      have HGR : Hid (Gq w2 wa) := HG.out.trans HGA.out
      have hcs : (xt != tr) = true ∨ ((xt != tr) = false ∧ decide (at_ < xa) = true) ∨ ((xt != tr) = false ∧ decide (at_ < xa) = false ∧ decide (xa + xl ≤ at_) = true) := by
        by_cases q1 : xt = tr
        · have e1 : (xt != tr) = false := by simpa using q1
          by_cases q2 : at_ < xa
          · exact .inr (.inl ⟨e1, decide_eq_true q2⟩)
          · exact .inr (.inr ⟨e1, decide_eq_false q2, decide_eq_true (by omega)⟩)
        · exact .inl (by simpa using q1)
      clear ho HM HHR HCO HNX HN2
      go_upto_region 10 with (fail)
      rw [← HWA.out]
      rcases hcs with q1 | ⟨q1, q2⟩ | ⟨q1, q2, q3⟩
      all_goals
        go_wp2_with fail
        go_roundw
        case rel => exact ⟨i + 1, n, by omega, by go_num, by omega, HMA, HGR⟩
        case measure => simp [intOf]; omega
    obtain ⟨ho1, ho2, ho3⟩ := ho
    have HH : Hid (HrdC tr at_ (CliM.x ⟨xm, xc, xf, xt, xa, xl, ⟨EA, ed, es⟩⟩)) := HHR.out (decide_eq_true ⟨ho1, ho2, ho3⟩)
    have HN2 : Hid (L (i + 1) = insG (L i) ⟨xm, xc, at_ - xa + xf⟩ (valQ es (at_ - xa))) := by
      show _ = _
      rw [HNX.out]; unfold hrdS
      rw [if_pos (show onC tr at_ (CliM.x ⟨xm, xc, xf, xt, xa, xl, ⟨EA, ed, es⟩⟩) = true from decide_eq_true ⟨ho1, ho2, ho3⟩)]; rfl
    have q1 : (xt != tr) = false := by simpa using ho1
    have q2 : decide (at_ < xa) = false := decide_eq_false (by omega)
    have q3 : decide (xa + xl ≤ at_) = false := decide_eq_false (by omega)
    obtain ⟨hi1, hi2⟩ := HH.out.i
    obtain ⟨hs1, hs2⟩ := HH.out.s
    obtain ⟨hch1, hch2⟩ := HH.out.ch
    simp only [CliM.x] at hi1 hi2 hs1 hs2 hch1 hch2
    have HGK : Hid (GkOk ⟨xm, xc, at_ - xa + xf⟩) := ⟨HCO.out.m, ⟨by show _ ≤ xc; omega, by show xc ≤ _; omega⟩, ⟨by show _ ≤ at_ - xa + xf; omega, by show at_ - xa + xf ≤ _; omega⟩⟩
    have HGO := Lib.hid (grainOf_any xm xc xf xt xa xl EA en ed at_ wa ⟨by omega, by omega⟩ ⟨by omega, by omega⟩)
    have HVE : Hid (∀ W, Gq wr W → Calls Tryz.prog 11 #[.agg #[.string xm, .int .i64 xc, .int .i64 xf, .int .i64 xt, .int .i64 xa, .int .i64 xl, .slice EA en ed], .int .i64 (at_ - xa)] W fun e w' => ∃ v, e = .returned v ∧ RatV w' v (valQ es (at_ - xa)) ∧ Gq W w') := fun W hW => by
      rw [← HXV.out]
      have := valueE_any ⟨xm, xc, xf, xt, xa, xl, ⟨EA, ed, es⟩⟩ (at_ - xa) W (HCO.out.below hW) HH.out.e HH.out.l HH.out.i
      exact this
    have HLQ : Hid (RLim 300 (valQ es (at_ - xa))) := HH.out.q
    clear ho1 ho2 ho3 HHR HNX HCO HXV HEL HH
    obtain ⟨V, hV⟩ : ∃ V, valQ es (at_ - xa) = V := ⟨_, rfl⟩
    rw [hV] at HN2 HVE HLQ
    clear hV
    go_upto_region 10 with (fail)
    rw [← HWA.out]
    go_wp2_with fail
    refine HGO.out.mono ?_
    rintro e w4 ⟨rfl, hb4⟩
    have HG4 : Hid (Gq wa w4) := hb4
    obtain ⟨b0, b1, b2, b3, b4, b5, b6⟩ := HCC.out w4 HG4.out
    clear hb4 a0 a1 a2 a3 a4 a5 a6 p0 p1 p2 p3 p4 p5 p6 HGO
    obtain ⟨w5, hw5⟩ : ∃ w5, w5 = w4.alloc (.cells #[.string xm, .int .i64 xc, .int .i64 (at_ - xa + xf), .string ⟨#[]⟩, .string ⟨#[]⟩] 33) := ⟨_, rfl⟩
    have HG5 : Hid (Gq w4 w5) := by rw [hw5]; exact (Gq.refl _).alloc _
    have HK5 : Hid (Blk w5 w4.heap.size 33 [.string xm, .int .i64 xc, .int .i64 (at_ - xa + xf), .string ⟨#[]⟩, .string ⟨#[]⟩]) := by rw [hw5]; exact Blk.new w4 _ _
    have HM5 : Hid (MapG w5 w2.heap.size n (L i)) := ((HM.out.below HGA.out).below HG4.out).below HG5.out
    obtain ⟨lv, ok, hrun, ⟨vs, vA, vL, vc, vB, vM, vd, rfl⟩, hlk⟩ := HM5.out.look ⟨xm, xc, at_ - xa + xf⟩ HGK.out
    have hrun : Sem.run Tryz.prog (Instr.lookup 37 (.map (some w2.heap.size)) (.agg #[.string xm, .int .i64 xc, .int .i64 (at_ - xa + xf), .string ⟨#[]⟩, .string ⟨#[]⟩]) true) w5 = .ok (.tuple #[.agg #[.bool vs, .slice vA vL vc, .slice vB vM vd], .bool ok]) w5 := hrun
    have HLK2 := Lib.hid hlk
    have r0 : w5.cell? ⟨w4.heap.size, 0, none⟩ = _ := HK5.out.cell 0
    have r1 : w5.cell? ⟨w4.heap.size, 1, none⟩ = _ := HK5.out.cell 1
    have r2 : w5.cell? ⟨w4.heap.size, 2, none⟩ = _ := HK5.out.cell 2
    have r3 : w5.cell? ⟨w4.heap.size, 3, none⟩ = _ := HK5.out.cell 3
    have r4 : w5.cell? ⟨w4.heap.size, 4, none⟩ = _ := HK5.out.cell 4
    simp only [List.getElem?_cons_zero, List.getElem?_cons_succ] at r0 r1 r2 r3 r4
    have HW5 := Lib.hid hw5
    clear hw5 hlk
    go_upto_region 12 with (fail)
    rw [← HW5.out]
    obtain ⟨w6, hw6⟩ : ∃ w6, w6 = w5.alloc (.cells #[.bool vs, .slice vA vL vc, .slice vB vM vd] 47) := ⟨_, rfl⟩
    have HG6 : Hid (Gq w5 w6) := by rw [hw6]; exact (Gq.refl _).alloc _
    have HK6 : Hid (Blk w6 w5.heap.size 47 [.bool vs, .slice vA vL vc, .slice vB vM vd]) := by rw [hw6]; exact Blk.new w5 _ _
    have HW6 := Lib.hid hw6
    clear hw6
    go_upto_region 13 with (fail)
    rw [← HW6.out]
    have HG46 : Hid (Gq w4 w6) := HG5.out.trans HG6.out
    have HGA6 : Hid (Gq wa w6) := HG4.out.trans HG46.out
    have HGR6 : Hid (Gq wr w6) := HGA.out.trans HGA6.out
    have HM6 : Hid (MapG w6 w2.heap.size n (L i)) := HM5.out.below HG6.out
    have HZ : Hid (w2.heap.size < wr.heap.size ∧ wr.heap.size < wa.heap.size ∧ wa.heap.size ≤ w4.heap.size ∧ w4.heap.size < w5.heap.size) := ⟨HM.out.lt, by rw [HWA.out]; simp, Below.size HG4.out, by rw [HW5.out]; simp⟩
    have HCB : Hid (∀ W, Gq w6 W → W.cell? ⟨wr.heap.size, 0, none⟩ = some (.string xm) ∧ W.cell? ⟨wr.heap.size, 1, none⟩ = some (.int .i64 xc) ∧ W.cell? ⟨wr.heap.size, 2, none⟩ = some (.int .i64 xf) ∧ W.cell? ⟨wr.heap.size, 3, none⟩ = some (.int .i64 xt) ∧ W.cell? ⟨wr.heap.size, 4, none⟩ = some (.int .i64 xa) ∧ W.cell? ⟨wr.heap.size, 5, none⟩ = some (.int .i64 xl) ∧ W.cell? ⟨wr.heap.size, 6, none⟩ = some (.slice EA en ed) ∧ W.cell? ⟨w4.heap.size, 0, none⟩ = some (.string xm) ∧ W.cell? ⟨w4.heap.size, 1, none⟩ = some (.int .i64 xc) ∧ W.cell? ⟨w4.heap.size, 2, none⟩ = some (.int .i64 (at_ - xa + xf)) ∧ W.cell? ⟨w4.heap.size, 3, none⟩ = some (.string ⟨#[]⟩) ∧ W.cell? ⟨w4.heap.size, 4, none⟩ = some (.string ⟨#[]⟩) ∧ W.cell? ⟨w5.heap.size, 0, none⟩ = some (.bool vs) ∧ W.cell? ⟨w5.heap.size, 1, none⟩ = some (.slice vA vL vc) ∧ W.cell? ⟨w5.heap.size, 2, none⟩ = some (.slice vB vM vd)) := fun W hW => by
      have k1 := blk_gq HKC.out (HGA6.out.trans hW)
      have k2 := blk_gq HK5.out (HG6.out.trans hW)
      have k3 := blk_gq HK6.out hW
      exact ⟨k1.cell 0, k1.cell 1, k1.cell 2, k1.cell 3, k1.cell 4, k1.cell 5, k1.cell 6, k2.cell 0, k2.cell 1, k2.cell 2, k2.cell 3, k2.cell 4, k3.cell 0, k3.cell 1, k3.cell 2⟩
    have HCG : Hid (∀ W W', Gq w6 W → W.grownBy W' (some w2.heap.size) → W'.cell? ⟨wr.heap.size, 0, none⟩ = some (.string xm) ∧ W'.cell? ⟨wr.heap.size, 1, none⟩ = some (.int .i64 xc) ∧ W'.cell? ⟨wr.heap.size, 2, none⟩ = some (.int .i64 xf) ∧ W'.cell? ⟨wr.heap.size, 3, none⟩ = some (.int .i64 xt) ∧ W'.cell? ⟨wr.heap.size, 4, none⟩ = some (.int .i64 xa) ∧ W'.cell? ⟨wr.heap.size, 5, none⟩ = some (.int .i64 xl) ∧ W'.cell? ⟨wr.heap.size, 6, none⟩ = some (.slice EA en ed) ∧ W'.cell? ⟨w4.heap.size, 0, none⟩ = some (.string xm) ∧ W'.cell? ⟨w4.heap.size, 1, none⟩ = some (.int .i64 xc) ∧ W'.cell? ⟨w4.heap.size, 2, none⟩ = some (.int .i64 (at_ - xa + xf)) ∧ W'.cell? ⟨w4.heap.size, 3, none⟩ = some (.string ⟨#[]⟩) ∧ W'.cell? ⟨w4.heap.size, 4, none⟩ = some (.string ⟨#[]⟩) ∧ W'.cell? ⟨w5.heap.size, 0, none⟩ = some (.bool vs) ∧ W'.cell? ⟨w5.heap.size, 1, none⟩ = some (.slice vA vL vc) ∧ W'.cell? ⟨w5.heap.size, 2, none⟩ = some (.slice vB vM vd)) := fun W W' hW hg => by
      obtain ⟨z1, z2, z3, z4⟩ := HZ.out
      have k1 : Blk W' _ _ _ := (hg.block _ (blk_gq HKC.out (HGA6.out.trans hW)).lt (fun e => by injection e with e; omega)).trans (blk_gq HKC.out (HGA6.out.trans hW))
      have k2 : Blk W' _ _ _ := (hg.block _ (blk_gq HK5.out (HG6.out.trans hW)).lt (fun e => by injection e with e; omega)).trans (blk_gq HK5.out (HG6.out.trans hW))
      have k3 : Blk W' _ _ _ := (hg.block _ (blk_gq HK6.out hW).lt (fun e => by injection e with e; omega)).trans (blk_gq HK6.out hW)
      exact ⟨k1.cell 0, k1.cell 1, k1.cell 2, k1.cell 3, k1.cell 4, k1.cell 5, k1.cell 6, k2.cell 0, k2.cell 1, k2.cell 2, k2.cell 3, k2.cell 4, k3.cell 0, k3.cell 1, k3.cell 2⟩
    have HMU : Hid (∀ W v q, Gq w6 W → RatV W v q → ((lookG (L i) ⟨xm, xc, at_ - xa + xf⟩).getD 0 + V = q) → ∃ w', (Instr.mapUpdate 37 (.map (some w2.heap.size)) (.agg #[.string xm, .int .i64 xc, .int .i64 (at_ - xa + xf), .string ⟨#[]⟩, .string ⟨#[]⟩]) v).run Tryz.prog W = .ok () w' ∧ MapG w' w2.heap.size (n + 1) (L (i + 1)) ∧ W.grownBy w' (some w2.heap.size)) := fun W v q hW hv hq =>
      (HM6.out.below hW).update (by unfold maxLen; omega) ⟨xm, xc, at_ - xa + xf⟩ HGK.out v q hv (fun g' => by rw [HN2.out, look_ins (HLS.out i) g', hq])
    have HFIN : Hid (∀ W W', Gq w6 W → W.grownBy W' (some w2.heap.size) → Gq w2 W') := fun W W' hW hg => by
      have h1 : Below w2.heap.size w2 W := (HG.out.trans HGR6.out).trans hW
      exact Below.grown h1 hg (Below.size h1) (fun j hj => by cases hj; exact Nat.le_refl _)
    obtain ⟨f0, f1, f2, f3, f4, f5, f6, f7, f8, f9, f10, f11, f12, f13, f14⟩ := HCB.out w6 (Gq.refl _)
    have hBD : Gq w6 w6.drew := (Gq.refl _).drew
    clear b0 b1 b2 b3 b4 b5 b6 r0 r1 r2 r3 r4 hrun HM HM5 HK5 HK6 HKC HCC HG5 HG4
    have hlk := HLK2.out
    clear HLK2
    have hrw : IntKind.i64.wrap (at_ - xa) = at_ - xa := IntWalk.i64_in _ ⟨by omega, by omega⟩
    have HI1 : Hid (i + 1 ≤ xs.length ∧ n + 1 ≤ i + 1) := ⟨by omega, by omega⟩
    rcases hlk with ⟨rfl, hl0⟩ | ⟨rfl, q, hlq, hvq⟩
    · have HVA : Hid (∀ W, Gq w6 W → Calls Tryz.prog 11 #[.agg #[.string xm, .int .i64 xc, .int .i64 xf, .int .i64 xt, .int .i64 xa, .int .i64 xl, .slice EA en ed], .int .i64 (at_ - xa)] W fun e w' => ∃ s X N j Y O t, e = .returned (.agg #[.bool s, .slice X N j, .slice Y O t]) ∧ Gq w6 w' ∧ ∃ w'', (Instr.mapUpdate 37 (.map (some w2.heap.size)) (.agg #[.string xm, .int .i64 xc, .int .i64 (at_ - xa + xf), .string ⟨#[]⟩, .string ⟨#[]⟩]) (.agg #[.bool s, .slice X N j, .slice Y O t])).run Tryz.prog w' = .ok () w'' ∧ MapG w'' w2.heap.size (n + 1) (L (i + 1)) ∧ w'.grownBy w'' (some w2.heap.size)) := fun W hW => by
        refine (HVE.out W (HGR6.out.trans hW)).mono ?_
        rintro e w' ⟨v, rfl, hv, hg⟩
        obtain ⟨s, X, N, j, Y, O, t, rfl⟩ := rat_agg hv
        exact ⟨s, X, N, j, Y, O, t, rfl, hW.trans hg, HMU.out w' _ V (hW.trans hg) hv (by rw [hl0]; exact Rat.zero_add V)⟩
      have hl0 := Lib.hid hl0
      clear HMU HVE
      go_wp2_with fail
      go_region_held3 (fun W => W.cell? ⟨wr.heap.size, 0, none⟩ = some (.string xm) ∧ W.cell? ⟨wr.heap.size, 1, none⟩ = some (.int .i64 xc) ∧ W.cell? ⟨wr.heap.size, 2, none⟩ = some (.int .i64 xf) ∧ W.cell? ⟨wr.heap.size, 3, none⟩ = some (.int .i64 xt) ∧ W.cell? ⟨wr.heap.size, 4, none⟩ = some (.int .i64 xa) ∧ W.cell? ⟨wr.heap.size, 5, none⟩ = some (.int .i64 xl) ∧ W.cell? ⟨wr.heap.size, 6, none⟩ = some (.slice EA en ed) ∧ W.cell? ⟨w4.heap.size, 0, none⟩ = some (.string xm) ∧ W.cell? ⟨w4.heap.size, 1, none⟩ = some (.int .i64 xc) ∧ W.cell? ⟨w4.heap.size, 2, none⟩ = some (.int .i64 (at_ - xa + xf)) ∧ W.cell? ⟨w4.heap.size, 3, none⟩ = some (.string ⟨#[]⟩) ∧ W.cell? ⟨w4.heap.size, 4, none⟩ = some (.string ⟨#[]⟩) ∧ W.cell? ⟨w5.heap.size, 0, none⟩ = some (.bool vs) ∧ W.cell? ⟨w5.heap.size, 1, none⟩ = some (.slice vA vL vc) ∧ W.cell? ⟨w5.heap.size, 2, none⟩ = some (.slice vB vM vd))
        (first | exact HCB.out _ hBD | exact HCB.out _ hqB | exact HCG.out _ _ hqB hg12)
        (first | (go_at_call 11; refine (HVA.out _ hBD).mono ?_; rintro e wA ⟨s, X, N, j, Y, O, t, rfl, hqB, w12, hrun, ho12, hg12⟩))
      all_goals
        have HM12 := Lib.hid ho12
        have HG12 := Lib.hid (HFIN.out _ _ hqB hg12)
        clear hrun ho12 hg12 hqB
        go_wp2_with fail
        go_roundw
        case rel => exact ⟨i + 1, n + 1, HI1.out.1, by go_num, HI1.out.2, HM12, HG12⟩
        case measure => simp [intOf]; omega
    · have HQQ : Hid (RLim 90300 q) := HLL.out i (⟨xm, xc, at_ - xa + xf⟩, q) ((look_mem (HLS.out i)).1 hlq)
      have HQ6 : Hid (∀ W, Gq w6 W → RatV W (.agg #[.bool vs, .slice vA vL vc, .slice vB vM vd]) q) := fun W hW => (hvq.below HG6.out).below hW
      have HVA : Hid (∀ W, Gq w6 W → Calls Tryz.prog 11 #[.agg #[.string xm, .int .i64 xc, .int .i64 xf, .int .i64 xt, .int .i64 xa, .int .i64 xl, .slice EA en ed], .int .i64 (at_ - xa)] W fun e w' => ∃ s X N j Y O t, e = .returned (.agg #[.bool s, .slice X N j, .slice Y O t]) ∧ Hid (∀ W', Gq w' W' → RatV W' (.agg #[.bool s, .slice X N j, .slice Y O t]) V) ∧ Gq w6 w') := fun W hW => by
        refine (HVE.out W (HGR6.out.trans hW)).mono ?_
        rintro e w' ⟨v, rfl, hv, hg⟩
        obtain ⟨s, X, N, j, Y, O, t, rfl⟩ := rat_agg hv
        exact ⟨s, X, N, j, Y, O, t, rfl, fun W' hW' => hv.below hW', hW.trans hg⟩
      have HAD : Hid (∀ w' W s X N j Y O t, Hid (∀ W', Gq w' W' → RatV W' (.agg #[.bool s, .slice X N j, .slice Y O t]) V) → Gq w' W → Gq w6 W → Calls Tryz.prog 10 #[.agg #[.bool vs, .slice vA vL vc, .slice vB vM vd], .agg #[.bool s, .slice X N j, .slice Y O t]] W fun e w' => ∃ s X N j Y O t, e = .returned (.agg #[.bool s, .slice X N j, .slice Y O t]) ∧ Gq w6 w' ∧ ∃ w'', (Instr.mapUpdate 37 (.map (some w2.heap.size)) (.agg #[.string xm, .int .i64 xc, .int .i64 (at_ - xa + xf), .string ⟨#[]⟩, .string ⟨#[]⟩]) (.agg #[.bool s, .slice X N j, .slice Y O t])).run Tryz.prog w' = .ok () w'' ∧ MapG w'' w2.heap.size (n + 1) (L (i + 1)) ∧ w'.grownBy w'' (some w2.heap.size)) := fun w' W s X N j Y O t h1 h2 h3 => by
        refine (addQ_any _ _ q V W (HQ6.out W h3) (h1.out W h2) 90300 HQQ.out (HLQ.out.mono (by omega)) (by omega)).mono ?_
        rintro e w' ⟨v, rfl, hv, hg⟩
        obtain ⟨s, X, N, j, Y, O, t, rfl⟩ := rat_agg hv
        exact ⟨s, X, N, j, Y, O, t, rfl, h3.trans hg, HMU.out w' _ (q + V) (h3.trans hg) hv (by rw [hlq]; rfl)⟩
      have hlq := Lib.hid hlq
      clear HMU HVE hvq
      go_wp2_with fail
      go_region_held3 (fun W => W.cell? ⟨wr.heap.size, 0, none⟩ = some (.string xm) ∧ W.cell? ⟨wr.heap.size, 1, none⟩ = some (.int .i64 xc) ∧ W.cell? ⟨wr.heap.size, 2, none⟩ = some (.int .i64 xf) ∧ W.cell? ⟨wr.heap.size, 3, none⟩ = some (.int .i64 xt) ∧ W.cell? ⟨wr.heap.size, 4, none⟩ = some (.int .i64 xa) ∧ W.cell? ⟨wr.heap.size, 5, none⟩ = some (.int .i64 xl) ∧ W.cell? ⟨wr.heap.size, 6, none⟩ = some (.slice EA en ed) ∧ W.cell? ⟨w4.heap.size, 0, none⟩ = some (.string xm) ∧ W.cell? ⟨w4.heap.size, 1, none⟩ = some (.int .i64 xc) ∧ W.cell? ⟨w4.heap.size, 2, none⟩ = some (.int .i64 (at_ - xa + xf)) ∧ W.cell? ⟨w4.heap.size, 3, none⟩ = some (.string ⟨#[]⟩) ∧ W.cell? ⟨w4.heap.size, 4, none⟩ = some (.string ⟨#[]⟩) ∧ W.cell? ⟨w5.heap.size, 0, none⟩ = some (.bool vs) ∧ W.cell? ⟨w5.heap.size, 1, none⟩ = some (.slice vA vL vc) ∧ W.cell? ⟨w5.heap.size, 2, none⟩ = some (.slice vB vM vd))
        (first | exact HCB.out _ hBD | exact HCB.out _ hqA | exact HCB.out _ hqB | exact HCG.out _ _ hqB hg12)
        (first | (go_at_call 11; refine (HVA.out _ hBD).mono ?_; rintro e wA ⟨s1, X1, N1, j1, Y1, O1, t1, rfl, hvA, hqA⟩) | (go_at_call 10; refine (HAD.out _ _ _ _ _ _ _ _ _ hvA (by first | exact Gq.refl _ | exact (Gq.refl _).drew) (by first | exact hqA | exact hqA.drew)).mono ?_; rintro e wB ⟨s, X, N, j, Y, O, t, rfl, hqB, w12, hrun, ho12, hg12⟩))
      all_goals
        have HM12 := Lib.hid ho12
        have HG12 := Lib.hid (HFIN.out _ _ hqB hg12)
        clear hrun ho12 hg12 hqB hqA hvA
        go_wp2_with fail
        go_roundw
        case rel => exact ⟨i + 1, n + 1, HI1.out.1, by go_num, HI1.out.2, HM12, HG12⟩
        case measure => simp [intOf]; omega
end Go.Proofs.YtmknpeoflafaoabGreatDoor
