/- The contract of the reference's Locate. -/
import Derived.Test.YtgjmjdpddionmaaDoorHitR
import Derived.Test.YtgjmjdpddionmaaDoorStoR
import Derived.Test.YtgjmjdpddionmaaDoorLocU
import Derived.Test.YtgjmjdpddionmaaDoorInsHt
import Derived.Deep.DeepCutAuto
import Derived.Deep.CutBlock
namespace Go.Proofs.YtgjmjdpddionmaaDoor
open Go.RowKit Go.Dw
attribute [local go_sem ↓] Go.wp_at_zero Go.wp_at_succ

theorem limits_any (least percent : Int) (w : World) :
    Calls Tryd.prog 22 #[.int .i64 least, .int .i64 percent] w fun e w' => e = .returned (.int .i64 (fdF least percent)) ∧ w = w' := by
  by_cases h1 : 1 ≤ least ∧ least ≤ 500
  case neg =>
    have HR : Hid (fdF least percent = 1) := by show _ = _; unfold fdF; rw [if_neg (by omega)]
    have HW := Lib.hid (within_f least 1 500 w h1)
    clear h1
    go_enter Tryd.func22, Tryd.ntmps22
    go_wp2_with fail
    refine HW.out.mono ?_
    rintro e w1 ⟨rfl, rfl⟩
    go_wp2_with fail
    go_ret
    exact ⟨ret_int HR.out.symm, rfl⟩
  have HW := Lib.hid (within_t least 1 500 w h1)
  by_cases h2 : 0 ≤ percent ∧ percent ≤ 100
  case neg =>
    have HR : Hid (fdF least percent = 1) := by show _ = _; unfold fdF; rw [if_neg (by omega)]
    have HV := Lib.hid (within_f percent 0 100 w h2)
    clear h1 h2
    go_enter Tryd.func22, Tryd.ntmps22
    go_wp2_with fail
    refine HW.out.mono ?_
    rintro e w1 ⟨rfl, rfl⟩
    go_wp2_with fail
    refine HV.out.mono ?_
    rintro e w1 ⟨rfl, rfl⟩
    go_wp2_with fail
    go_ret
    exact ⟨ret_int HR.out.symm, rfl⟩
  have HV := Lib.hid (within_t percent 0 100 w h2)
  have HR : Hid (fdF least percent = 0) := by show _ = _; unfold fdF; rw [if_pos ⟨h1.1, h1.2, h2.1, h2.2⟩]
  clear h1 h2
  go_enter Tryd.func22, Tryd.ntmps22
  go_wp2_with fail
  refine HW.out.mono ?_
  rintro e w1 ⟨rfl, rfl⟩
  go_wp2_with fail
  refine HV.out.mono ?_
  rintro e w1 ⟨rfl, rfl⟩
  go_wp2_with fail
  go_ret
  exact ⟨ret_int HR.out.symm, rfl⟩
def Gw (w W : World) : Prop := Below w.heap.size w W
theorem insAll_len {α : Type} (ge : α → α → Bool) : ∀ (l acc : List α), (insAll ge acc l).length = acc.length + l.length
  | [], acc => rfl
  | x :: l, acc => by rw [insAll, insAll_len ge l, insB_length]; simp; omega
theorem ins_good {P : Ht → Prop} {l : List Ht} (h : ∀ x ∈ l, P x) : ∀ x ∈ insAll geH [] l, P x := fun x hx => by
  rw [mem_insAll] at hx
  rcases hx with hx | hx
  · simp at hx
  · exact h x hx
/-- cells of a row of hits of the call's own -/
theorem hits_at {w : World} {base n c : Nat} {A : Option Addr} {l : List Ht} (h : w.ownsRow base 31 4 (.slice A n c) n (l.flatMap Ht.cs)) (hn : n = l.length) {t : Nat} (ht : t < l.length) :
    ∃ g, A = some ⟨g, 0, none⟩ ∧ g < w.heap.size ∧ w.cell? ⟨g, t * 4, none⟩ = some (.string l[t].n) ∧ w.cell? ⟨g, t * 4 + 1, none⟩ = some (.int .i64 l[t].o) ∧ w.cell? ⟨g, t * 4 + 2, none⟩ = some (.int .i64 l[t].b) ∧ w.cell? ⟨g, t * 4 + 3, none⟩ = some (.int .i64 l[t].c) := by
  have h3 := Rd.of_own h
  obtain ⟨g, o, h4, hg, h5⟩ := h3.at_ (by rw [flat_len Ht.cs 4 (fun _ => rfl)]; omega)
  rcases h.2 with ⟨h1, h2⟩ | ⟨g2, cap, cur, h1, _⟩
  · omega
  · injection h1 with h1
    rw [h4] at h1
    injection h1 with h1
    injection h1 with h6 h7
    subst h6 h7
    have hk : ∀ i, i < 4 → (l.flatMap Ht.cs)[t * 4 + i]? = (l[t].cs)[i]? := fun i hi => flat_get Ht.cs 4 (fun _ => rfl) l t i ht hi
    refine ⟨g, h4, hg, ?_, ?_, ?_, ?_⟩
    · have := h5 (t * 4 + 0) (.string l[t].n) (by rw [hk 0 (by omega)]; rfl)
      rwa [Nat.zero_add] at this
    · have := h5 (t * 4 + 1) (.int .i64 l[t].o) (by rw [hk 1 (by omega)]; rfl)
      rwa [Nat.zero_add] at this
    · have := h5 (t * 4 + 2) (.int .i64 l[t].b) (by rw [hk 2 (by omega)]; rfl)
      rwa [Nat.zero_add] at this
    · have := h5 (t * 4 + 3) (.int .i64 l[t].c) (by rw [hk 3 (by omega)]; rfl)
      rwa [Nat.zero_add] at this
set_option maxRecDepth 100000 in
set_option maxHeartbeats 4000000 in
theorem locateR_any (x : Slc Mk) (B : Option Addr) (cb : Nat) (want : List Int) (least percent : Int) (w : World) (h : Sto w x) (hb : Rd w B (ic want)) (hn : want.length ≤ 9223372036854775807) :
    Calls Tryd.prog 5 #[x.v, .slice B want.length cb, .int .i64 least, .int .i64 percent] w (HtsPost w (locF (x.xs.map Mk.p) want least percent)) := by
  have HST := Lib.hid (storeR_any x w h)
  by_cases hz1 : stoF (x.xs.map Mk.p) = 0
  case neg =>
    have HR : Hid (locF (x.xs.map Mk.p) want least percent = ([], stoF (x.xs.map Mk.p))) := by show _ = _; unfold locF; rw [if_pos hz1]
    have hzb : (stoF (x.xs.map Mk.p) != 0) = true := by simpa using hz1
    clear hz1
    simp only [Slc.v] at *
    go_enter Tryd.func5, Tryd.ntmps5
    go_wp2_with fail
    refine HST.out.mono ?_
    rintro e w1 ⟨rfl, hb1⟩
    have HB1 := Lib.hid hb1
    clear hb1
    go_wp2_with fail
    go_ret2
    exact htsPost_none HR.out HB1.out
  have HZ1 := Lib.hid hz1
  rw [hz1] at HST
  have HRB := Lib.hid hb
  have HCM := Lib.hid (fun (W : World) (hW : Below w.heap.size w W) => check_any B cb want W (hb.below hW) hn)
  by_cases hz2 : chk want = 0
  case neg =>
    have HR : Hid (locF (x.xs.map Mk.p) want least percent = ([], chk want)) := by show _ = _; unfold locF; rw [if_neg (fun hh => hh hz1), if_pos hz2]
    have hzb : (chk want != 0) = true := by simpa using hz2
    clear hz1 hz2 hb
    simp only [Slc.v] at *
    go_enter Tryd.func5, Tryd.ntmps5
    go_wp2_with fail
    refine HST.out.mono ?_
    rintro e w1 ⟨rfl, hb1⟩
    have HB1 := Lib.hid hb1
    clear hb1
    go_wp2_with fail
    refine (HCM.out _ HB1.out).mono ?_
    rintro e w2 ⟨rfl, rfl⟩
    go_wp2_with fail
    go_ret2
    exact htsPost_none HR.out HB1.out
  have HZ2 := Lib.hid hz2
  rw [hz2] at HCM
  have HCF := Lib.hid (fun W => limits_any least percent W)
  by_cases hz3 : fdF least percent = 0
  case neg =>
    have HR : Hid (locF (x.xs.map Mk.p) want least percent = ([], fdF least percent)) := by show _ = _; unfold locF; rw [if_neg (fun hh => hh hz1), if_neg (fun hh => hh hz2), if_pos hz3]
    have hzb : (fdF least percent != 0) = true := by simpa using hz3
    clear hz1 hz2 hz3 hb
    simp only [Slc.v] at *
    go_enter Tryd.func5, Tryd.ntmps5
    go_wp2_with fail
    refine HST.out.mono ?_
    rintro e w1 ⟨rfl, hb1⟩
    have HB1 := Lib.hid hb1
    clear hb1
    go_wp2_with fail
    refine (HCM.out _ HB1.out).mono ?_
    rintro e w2 ⟨rfl, rfl⟩
    go_wp2_with fail
    refine (HCF.out _).mono ?_
    rintro e w3 ⟨rfl, rfl⟩
    go_wp2_with fail
    go_ret2
    exact htsPost_none HR.out HB1.out
  rw [hz3] at HCF
  obtain ⟨g1, g2, g3, g4⟩ := fdF_zero hz3
  obtain ⟨hwl0, hws⟩ := chk_zero hz2
  have hwl : want.length ≤ 500 := by omega
  obtain ⟨hLl, hLc, hLs⟩ := stoF_zero hz1
  rw [List.length_map] at hLl
  have HR : Hid (locF (x.xs.map Mk.p) want least percent = (insAll geH [] (hitsN (x.xs.map Mk.p) want least percent (x.xs.map Mk.p).length), 0)) := by show _ = _; unfold locF; rw [if_neg (fun hh => hh hz1), if_neg (fun hh => hh hz2), if_neg (fun hh => hh hz3)]
  rw [List.length_map] at HR
  have HGD := Lib.hid (hitsN_good (L := x.xs.map Mk.p) (percent := percent) g1 hwl)
  have HX := Lib.hid h
  have HHIT : Hid (∀ (k : Nat) (hk : k < x.xs.length) (W : World), Below w.heap.size w W → Calls Tryd.prog 23 #[.agg #[.string x.xs[k].n, .slice x.xs[k].s.a x.xs[k].s.xs.length x.xs[k].s.c], .slice B want.length cb, .int .i64 least, .int .i64 percent] W fun e w' => e = .returned (.tuple #[(hEnd x.xs[k].n x.xs[k].s.xs want least).2.v, .bool (hOk x.xs[k].n x.xs[k].s.xs want least percent)]) ∧ Below W.heap.size W w') := fun k hk W hW => by
    have hck := hLc k (by simpa using hk)
    rw [mkp_at _ _ hk] at hck
    obtain ⟨q1, q2⟩ := chk_zero hck
    exact locR_any x.xs[k].n x.xs[k].s.a B x.xs[k].s.c cb x.xs[k].s.xs want least percent W (((h.2.2 _ (List.getElem_mem hk)).2.2).below hW) (hb.below hW) q2 hws (by show x.xs[k].s.xs.length ≤ 500; simp only at q1; omega) hwl g1 g2 g3 g4
  have HHN : Hid (∀ k (hk : k < x.xs.length), hitsN (x.xs.map Mk.p) want least percent (k + 1) = if hOk x.xs[k].n x.xs[k].s.xs want least percent = true then hitsN (x.xs.map Mk.p) want least percent k ++ [(hEnd x.xs[k].n x.xs[k].s.xs want least).2] else hitsN (x.xs.map Mk.p) want least percent k) := fun k hk => by
    rw [hitsN, mkp_at _ _ hk]
  have HSM : Hid (∀ k (hk : k < x.xs.length), (hEnd x.xs[k].n x.xs[k].s.xs want least).2.small) := fun k hk => (hGo_small _ _ _ _ hwl _).1
  have HLN := Lib.hid (fun k => hitsN_len (L := x.xs.map Mk.p) (want := want) (least := least) (percent := percent) k)
  obtain ⟨F, hF⟩ : ∃ F, hitsN (x.xs.map Mk.p) want least percent = F := ⟨_, rfl⟩
  have HF0 : Hid (F 0 = []) := by show _ = _; rw [← hF]; rfl
  rw [hF] at HR HGD
  simp only [hF] at HHN HLN
  have HSMF : Hid (∀ k, ∀ y ∈ insAll geH [] (F k), y.small) := fun k => ins_good (fun y hy => (HGD.out k y hy).1.1)
  clear hb hz1 hz2 hz3 hLc hLs hF h HGD
  obtain ⟨A, c, L⟩ := x
  simp only [Slc.v] at *
  go_enter Tryd.func5, Tryd.ntmps5
  go_wp2_with fail
  refine HST.out.mono ?_
  rintro e w1 ⟨rfl, hb1⟩
  have HB1 := Lib.hid hb1
  clear hb1
  go_wp2_with fail
  refine (HCM.out _ HB1.out).mono ?_
  rintro e w2 ⟨rfl, rfl⟩
  go_wp2_with fail
  refine (HCF.out _).mono ?_
  rintro e w3 ⟨rfl, rfl⟩
  go_wp2_with fail
  go_loopw [13, 37] (fun v iv wr => ∃ (k : Nat) (O : List Ht), k ≤ L.length ∧ iv = .int .i64 (k : Int) ∧ O.length ≤ 50 ∧ Hid (O = insAll geH [] (F k)) ∧ Hid (Below w1.heap.size w1 wr) ∧ Hid (wr.ownsRow w1.heap.size 31 4 v O.length (O.flatMap Ht.cs))) (fun _ iv _ => L.length - (intOf iv).toNat)
  case atStart => exact ⟨0, [], by omega, rfl, by simp, by rw [HF0.out]; rfl, Below.refl _ _, ⟨rfl, .inl ⟨rfl, rfl⟩⟩⟩
  case round =>
    obtain ⟨k, O, hk, rfl, hm50, HM, HB, HOWN⟩ := hrel
    obtain ⟨A3, c3, rfl⟩ := slice_of_own HOWN.out
    have HBW := Lib.hid (HB1.out.trans (HB.out.mono HB1.out.size))
    by_cases hlt : k < L.length
    case neg =>
      have hke : k = L.length := by omega
      have hd1 : decide (k < L.length) = false := by simpa using hlt
      have HRD : Hid (Rd wr A3 ((insAll geH [] (F L.length)).flatMap Ht.cs)) := by show Rd _ _ _; rw [← hke, ← HM.out]; exact Rd.of_own HOWN.out
      have HLEN : Hid (O.length = (insAll geH [] (F L.length)).length) := by show _ = _; rw [← hke, ← HM.out]
      clear hke
      go_wp2_with fail
      go_ret2
      exact htsPost_some HR.out HLEN.out HRD.out HBW.out
    have hd1 : decide (k < L.length) = true := by simpa using hlt
    obtain ⟨b, off, hA, hbb, hcs⟩ := HX.out.at_ (by show 0 < L.length; omega)
    obtain rfl : A = some ⟨b, off, none⟩ := hA
    have c0 : wr.cell? ⟨b, off + k * 2, none⟩ = some (.string L[k].n) := by rw [HBW.out.cell (by exact hbb)]; exact (hcs k hlt).1
    have c1 : wr.cell? ⟨b, off + k * 2 + 1, none⟩ = some (.slice L[k].s.a L[k].s.xs.length L[k].s.c) := by rw [HBW.out.cell (by exact hbb)]; exact (hcs k hlt).2
    have HHT := Lib.hid (HHIT.out k hlt)
    have HNX := Lib.hid (HHN.out k hlt)
    have hsml := HSM.out k hlt
    have hml := HLN.out k
    clear hcs
    generalize L[k].n = nm at *
    generalize L[k].s.a = a2 at *
    generalize L[k].s.c = cc2 at *
    generalize L[k].s.xs = xs at *
    obtain ⟨ht, hht⟩ : ∃ ht, (hEnd nm xs want least).2 = ht := ⟨_, rfl⟩
    obtain ⟨ok, hok⟩ : ∃ ok, hOk nm xs want least percent = ok := ⟨_, rfl⟩
    rw [hht, hok] at HNX
    rw [hht] at hsml
    have HSML := Lib.hid hsml
    simp only [hht, hok] at HHT
    clear hht hok hsml
    obtain ⟨tn, tf, tb, tc⟩ := ht
    simp only [Ht.v] at HHT
    have HB2 : Hid (Below w.heap.size w (wr.alloc (.cells #[.string nm, .slice a2 xs.length cc2] 41))) := HBW.out.alloc HBW.out.size _
    have hszr : w1.heap.size ≤ wr.heap.size := HB.out.size
    go_wp2_with fail
    refine (HHT.out _ HB2.out).mono ?_
    rintro e w4 ⟨rfl, hb4⟩
    have hpw : Below wr.heap.size wr w4 := ((Below.refl _ _).alloc (Nat.le_refl _) (.cells #[.string nm, .slice a2 xs.length cc2] 41)).trans (hb4.mono (by simp))
    have HB4 : Hid (Below w1.heap.size w1 w4) := HB.out.trans (hpw.mono hszr)
    have HO4 := Lib.hid (own_belowL HOWN.out hpw)
    have hsz4 : w1.heap.size ≤ w4.heap.size := HB4.out.size
    clear hb4 hpw c0 c1
    cases ok
    · rw [if_neg (by decide)] at HNX
      go_wp2_with fail
      go_roundw
      case rel => exact ⟨k + 1, O, by omega, by go_num, hm50, by rw [HNX.out]; exact HM.out, HB4.out.alloc hsz4 _, HO4.out.alloc _⟩
      case measure => simp [intOf]; omega
    · rw [if_pos rfl] at HNX
      have hm1 : O.length + 1 ≤ 50 := by
        have h1 := HLN.out (k + 1)
        rw [HNX.out, List.length_append] at h1
        have h2 : O.length = (F k).length := by rw [HM.out, insAll_len]; simp
        simp at h1; omega
      obtain ⟨wp, hwc⟩ : ∃ wp, wp = w4.alloc (.cells #[.string tn, .int .i64 tf, .int .i64 tb, .int .i64 tc] 31) := ⟨_, rfl⟩
      have HWB : Hid (Blk wp w4.heap.size 31 (Ht.cs ⟨tn, tf, tb, tc⟩)) := by rw [hwc]; exact Blk.new w4 31 (Ht.cs ⟨tn, tf, tb, tc⟩)
      have HBC : Hid (Below w1.heap.size w1 wp) := by rw [hwc]; exact HB4.out.alloc hsz4 _
      have HOC : Hid (wp.ownsRow w1.heap.size 31 4 (.slice A3 O.length c3) O.length (O.flatMap Ht.cs)) := by rw [hwc]; exact HO4.out.alloc _
      have hgw4 : Hid (∀ g, (Value.slice A3 O.length c3).ownBlock = some g → g < w4.heap.size) := fun g hg => (HO4.out.lt g hg).2
      have hwcs : w4.heap.size < wp.heap.size := by rw [hwc]; simp
      have HWC := Lib.hid hwc
      have hwsz : w1.heap.size ≤ w4.heap.size := hsz4
      have HSO : Hid (∀ y ∈ O, y.small) := by show ∀ y ∈ O, y.small; rw [HM.out]; exact HSMF.out k
      clear hwc HB HOWN HB4 HO4
      go_upto_block 2 with (fail)
      rw [← HWC.out]
      go_cut [18] (fun tv wx => ∃ t : Nat, t ≤ O.length ∧ tv = .int .i64 (t : Int) ∧ Hid ((∀ j (hj : j < O.length), j < t → geH O[j] ⟨tn, tf, tb, tc⟩ = true) ∧ ∀ h : t < O.length, geH O[t] ⟨tn, tf, tb, tc⟩ = false) ∧ Hid (Below wp.heap.size wp wx))
      case first =>
        obtain ⟨wo, hwo⟩ : ∃ wo, wo = wr := ⟨_, rfl⟩
        subst hwo
        go_wp2_with fail
        go_loopw [18] (fun tv wx => ∃ t : Nat, t ≤ O.length ∧ tv = .int .i64 (t : Int) ∧ Hid (∀ j (hj : j < O.length), j < t → geH O[j] ⟨tn, tf, tb, tc⟩ = true) ∧ Hid (Below wp.heap.size wp wx)) (fun tv _ => O.length - (intOf tv).toNat)
        case atStart => exact ⟨0, by omega, rfl, fun j _ hj => by omega, Below.refl _ _⟩
        case round =>
          obtain ⟨t, ht, rfl, HG, HBX⟩ := hrel
          by_cases htq : t < O.length
          · have hd7 : decide (t < O.length) = true := by simpa using htq
            obtain ⟨g, hA3, hgs, q0, q1, q2, q3⟩ := hits_at HOC.out rfl htq
            subst hA3
            have hyS := HSO.out O[t] (List.getElem_mem htq)
            have HGE : Hid (geH O[t] ⟨tn, tf, tb, tc⟩ = decide (betr O[t] ⟨tn, tf, tb, tc⟩ ≤ 0)) := by
              show _ = _; unfold geH; exact decide_eq_decide.2 (betr_pos _ _).symm
            have HBE := Lib.hid (fun W => betterR_any O[t] ⟨tn, tf, tb, tc⟩ W hyS HSML.out)
            obtain ⟨bt, hbt⟩ : ∃ v, betr O[t] ⟨tn, tf, tb, tc⟩ = v := ⟨_, rfl⟩
            rw [hbt] at HGE
            simp only [hbt] at HBE
            clear hbt
            obtain ⟨y, hy⟩ : ∃ y, O[t] = y := ⟨_, rfl⟩
            have HY := Lib.hid hy
            rw [hy] at q0 q1 q2 q3 HBE
            clear hy
            obtain ⟨yn, yo, yb, yc⟩ := y
            simp only [Ht.v] at HBE
            simp only at q0 q1 q2 q3
            have f0 := HWB.out.cell 0
            have f1 := HWB.out.cell 1
            have f2 := HWB.out.cell 2
            have f3 := HWB.out.cell 3
            simp only [Ht.cs, List.getElem?_cons_zero, List.getElem?_cons_succ] at f0 f1 f2 f3
            have e1 : ∀ i : Nat, wr.cell? ⟨g, i, none⟩ = wp.cell? ⟨g, i, none⟩ := fun i => HBX.out.cell (by exact hgs)
            have e2 : ∀ i : Nat, wr.cell? ⟨w4.heap.size, i, none⟩ = wp.cell? ⟨w4.heap.size, i, none⟩ := fun i => HBX.out.cell (by exact hwcs)
            rw [← e1] at q0 q1 q2 q3
            rw [← e2] at f0 f1 f2 f3
            clear e1 e2
            have j0 : (0 : Int) ≤ (t : Int) := by omega
            have j1 : (t : Int) < (O.length : Int) := by omega
            have hq : wr.heap.size = wr.heap.size := rfl
            have HS : Hid (∀ W, Gw wr W → W.cell? ⟨g, t * 4, none⟩ = some (.string yn) ∧ W.cell? ⟨g, t * 4 + 1, none⟩ = some (.int .i64 yo) ∧ W.cell? ⟨g, t * 4 + 2, none⟩ = some (.int .i64 yb) ∧ W.cell? ⟨g, t * 4 + 3, none⟩ = some (.int .i64 yc)
                ∧ W.cell? ⟨w4.heap.size, 0, none⟩ = some (.string tn) ∧ W.cell? ⟨w4.heap.size, 1, none⟩ = some (.int .i64 tf) ∧ W.cell? ⟨w4.heap.size, 2, none⟩ = some (.int .i64 tb) ∧ W.cell? ⟨w4.heap.size, 3, none⟩ = some (.int .i64 tc) ∧ Gw wr W) := fun W hW => by
              have hz := HBX.out.size
              have e1 : ∀ i : Nat, W.cell? ⟨g, i, none⟩ = wr.cell? ⟨g, i, none⟩ := fun i => Below.cell hW (by show g < _; omega)
              have e2 : ∀ i : Nat, W.cell? ⟨w4.heap.size, i, none⟩ = wr.cell? ⟨w4.heap.size, i, none⟩ := fun i => Below.cell hW (by show w4.heap.size < _; omega)
              rw [e1, e1, e1, e1, e2, e2, e2, e2]
              exact ⟨q0, q1, q2, q3, f0, f1, f2, f3, hW⟩
            have HBF : Hid (∀ W, Gw wr W → Calls Tryd.prog 24 #[.agg #[.string yn, .int .i64 yo, .int .i64 yb, .int .i64 yc], .agg #[.string tn, .int .i64 tf, .int .i64 tb, .int .i64 tc]] W fun e W' => e = .returned (.int .i64 bt) ∧ Gw wr W') :=
              fun W hW => (HBE.out W).mono fun e W' ⟨he, hb⟩ => ⟨he, Below.trans hW (hb.mono (Below.size hW))⟩
            have hBD : Gw wr wr.drew := (Below.refl _ _).drew
            clear hyS hq HBE
            by_cases hge : bt ≤ 0
            · have hge' : decide (bt ≤ 0) = true := by simpa using hge
              have HGT : Hid (geH O[t] ⟨tn, tf, tb, tc⟩ = true) := by show _ = _; rw [HGE.out, hge']
              clear hge
              go_wp2_with fail
              go_region_held3 (fun W => W.cell? ⟨g, t * 4, none⟩ = some (.string yn) ∧ W.cell? ⟨g, t * 4 + 1, none⟩ = some (.int .i64 yo) ∧ W.cell? ⟨g, t * 4 + 2, none⟩ = some (.int .i64 yb) ∧ W.cell? ⟨g, t * 4 + 3, none⟩ = some (.int .i64 yc)
                  ∧ W.cell? ⟨w4.heap.size, 0, none⟩ = some (.string tn) ∧ W.cell? ⟨w4.heap.size, 1, none⟩ = some (.int .i64 tf) ∧ W.cell? ⟨w4.heap.size, 2, none⟩ = some (.int .i64 tb) ∧ W.cell? ⟨w4.heap.size, 3, none⟩ = some (.int .i64 tc) ∧ Gw wr W)
                (first | exact HS.out _ hBD | exact HS.out _ hqB)
                (first | (go_at_call 24; refine (HBF.out _ (by first | assumption | (go_split_ands; assumption))).mono ?_; rintro e wA ⟨rfl, hqB⟩))
              have HBQ : Hid (Below wp.heap.size wp wA) := HBX.out.trans (Below.mono hqB HBX.out.size)
              clear q0 q1 q2 q3 f0 f1 f2 f3 HS HBF hBD
              go_wp2_with fail
              go_roundw
              case rel => exact ⟨t + 1, by omega, by go_num, fun j hj hjt => by
                  by_cases hjt2 : j = t
                  · subst hjt2; exact HGT.out
                  · exact HG.out j hj (by omega), HBQ⟩
              case measure => simp [intOf]; omega
            · have hge' : decide (bt ≤ 0) = false := by simpa using hge
              have HGT : Hid (geH O[t] ⟨tn, tf, tb, tc⟩ = false) := by show _ = _; rw [HGE.out, hge']
              clear hge
              go_wp2_with fail
              go_region_held3 (fun W => W.cell? ⟨g, t * 4, none⟩ = some (.string yn) ∧ W.cell? ⟨g, t * 4 + 1, none⟩ = some (.int .i64 yo) ∧ W.cell? ⟨g, t * 4 + 2, none⟩ = some (.int .i64 yb) ∧ W.cell? ⟨g, t * 4 + 3, none⟩ = some (.int .i64 yc)
                  ∧ W.cell? ⟨w4.heap.size, 0, none⟩ = some (.string tn) ∧ W.cell? ⟨w4.heap.size, 1, none⟩ = some (.int .i64 tf) ∧ W.cell? ⟨w4.heap.size, 2, none⟩ = some (.int .i64 tb) ∧ W.cell? ⟨w4.heap.size, 3, none⟩ = some (.int .i64 tc) ∧ Gw wr W)
                (first | exact HS.out _ hBD | exact HS.out _ hqB)
                (first | (go_at_call 24; refine (HBF.out _ (by first | assumption | (go_split_ands; assumption))).mono ?_; rintro e wA ⟨rfl, hqB⟩))
              have HBQ : Hid (Below wp.heap.size wp wA) := HBX.out.trans (Below.mono hqB HBX.out.size)
              clear q0 q1 q2 q3 f0 f1 f2 f3 HS HBF hBD
              go_wp2_with fail
              go_meet
              case rel => exact ⟨t, ht, rfl, ⟨HG.out, fun _ => HGT.out⟩, HBQ⟩
          · have hd7 : decide (t < O.length) = false := by simpa using htq
            go_wp2_with fail
            go_quiet (fail)
            go_wp2_with fail
            go_meet
            case rel => exact ⟨t, ht, rfl, ⟨HG.out, fun h => absurd h htq⟩, below_drewN HBX.out _⟩
      case rest =>
        obtain ⟨t, ht, rfl, HG, HBX⟩ := hcut
        have hzc := HBX.out.size
        have HBW2 : Hid (Below w1.heap.size w1 wc) := HBC.out.trans (HBX.out.mono HBC.out.size)
        have HOW2 : Hid (wc.ownsRow w1.heap.size 31 4 (.slice A3 O.length c3) O.length (O.flatMap Ht.cs)) := own_belowL HOC.out HBX.out
        have hgsz := HBW2.out.size
        have f0 := HWB.out.cell 0
        have f1 := HWB.out.cell 1
        have f2 := HWB.out.cell 2
        have f3 := HWB.out.cell 3
        simp only [Ht.cs, List.getElem?_cons_zero, List.getElem?_cons_succ] at f0 f1 f2 f3
        have e2 : ∀ i : Nat, wc.cell? ⟨w4.heap.size, i, none⟩ = wp.cell? ⟨w4.heap.size, i, none⟩ := fun i => HBX.out.cell (by exact hwcs)
        rw [← e2] at f0 f1 f2 f3
        clear e2
        have HINS := Lib.hid (insert_Ht w1 (wc.alloc (.cells #[.string tn, .int .i64 tf, .int .i64 tb, .int .i64 tc] 31)) w1.heap.size w1.heap.size O.length wc.heap.size (O.flatMap Ht.cs) [.string tn, .int .i64 tf, .int .i64 tb, .int .i64 tc] t (.slice A3 O.length c3) (HBW2.out.alloc hgsz _) (Nat.le_refl _) (by simp; omega) (HOW2.out.alloc _) (heap_alloc_new wc _) (fun e => by have := (HOW2.out.lt _ e).2; omega) rfl (by simp [Value.oneCell']) (fun u hu => by obtain ⟨x, _, hx⟩ := List.mem_flatMap.1 hu; simp [Ht.cs] at hx; rcases hx with rfl | rfl | rfl | rfl <;> rfl) ht (by omega))
        have HE : Hid (F (k + 1) = F k ++ [⟨tn, tf, tb, tc⟩]) := HNX
        go_wp2_with fail
        refine HINS.out.mono ?_
        rintro e w5 ⟨v5, rfl, hown5, hb5⟩
        have hQ2 : (O.flatMap Ht.cs).take (t * 4) ++ [.string tn, .int .i64 tf, .int .i64 tb, .int .i64 tc] ++ (O.flatMap Ht.cs).drop (t * 4) = (insB geH (⟨tn, tf, tb, tc⟩ : Ht) O).flatMap Ht.cs := by
          obtain ⟨e1, e2⟩ := flat_take Ht.cs 4 (fun _ => rfl) O t
          obtain ⟨e3, e4⟩ := while_at (fun y => geH y ⟨tn, tf, tb, tc⟩) O t HG.out.1 ht HG.out.2
          unfold insB
          rw [e1, e2, e3, e4, List.flatMap_append, List.flatMap_cons, List.append_assoc]; rfl
        rw [hQ2] at hown5
        have hlen5 := insB_length geH (⟨tn, tf, tb, tc⟩ : Ht) O
        rw [← hlen5] at hown5
        have HQ5 : Hid (insB geH (⟨tn, tf, tb, tc⟩ : Ht) O = insAll geH [] (F (k + 1))) := by
          show _ = _
          rw [HE.out, insAll_snoc, ← HM.out]
        generalize insB geH (⟨tn, tf, tb, tc⟩ : Ht) O = Q5 at hown5 hlen5 HQ5
        have HOWN5 := Lib.hid hown5
        have HB5 := Lib.hid hb5
        clear hown5 hb5 hQ2 HINS f0 f1 f2 f3
        have hl6 : Q5.length ≤ 50 := by omega
        clear hlen5
        go_wp2_with fail
        go_roundw
        case rel => exact ⟨k + 1, Q5, by omega, by go_num, hl6, HQ5, HB5, HOWN5⟩
        case measure => simp [intOf]; omega
end Go.Proofs.YtgjmjdpddionmaaDoor
