/- The contract of the reference's Doubles. -/
import Derived.Test.YtgjmjdpddionmaaDoorDblB
namespace Go.Proofs.YtgjmjdpddionmaaDoor
open Go.RowKit Go.Dw
attribute [local go_sem ↓] Go.wp_at_zero Go.wp_at_succ

/-- a row of n numbers of the call's own, nil perhaps -/
def Gp (w0 : World) (A : Option Addr) (n c : Nat) (f : Nat → Nat) (wr : World) : Prop :=
  wr.ownsRow w0.heap.size 3 1 (.slice A n c) n (nc ((List.range n).map f)) ∧ Below w0.heap.size w0 wr
theorem Gp.some {w0 wr : World} {A : Option Addr} {n c : Nat} {f : Nat → Nat} (h : Gp w0 A n c f wr) (hn : 0 < n) : ∃ g, A = some ⟨g, 0, none⟩ := by
  obtain ⟨g, cap, hv, _⟩ := h.1.form hn
  injection hv with h1
  exact ⟨g, h1⟩
theorem Gp.congr {w0 wr : World} {A : Option Addr} {n c : Nat} {f f' : Nat → Nat} (h : Gp w0 A n c f wr) (hf : ∀ k, k < n → f k = f' k) : Gp w0 A n c f' wr := by
  unfold Gp; rw [← rng_congr hf]; exact h
theorem Gp.below {w0 wr w' : World} {A : Option Addr} {n c : Nat} {f : Nat → Nat} (h : Gp w0 A n c f wr) (hb : Below wr.heap.size wr w') : Gp w0 A n c f w' :=
  ⟨own_belowL h.1 hb, h.2.trans (hb.mono h.2.size)⟩
section
variable {al : Nat → Nat → Bool} {n : Nat}
def rowG (al : Nat → Nat → Bool) (n i k : Nat) (j : Nat) : Nat := (rowD al i (grpD al n i) k).getD j 0
def mixG (al : Nat → Nat → Bool) (n i k M m p : Nat) (j : Nat) : Nat := if j < p ∧ rowG al n i k j = M then m else rowG al n i k j
theorem rowG_same {i k : Nat} (j : Nat) (h : rowG al n i k i = rowG al n i k k ∨ al i k = false) : rowG al n i (k + 1) j = rowG al n i k j := by
  unfold rowG at *
  rw [rowD, stp_no h]
theorem mixG_end {i k : Nat} (hi : i < n) (hk : k < i) (j : Nat) (hj : j < n) (h1 : rowG al n i k i ≠ rowG al n i k k) (h2 : al i k = true) {M m : Nat}
    (hM : M = max (rowG al n i k i) (rowG al n i k k)) (hm : m = min (rowG al n i k i) (rowG al n i k k)) :
    mixG al n i k M m n j = rowG al n i (k + 1) j := by
  obtain ⟨q1, q2, q3⟩ := row_inv (al := al) hi (Nat.le_of_lt hk)
  unfold mixG rowG at *
  rw [rowD, stp_yes h1 h2 (by omega), ← hM, ← hm]
  by_cases he : (rowD al i (grpD al n i) k).getD j 0 = M
  · rw [if_pos ⟨hj, he⟩, if_pos he]
  · rw [if_neg (fun h => he h.2), if_neg he]
theorem mixG_step {i k M m p : Nat} (j : Nat) : mixG al n i k M m (p + 1) j = if j = p then (if rowG al n i k p = M then m else rowG al n i k p) else mixG al n i k M m p j := by
  unfold mixG
  by_cases h : j = p
  · subst h
    rw [if_pos rfl]
    by_cases he : rowG al n i k j = M
    · rw [if_pos ⟨by omega, he⟩, if_pos he]
    · rw [if_neg (fun h => he h.2), if_neg he]
  · rw [if_neg h]
    by_cases h2 : j < p
    · simp only [h2, show j < p + 1 by omega]
    · simp only [h2, show ¬ j < p + 1 by omega]
end
set_option maxRecDepth 100000 in
set_option maxHeartbeats 4000000 in
theorem doublesR_any (x : Slc Mk) (least percent : Int) (w : World) (h : Sto w x) :
    Calls Tryd.prog 10 #[x.v, .int .i64 least, .int .i64 percent] w (DblPost w (dblF (x.xs.map Mk.p) least percent)) := by
  have HST := Lib.hid (storeR_any x w h)
  by_cases hz1 : stoF (x.xs.map Mk.p) = 0
  case neg =>
    have HR : Hid (dblF (x.xs.map Mk.p) least percent = ([], stoF (x.xs.map Mk.p))) := by show _ = _; unfold dblF; rw [if_pos hz1]
    have hzb : (stoF (x.xs.map Mk.p) != 0) = true := by simpa using hz1
    clear hz1
    simp only [Slc.v] at *
    go_enter Tryd.func10, Tryd.ntmps10
    go_wp2_with fail
    refine HST.out.mono ?_
    rintro e w2 ⟨rfl, hb2⟩
    have HB2 := Lib.hid hb2
    clear hb2
    go_wp2_with fail
    go_ret2
    exact dblPost_none HR.out HB2.out
  rw [hz1] at HST
  have HCF := Lib.hid (fun W => limits_any least percent W)
  by_cases hz3 : fdF least percent = 0
  case neg =>
    have HR : Hid (dblF (x.xs.map Mk.p) least percent = ([], fdF least percent)) := by show _ = _; unfold dblF; rw [if_neg (fun hh => hh hz1), if_pos hz3]
    have hzb : (fdF least percent != 0) = true := by simpa using hz3
    clear hz1 hz3
    simp only [Slc.v] at *
    go_enter Tryd.func10, Tryd.ntmps10
    go_wp2_with fail
    refine HST.out.mono ?_
    rintro e w2 ⟨rfl, hb2⟩
    have HB2 := Lib.hid hb2
    clear hb2
    go_wp2_with fail
    refine (HCF.out _).mono ?_
    rintro e w3 ⟨rfl, rfl⟩
    go_wp2_with fail
    go_ret2
    exact dblPost_none HR.out HB2.out
  rw [hz3] at HCF
  obtain ⟨g1, g2, g3, g4⟩ := fdF_zero hz3
  have hn50 : x.xs.length ≤ 50 := by have := (stoF_zero hz1).1; rwa [List.length_map] at this
  have HOK := Lib.hid (mkOk_of hz1)
  obtain ⟨al, hal⟩ : ∃ al, alF (x.xs.map Mk.p) least percent = al := ⟨_, rfl⟩
  have HR : Hid (dblF (x.xs.map Mk.p) least percent = ((outD (grpD al x.xs.length x.xs.length) x.xs.length x.xs.length).map (namesF (x.xs.map Mk.p)), 0)) := by show _ = _; unfold dblF; rw [if_neg (fun hh => hh hz1), if_neg (fun hh => hh hz3), List.length_map, hal]; rfl
  have HLC : Hid (∀ (i k : Nat) (hi : i < x.xs.length) (hk : k < x.xs.length) (W : World), Below w.heap.size w W → Calls Tryd.prog 23 #[.agg #[.string x.xs[i].n, .slice x.xs[i].s.a x.xs[i].s.xs.length x.xs[i].s.c], .slice x.xs[k].s.a x.xs[k].s.xs.length x.xs[k].s.c, .int .i64 least, .int .i64 percent] W fun e w' => e = .returned (.tuple #[(hEnd x.xs[i].n x.xs[i].s.xs x.xs[k].s.xs least).2.v, .bool (al i k)]) ∧ Below W.heap.size W w') := fun i k hi hk W hW => by
    have := locR_any x.xs[i].n x.xs[i].s.a x.xs[k].s.a x.xs[i].s.c x.xs[k].s.c x.xs[i].s.xs x.xs[k].s.xs least percent W (((h.2.2 _ (List.getElem_mem hi)).2.2).below hW) (((h.2.2 _ (List.getElem_mem hk)).2.2).below hW) (HOK.out i hi).1 (HOK.out k hk).1 (HOK.out i hi).2 (HOK.out k hk).2 g1 g2 g3 g4
    rw [← alF_at x least percent hi hk, hal] at this
    exact this
  have HX := Lib.hid h
  have HNM : Hid (∀ k (hk : k < x.xs.length), ((x.xs.map Mk.p).getD k dP).1 = x.xs[k].n) := fun k hk => by rw [mkp_at _ _ hk]
  clear hz1 hz3 h g1 g2 g3 g4 hal HOK
  obtain ⟨A, c, L⟩ := x
  simp only [Slc.v] at *
  obtain ⟨ii, hii, hzi0, hzi1, hzi2⟩ := info_parts info_int
  obtain ⟨is, his, hzs0, hzs1, hzs2⟩ := info_parts info_str
  obtain ⟨ir, hir, hzr0, hzr1, hzr2⟩ := info_parts info_strs
  have HII := Lib.hid (And.intro hii (And.intro hzi0 (And.intro hzi1 hzi2)))
  have HIS := Lib.hid (And.intro his (And.intro hzs0 (And.intro hzs1 hzs2)))
  have HIR := Lib.hid (And.intro hir (And.intro hzr0 (And.intro hzr1 hzr2)))
  clear hii hzi0 hzi1 hzi2 his hzs0 hzs1 hzs2 hir hzr0 hzr1 hzr2
  obtain ⟨n, hn⟩ : ∃ n, L.length = n := ⟨_, rfl⟩
  have HNN := Lib.hid hn
  go_enter Tryd.func10, Tryd.ntmps10
  clear hn
  go_wp2_with fail
  refine HST.out.mono ?_
  rintro e w1 ⟨rfl, hb1⟩
  have HB1 := Lib.hid hb1
  clear hb1
  go_wp2_with fail
  refine (HCF.out _).mono ?_
  rintro e w2 ⟨rfl, rfl⟩
  go_upto_block 0 with (fail)
  go_cut [10] (fun v wx => ∃ A2 c2, v = .slice A2 L.length c2 ∧ Hid (Gp w1 A2 L.length c2 (fun j => j) wx))
  case first =>
    go_wp2_with fail
    go_loopw [10, 36] (fun gv iv wr => ∃ (i : Nat) (N : List Nat), i ≤ L.length ∧ iv = .int .i64 (i : Int) ∧ N.length ≤ i ∧ Hid (N = List.range i) ∧ Hid (wr.ownsRow w1.heap.size 3 1 gv N.length (nc N)) ∧ Hid (Below w1.heap.size w1 wr)) (fun _ iv _ => L.length - (intOf iv).toNat)
    case atStart => exact ⟨0, [], by omega, rfl, by simp, rfl, World.ownsRow_nil _ _ _ _, Below.refl _ _⟩
    case round =>
      obtain ⟨i, N, hi, rfl, hNl, HN, HO, HB⟩ := hrel
      obtain ⟨A2, c2, rfl⟩ := slice_of_own HO.out
      have hsz := HB.out.size
      by_cases hil : i < L.length
      case neg =>
        have hie : i = L.length := by omega
        have hd1 : decide (i < L.length) = false := by simpa using hil
        have HNE : Hid (N.length = L.length) := by show _ = _; rw [HN.out, hie]; simp
        have HGP : Hid (Gp w1 A2 L.length c2 (fun j => j) wr) := by
          refine ⟨?_, HB.out⟩
          have h1 := HO.out
          rw [HNE.out] at h1
          rw [HN.out, hie] at h1
          simpa using h1
        clear hie
        go_wp2_with fail
        go_meet
        case rel => exact ⟨A2, c2, by rw [HNE.out], HGP⟩
      have hd1 : decide (i < L.length) = true := by simpa using hil
      have HOA : Hid ((wr.alloc (.cells #[.int .i64 (i : Int)] 3)).ownsRow w1.heap.size 3 1 (.slice A2 N.length c2) N.length (nc N)) := HO.out.alloc _
      have HNX : Hid (N ++ [i] = List.range (i + 1)) := by show _ = _; rw [HN.out, List.range_succ]
      go_wp2_with (at_builtin; refine wpList_append_own _ rfl _ _ 23 rfl w1.heap.size 3 ii _ 1 8 Tryd.underlying23 HII.out.1 HII.out.2.1 HII.out.2.2.1 HII.out.2.2.2 rfl (by decide) _ _ _ rfl HOA.out ⟨wr.heap.size, 0, none⟩ 1 1 [.int .i64 (i : Int)] (by rfl) (by rfl) (World.news_of_block (cs := #[.int .i64 (i : Int)]) (t := 3) (fr := (0, 0)) (heap_alloc_new wr _)) (by simp [Value.oneCell']) (by unfold maxLen; omega) (by omega) (by simp; omega) ?_; intro v1 w5 hown2 hgrow2 _)
      have HB5 : Hid (Below w1.heap.size w1 w5) := (HB.out.alloc hsz _).grown hgrow2 (by simp; omega) (fun g hg => (HO.out.lt g hg).1)
      have HO5 : Hid (w5.ownsRow w1.heap.size 3 1 v1 (N ++ [i]).length (nc (N ++ [i]))) := by
        show World.ownsRow _ _ _ _ _ _ _
        rw [nc_snoc, List.length_append]
        exact hown2
      clear hown2 hgrow2 HOA
      have hl5 : (N ++ [i]).length ≤ i + 1 := by simp; omega
      generalize N ++ [i] = N2 at *
      go_wp2_with fail
      go_roundw
      case rel => exact ⟨i + 1, N2, by omega, by go_num, hl5, HNX, HO5, HB5⟩
      case measure => simp [intOf]; omega
  case rest =>
    obtain ⟨A2, c2, rfl, HG⟩ := hcut
    have HGC : Hid (Gp w1 A2 L.length c2 (fun j => (grpD al L.length 0).getD j 0) wc) := HG.out.congr (fun j hj => by simp [grpD, List.getD_eq_getElem?_getD, hj])
    clear HG
    go_upto_block 2 with (fail)
    go_cut [] (fun wx => Hid (Gp w1 A2 L.length c2 (fun j => (grpD al L.length L.length).getD j 0) wx))
    case first =>
      go_wp2_with fail
      go_loopw [46] (fun iv wr => ∃ i : Nat, i ≤ L.length ∧ iv = .int .i64 (i : Int) ∧ Hid (Gp w1 A2 L.length c2 (fun j => (grpD al L.length i).getD j 0) wr)) (fun iv _ => L.length - (intOf iv).toNat)
      case atStart => exact ⟨0, by omega, rfl, HGC⟩
      case round =>
        clear HGC
        obtain ⟨i, hi, rfl, HG⟩ := hrel
        by_cases hil : i < L.length
        case neg =>
          have hie : i = L.length := by omega
          have hd0 : decide (i < L.length) = false := by simpa using hil
          have HGE : Hid (Gp w1 A2 L.length c2 (fun j => (grpD al L.length L.length).getD j 0) wr) := by show Gp _ _ _ _ _ _; have := HG.out; rw [hie] at this; exact this
          clear hie
          go_wp2_with fail
          go_meet
          case rel => exact HGE
        have hd0 : decide (i < L.length) = true := by simpa using hil
        obtain ⟨g, rfl⟩ := HG.out.some (by omega)
        have HG1 : Hid (Gp w1 (some ⟨g, 0, none⟩) L.length c2 (rowG al L.length i 0) wr) := HG
        clear HG
        obtain ⟨wo, hwo⟩ : ∃ wo, wo = wr := ⟨_, rfl⟩
        subst hwo
        have j0 : (0 : Int) ≤ (i : Int) := by omega
        have j1 : (i : Int) < (L.length : Int) := by omega
        go_wp2_with fail
        go_loopw [50] (fun kv wr => ∃ k : Nat, k ≤ i ∧ kv = .int .i64 (k : Int) ∧ Hid (Gp w1 (some ⟨g, 0, none⟩) L.length c2 (rowG al L.length i k) wr)) (fun kv _ => i - (intOf kv).toNat)
        case atStart => exact ⟨0, by omega, rfl, HG1⟩
        case round =>
          clear HG1
          obtain ⟨k, hk, rfl, HK0⟩ := hrel
          have HK : Hid (Grp 3 w1 g L.length c2 (rowG al L.length i k) wr) := HK0
          clear HK0
          by_cases hki : k < i
          case neg =>
            have hke : k = i := by omega
            have hd1 : decide (k < i) = false := by simpa using hki
            have HKE : Hid (Gp w1 (some ⟨g, 0, none⟩) L.length c2 (fun j => (grpD al L.length (i + 1)).getD j 0) wr) := by show Gp _ _ _ _ _ _; have := HK.out; rw [hke] at this; exact this
            clear hke
            go_wp2_with fail
            go_roundw
            case rel => exact ⟨i + 1, by omega, by go_num, HKE⟩
            case measure => simp [intOf]; omega
          have hd1 : decide (k < i) = true := by simpa using hki
          obtain ⟨wq, hwq⟩ : ∃ wq, wq = wr := ⟨_, rfl⟩
          subst hwq
          have hkn : k < L.length := by omega
          have k0 : (0 : Int) ≤ (k : Int) := by omega
          have k1 : (k : Int) < (L.length : Int) := by omega
          have HBQ : Hid (Below w.heap.size w wq) := HB1.out.trans (HK.out.2.mono HB1.out.size)
          obtain ⟨b, off, hA, hbb, hcs⟩ := HX.out.at_ (by show 0 < L.length; omega)
          obtain rfl : A = some ⟨b, off, none⟩ := hA
          obtain ⟨ci0, ci1⟩ := hcs i hil
          obtain ⟨ck0, ck1⟩ := hcs k hkn
          have HT1 := Lib.hid (fun W (hW : Gw wq W) => HLC.out i k hil hkn W (HBQ.out.trans (Below.mono hW HBQ.out.size)))
          have hbw : b < w.heap.size := hbb
          obtain ⟨ok, hok⟩ : ∃ v, al i k = v := ⟨_, rfl⟩
          have HOKV := Lib.hid hok
          simp only [hok] at HT1
          clear hcs hok
          generalize L[i].n = n1 at *
          generalize L[i].s.a = a1 at *
          generalize L[i].s.c = cc1 at *
          generalize L[i].s.xs = xs at *
          generalize L[k].n = n2 at *
          generalize L[k].s.a = a2 at *
          generalize L[k].s.c = cc2 at *
          generalize L[k].s.xs = ys at *
          obtain ⟨h1t, hh1⟩ : ∃ v, (hEnd n1 xs ys least).2 = v := ⟨_, rfl⟩
          simp only [hh1] at HT1
          clear hh1
          obtain ⟨p1, p2, p3, p4⟩ := h1t
          simp only [Ht.v] at HT1
          have HS : Hid (∀ W, Gw wq W → W.cell? ⟨b, off + i * 2, none⟩ = some (.string n1) ∧ W.cell? ⟨b, off + i * 2 + 1, none⟩ = some (.slice a1 xs.length cc1) ∧ W.cell? ⟨b, off + k * 2, none⟩ = some (.string n2) ∧ W.cell? ⟨b, off + k * 2 + 1, none⟩ = some (.slice a2 ys.length cc2) ∧ Gw wq W) := fun W hW => by
            have hBW := HBQ.out.trans (Below.mono hW HBQ.out.size)
            have e1 : ∀ j : Nat, W.cell? ⟨b, j, none⟩ = w.cell? ⟨b, j, none⟩ := fun j => hBW.cell (by exact hbw)
            rw [e1, e1, e1, e1]
            exact ⟨ci0, ci1, ck0, ck1, hW⟩
          have HTG1 := Lib.hid (fun (W : World) (hW : Gw wq W) => call_gw HT1.out W hW)
          have HTA1 := Lib.hid (fun (W : World) (hW : Gw wq W) => call_new HT1.out W hW)
          have hBD : Gw wq wq.drew := (Below.refl _ _).drew
          have hBR : Gw wq wq := Below.refl _ _
          clear ci0 ci1 ck0 ck1
          go_upto_region 19 with (fail)
          go_cut [15] (fun v W => v = .bool ok ∧ Hid (Gw wq W))
          case first =>
            go_region_held3 (fun W => W.cell? ⟨b, off + i * 2, none⟩ = some (.string n1) ∧ W.cell? ⟨b, off + i * 2 + 1, none⟩ = some (.slice a1 xs.length cc1) ∧ W.cell? ⟨b, off + k * 2, none⟩ = some (.string n2) ∧ W.cell? ⟨b, off + k * 2 + 1, none⟩ = some (.slice a2 ys.length cc2) ∧ Gw wq W)
              (first | exact HS.out _ hBD | exact HS.out _ hqB | (refine HS.out _ ?_; repeat (first | exact hqB | exact hBD | exact hBR | refine Gw.alloc ?_ _ | refine Gw.drew ?_ | refine Gw.set ?_ (by first | omega | (simp; done) | (simp; omega) | (have := Below.size hqB; simp; omega)) _)))
              (first | (go_at_call 23; with_reducible refine (HTA1.out _ hBR).mono ?_; rintro e wA ⟨rfl, hqB, z0, z1, z2, z3, y0, y1, y2, y3, hqz⟩) | (go_at_call 23; refine (HTG1.out _ (by first | assumption | (go_split_ands; assumption))).mono ?_; rintro e wA ⟨rfl, hqB⟩))
            all_goals
              go_wp2_with fail
              go_meet
              case rel =>
                refine ⟨rfl, ?_⟩
                show Gw _ _
                repeat (first | exact hqB | exact hBD | exact hBR | refine Gw.alloc ?_ _ | refine Gw.drew ?_ | refine Gw.set ?_ (by first | omega | (simp; done) | (simp; omega) | (have := Below.size hqB; simp; omega)) _)
          case rest =>
            obtain ⟨rfl, hgc⟩ := hcut
            have HKA : Hid (Grp 3 w1 g L.length c2 (rowG al L.length i k) wc) := HK.out.below hgc.out
            have yi := HKA.out.cell hil
            have yk := HKA.out.cell hkn
            have HSAME := Lib.hid (@rowG_same al L.length i k)
            have HMIX := Lib.hid (@mixG_end al L.length i k hil hki)
            obtain ⟨a, ha⟩ : ∃ a, rowG al L.length i k i = a := ⟨_, rfl⟩
            obtain ⟨b', hb'⟩ : ∃ b', rowG al L.length i k k = b' := ⟨_, rfl⟩
            rw [ha] at yi HSAME HMIX
            rw [hb'] at yk HSAME HMIX
            clear ha hb' HS HTG1 HTA1 hBD hBR HT1 HK hgc HBQ
            cases ok with
            | false =>
              have HN : Hid (Gp w1 (some ⟨g, 0, none⟩) L.length c2 (rowG al L.length i (k + 1)) wc) := HKA.out.congr (fun j _ => (HSAME.out j (.inr HOKV.out)).symm)
              go_wp2_with fail
              go_quiet (fail)
              go_wp2_with fail
              go_roundw
              case rel => exact ⟨k + 1, by omega, by go_num, Gp.below HN.out (below_drewN (Below.refl _ _) _)⟩
              case measure => simp [intOf]; omega
            | true =>
              by_cases hab : a = b'
              · have HN : Hid (Gp w1 (some ⟨g, 0, none⟩) L.length c2 (rowG al L.length i (k + 1)) wc) := HKA.out.congr (fun j _ => (HSAME.out j (.inl hab)).symm)
                have hne : ((a : Int) == (b' : Int)) = true := by simp [hab]
                clear hab
                go_wp2_with fail
                go_quiet (fail)
                go_wp2_with fail
                go_roundw
                case rel => exact ⟨k + 1, by omega, by go_num, Gp.below HN.out (below_drewN (Below.refl _ _) _)⟩
                case measure => simp [intOf]; omega
              have hne : ((a : Int) == (b' : Int)) = false := by simp; omega
              obtain ⟨M, hM⟩ : ∃ M, M = max a b' := ⟨_, rfl⟩
              obtain ⟨m, hm⟩ : ∃ m, m = min a b' := ⟨_, rfl⟩
              have hmx : max (a : Int) (b' : Int) = (M : Int) := by omega
              have hmn : min (a : Int) (b' : Int) = (m : Int) := by omega
              have HEND : Hid (∀ j, j < L.length → mixG al L.length i k M m L.length j = rowG al L.length i (k + 1) j) := fun j hj => HMIX.out j hj hab HOKV.out hM hm
              clear hM hm hab
              go_wp2_with fail
              go_quiet (fail)
              obtain ⟨n1q, hn1q⟩ : ∃ n1q, n1q = nq := ⟨_, rfl⟩
              rw [← hn1q]
              clear hn1q
              go_upto_region 21 with (fail)
              go_quiet (fail)
              go_wp2_with fail
              have HKB : Hid (Grp 3 w1 g L.length c2 (mixG al L.length i k M m 0) (wc.drewN (n1q + nq))) := (HKA.out.below (below_drewN (Below.refl _ _) _)).congr (fun j _ => by unfold mixG; rw [if_neg (by omega)])
              generalize wc.drewN (n1q + nq) = wB at HKB ⊢
              clear yi yk hmx hmn HKA
              go_loopw [101] (fun pv wr => ∃ p : Nat, p ≤ L.length ∧ pv = .int .i64 (p : Int) ∧ Hid (Grp 3 w1 g L.length c2 (mixG al L.length i k M m p) wr)) (fun pv _ => L.length - (intOf pv).toNat)
              case atStart => exact ⟨0, by omega, rfl, HKB⟩
              case round =>
                clear HKB
                obtain ⟨p, hp, rfl, HP⟩ := hrel
                by_cases hpi : p < L.length
                case neg =>
                  have hpe : p = L.length := by omega
                  have hd2 : decide (p < L.length) = false := by simpa using hpi
                  have HN : Hid (Gp w1 (some ⟨g, 0, none⟩) L.length c2 (rowG al L.length i (k + 1)) wr) := HP.out.congr (fun j hj => by rw [hpe]; exact HEND.out j hj)
                  clear hpe
                  go_wp2_with fail
                  go_roundw
                  case rel => exact ⟨k + 1, by omega, by go_num, HN⟩
                  case measure => simp [intOf]; omega
                have hd2 : decide (p < L.length) = true := by simpa using hpi
                have yp := HP.out.cell hpi
                have zp := HP.out.frozen p
                have hgp := HP.out.lt
                have epp : mixG al L.length i k M m p p = rowG al L.length i k p := by unfold mixG; rw [if_neg (by omega)]
                rw [epp] at yp
                obtain ⟨u, hu⟩ : ∃ u, rowG al L.length i k p = u := ⟨_, rfl⟩
                rw [hu] at yp
                have HU := Lib.hid hu
                have HEPP := Lib.hid epp
                clear hu epp
                have p0 : (0 : Int) ≤ (p : Int) := by omega
                have p1 : (p : Int) < (L.length : Int) := by omega
                by_cases hum : u = M
                · have HN : Hid (Grp 3 w1 g L.length c2 (mixG al L.length i k M m (p + 1)) (wr.setCell ⟨g, p, none⟩ (.int .i64 (m : Int)))) := HP.out.store p m (fun j _ => by rw [mixG_step, HU.out, if_pos hum])
                  subst hum
                  go_wp2_with fail
                  go_roundw
                  case rel => exact ⟨p + 1, by omega, by go_num, HN⟩
                  case measure => simp [intOf]; omega
                · have hub : ((u : Int) == (M : Int)) = false := by simp; omega
                  have hub2 : (u == M) = false := by simp [hum]
                  have HN : Hid (Grp 3 w1 g L.length c2 (mixG al L.length i k M m (p + 1)) wr) := HP.out.congr (fun j _ => by
                    rw [mixG_step, HU.out, if_neg hum]
                    by_cases hjp : j = p
                    · subst hjp; rw [if_pos rfl, HEPP.out, HU.out]
                    · rw [if_neg hjp])
                  go_wp2_with fail
                  go_roundw
                  case rel => exact ⟨p + 1, by omega, by go_num, HN⟩
                  case measure => simp [intOf]; omega
    case rest =>
      have HGS := hcut
      obtain ⟨st, hst⟩ : ∃ st, grpD al L.length L.length = st := ⟨_, rfl⟩
      rw [hst] at HGS HR
      have HBW := Lib.hid (HB1.out.trans (HGS.out.2.mono HB1.out.size))
      clear hst hcut HLC HCF HST
      go_wp2_with fail
      go_loopw [19, 119] (fun ov qv wr => ∃ (q : Nat) (G : List Rw), q ≤ L.length ∧ qv = .int .i64 (q : Int) ∧ G.length ≤ q ∧ Hid (wr.ownsRow wc.heap.size 54 1 ov G.length (G.map Rw.v)) ∧ Hid (Rws wr ov.ownBlock G) ∧ Hid (G.map Rw.cs = ((outD st L.length q).map (namesF (L.map Mk.p))).map sc) ∧ Hid (Below wc.heap.size wc wr)) (fun _ qv _ => L.length - (intOf qv).toNat)
      case atStart => exact ⟨0, [], by omega, rfl, by simp, World.ownsRow_nil _ _ _ _, (fun s hs => by cases hs), rfl, Below.refl _ _⟩
      case round =>
        obtain ⟨q, G, hq, rfl, hGl, HO, HR2, HE, HB⟩ := hrel
        obtain ⟨A3, c3, rfl⟩ := slice_of_own HO.out
        obtain ⟨wo, hwo⟩ : ∃ wo, wo = wr := ⟨_, rfl⟩
        subst hwo
        by_cases hqn : q < L.length
        case neg =>
          have hqe : q = L.length := by omega
          have hd0 : decide (q < L.length) = false := by simpa using hqn
          have HP : Hid (DblPost w (dblF (L.map Mk.p) least percent) (.returned (.tuple #[.slice A3 G.length c3, .int .i64 0])) wo) := dblPost_some HR.out rfl (Rd.of_own HO.out) HR2.out.rd (by rw [HE.out, hqe]) (HBW.out.trans (HB.out.mono HBW.out.size))
          clear hqe
          go_wp2_with fail
          go_ret2
          exact HP.out
        have hd0 : decide (q < L.length) = true := by simpa using hqn
        obtain ⟨g, rfl⟩ := HGS.out.some (by omega)
        have HGG : Hid (Grp 3 w1 g L.length c2 (fun j => st.getD j 0) wc) := HGS
        have hszo := HB.out.size
        go_wp2_with fail
        go_loopw [21, 124] (fun nv iv wr => ∃ (i : Nat) (N : List ByteArray), i ≤ L.length ∧ iv = .int .i64 (i : Int) ∧ N.length ≤ i ∧ Hid (N = namesF (L.map Mk.p) (mem1 st q i)) ∧ Hid (wr.ownsRow wo.heap.size 9 1 nv N.length (sc N)) ∧ Hid (Below wo.heap.size wo wr)) (fun _ iv _ => L.length - (intOf iv).toNat)
        case atStart => exact ⟨0, [], by omega, rfl, by simp, rfl, World.ownsRow_nil _ _ _ _, Below.refl _ _⟩
        case round =>
          obtain ⟨i, N, hi, rfl, hNl, HN, HNO, HNB⟩ := hrel
          obtain ⟨A4, c4, rfl⟩ := slice_of_own HNO.out
          have hszr := HNB.out.size
          by_cases hil : i < L.length
          case neg =>
            have hie : i = L.length := by omega
            have hd1 : decide (i < L.length) = false := by simpa using hil
            have HNE : Hid (N = namesF (L.map Mk.p) (mem1 st q L.length)) := by show _ = _; rw [HN.out, hie]
            have HNL : Hid (N.length = (mem1 st q L.length).length) := by show _ = _; rw [HNE.out]; simp [namesF]
            clear hie
            by_cases hbig : 1 < N.length
            case neg =>
              have hd2 : decide (1 < N.length) = false := by simpa using hbig
              have hd3 : decide ((1 : Int) < (N.length : Int)) = false := by simp; omega
              have HNX : Hid (outD st L.length (q + 1) = outD st L.length q) := by show _ = _; rw [outD, if_neg (by rw [← HNL.out]; exact hbig)]
              clear hbig
              go_wp2_with fail
              go_roundw
              case rel => exact ⟨q + 1, G, by omega, by go_num, by omega, own_belowL HO.out HNB.out, HR2.out.below HNB.out, by rw [HNX.out]; exact HE, HB.out.trans (HNB.out.mono hszo)⟩
              case measure => simp [intOf]; omega
            have hd2 : decide (1 < N.length) = true := by simpa using hbig
            have hd3 : decide ((1 : Int) < (N.length : Int)) = true := by simp; omega
            have HNX : Hid (outD st L.length (q + 1) = outD st L.length q ++ [mem1 st q L.length]) := by show _ = _; rw [outD, if_pos (by rw [← HNL.out]; exact hbig)]
            clear hbig
            have HOA : Hid ((wr.alloc (.cells #[.slice A4 N.length c4] 54)).ownsRow wc.heap.size 54 1 (.slice A3 G.length c3) G.length (G.map Rw.v)) := (own_belowL HO.out HNB.out).alloc _
            have HRA : Hid (Rws (wr.alloc (.cells #[.slice A4 N.length c4] 54)) (Value.slice A3 G.length c3).ownBlock (G ++ [⟨A4, c4, sc N⟩])) := by
              refine Rws.below (Rws.snoc (HR2.out.below HNB.out) ?_) ((Below.refl _ _).alloc (Nat.le_refl _) _)
              exact rds_own HNO.out (fun k hk => (HO.out.lt k hk).2)
            have HBA2 : Hid (Below wc.heap.size wc (wr.alloc (.cells #[.slice A4 N.length c4] 54))) := (HB.out.trans (HNB.out.mono hszo)).alloc (by omega) _
            have hGl2 : G.length ≤ 50 := by omega
            go_wp2_with (at_builtin; refine wpList_append_lies _ rfl _ _ 32 rfl wc.heap.size 54 ir _ 1 24 Tryd.underlying32 HIR.out.1 HIR.out.2.1 HIR.out.2.2.1 HIR.out.2.2.2 rfl (by decide) _ _ _ rfl HOA.out ⟨wr.heap.size, 0, none⟩ 1 1 [.slice A4 N.length c4] (by rfl) (by rfl) (World.news_of_block (cs := #[.slice A4 N.length c4]) (t := 54) (fr := (0, 0)) (heap_alloc_new wr _)) (by simp [Value.oneCell']) (by decide) (by unfold maxLen; omega) (by omega) (by simp; omega) (wr.heap.size + 1) (by simp) ?_; intro g2 cap2 w5 hown2 hgrow2 hat2 hlt2)
            have HO2 : Hid (w5.ownsRow wc.heap.size 54 1 (.slice (some ⟨g2, 0, none⟩) (G ++ [(⟨A4, c4, sc N⟩ : Rw)]).length cap2) (G ++ [(⟨A4, c4, sc N⟩ : Rw)]).length ((G ++ [(⟨A4, c4, sc N⟩ : Rw)]).map Rw.v)) := by
              show World.ownsRow _ _ _ _ _ _ _
              rw [List.length_append, List.map_append]
              have e1 : Rw.v ⟨A4, c4, sc N⟩ = .slice A4 N.length c4 := by unfold Rw.v; rw [sc_len]
              rw [List.map_cons, e1]
              exact hown2
            have HR3 : Hid (Rws w5 (some g2) (G ++ [⟨A4, c4, sc N⟩])) := HRA.out.app hgrow2 (by rw [show (wr.alloc (.cells #[.slice A4 N.length c4] 54)).heap.size = wr.heap.size + 1 by simp]; exact hat2)
            have HB3 : Hid (Below wc.heap.size wc w5) := HBA2.out.grown hgrow2 (by simp; omega) (fun k hk => (HO.out.lt k hk).1)
            have HE3 : Hid ((G ++ [(⟨A4, c4, sc N⟩ : Rw)]).map Rw.cs = ((outD st L.length (q + 1)).map (namesF (L.map Mk.p))).map sc) := by show _ = _; rw [List.map_append, HE.out, HNX.out, List.map_append, List.map_append, HNE.out]; rfl
            have hl3 : (G ++ [(⟨A4, c4, sc N⟩ : Rw)]).length = G.length + 1 := by simp
            have hl4 : (G ++ [(⟨A4, c4, sc N⟩ : Rw)]).length ≤ q + 1 := by omega
            generalize G ++ [(⟨A4, c4, sc N⟩ : Rw)] = G3 at *
            have HL3 := Lib.hid hl3
            clear hown2 hgrow2 hat2 HOA HRA HBA2 hl3
            go_wp2_with fail
            go_roundw
            case rel => exact ⟨q + 1, G3, by omega, by go_num, hl4, by rw [← HL3.out]; exact HO2, HR3, HE3, HB3⟩
            case measure => simp [intOf]; omega
          have hd1 : decide (i < L.length) = true := by simpa using hil
          have hgc := HGG.out.lt
          have yi : wr.cell? ⟨g, i, none⟩ = some (.int .i64 (st.getD i 0 : Int)) := by rw [HNB.out.cell (by show g < _; omega), HB.out.cell (by exact hgc)]; exact HGG.out.cell hil
          obtain ⟨u, hu⟩ : ∃ u, st.getD i 0 = u := ⟨_, rfl⟩
          have HM1 : Hid (mem1 st q (i + 1) = if u = q then mem1 st q i ++ [i] else mem1 st q i) := by show _ = _; rw [mem1, hu]
          rw [hu] at yi
          clear hu
          have p0 : (0 : Int) ≤ (i : Int) := by omega
          have p1 : (i : Int) < (L.length : Int) := by omega
          by_cases huq : u = q
          · have HM2 : Hid (namesF (L.map Mk.p) (mem1 st q (i + 1)) = N ++ [L[i].n]) := by
              show _ = _; rw [HM1.out, if_pos huq]
              unfold namesF
              rw [List.map_append, HN.out]
              unfold namesF
              rw [List.map_cons, HNM.out i hil]; rfl
            obtain ⟨b, off, hA, hbb, hcs⟩ := HX.out.at_ (by show 0 < L.length; omega)
            obtain rfl : A = some ⟨b, off, none⟩ := hA
            have cn : wr.cell? ⟨b, off + i * 2, none⟩ = some (.string L[i].n) := by rw [(HBW.out.trans ((HB.out.trans (HNB.out.mono hszo)).mono HBW.out.size)).cell (by exact hbb)]; exact (hcs i hil).1
            generalize L[i].n = nm at *
            have HLA : Hid ((wr.alloc (.cells #[.string nm] 9)).ownsRow wo.heap.size 9 1 (.slice A4 N.length c4) N.length (sc N)) := HNO.out.alloc _
            subst huq
            clear hcs
            have hNl2 : N.length ≤ 50 := by omega
            go_wp2_with (at_builtin; refine wpList_append_own _ rfl _ _ 54 rfl wo.heap.size 9 is _ 1 16 Tryd.underlying54 HIS.out.1 HIS.out.2.1 HIS.out.2.2.1 HIS.out.2.2.2 rfl (by decide) _ _ _ rfl HLA.out ⟨wr.heap.size, 0, none⟩ 1 1 [.string nm] (by rfl) (by rfl) (World.news_of_block (cs := #[.string nm]) (t := 9) (fr := (0, 0)) (heap_alloc_new wr _)) (by simp [Value.oneCell']) (by unfold maxLen; omega) (by omega) (by simp; omega) ?_; intro v1 w5 hown2 hgrow2 _)
            have HB5 : Hid (Below wo.heap.size wo w5) := (HNB.out.alloc hszr _).grown hgrow2 (by simp; omega) (fun g hg => (HNO.out.lt g hg).1)
            have HO5 : Hid (w5.ownsRow wo.heap.size 9 1 v1 (N ++ [nm]).length (sc (N ++ [nm]))) := by
              show World.ownsRow _ _ _ _ _ _ _
              rw [sc_snoc, List.length_append]
              exact hown2
            clear hown2 hgrow2 HLA
            have hl5 : (N ++ [nm]).length ≤ i + 1 := by simp; omega
            generalize N ++ [nm] = N2 at *
            go_wp2_with fail
            go_roundw
            case rel => exact ⟨i + 1, N2, by omega, by go_num, hl5, HM2.out.symm, HO5, HB5⟩
            case measure => simp [intOf]; omega
          · have hub : ((u : Int) == (q : Int)) = false := by simp; omega
            have hub2 : (u == q) = false := by simp [huq]
            have HM2 : Hid (namesF (L.map Mk.p) (mem1 st q (i + 1)) = N) := by show _ = _; rw [HM1.out, if_neg huq, ← HN.out]
            go_wp2_with fail
            go_roundw
            case rel => exact ⟨i + 1, N, by omega, by go_num, by omega, HM2.out.symm, HNO, HNB⟩
            case measure => simp [intOf]; omega
end Go.Proofs.YtgjmjdpddionmaaDoor
