/- The contract of match.Doubles. -/
import Derived.Test.YtgjmjdpddionmaaDoorGrpA
namespace Go.Proofs.YtgjmjdpddionmaaDoor
open Go.RowKit Go.Dw
attribute [local go_sem ↓] Go.wp_at_zero Go.wp_at_succ

theorem info_str : (Tryd.prog.info? 9).map (fun i => (i.zero, i.size, i.bytes)) = some (some (.string ⟨#[]⟩), 1, 16) := by kernel_rfl
theorem info_strs : (Tryd.prog.info? 54).map (fun i => (i.zero, i.size, i.bytes)) = some (some (.slice none 0 0), 1, 24) := by kernel_rfl
/-- strings as cells -/
def sc (l : List ByteArray) : List Value := l.map Value.string
theorem sc_len (l : List ByteArray) : (sc l).length = l.length := by simp [sc]
theorem sc_snoc (l : List ByteArray) (x : ByteArray) : sc (l ++ [x]) = sc l ++ [.string x] := by simp [sc]
/-- which are alike -/
def alF (L : List (ByteArray × List Int)) (least percent : Int) (i k : Nat) : Bool := hOk (L.getD i dP).1 (L.getD i dP).2 (L.getD k dP).2 least percent
def namesF (L : List (ByteArray × List Int)) (g : List Nat) : List ByteArray := g.map fun i => (L.getD i dP).1
/-- what Doubles answers -/
def dblF (L : List (ByteArray × List Int)) (least percent : Int) : List (List ByteArray) × Int :=
  if stoF L ≠ 0 then ([], stoF L) else if fdF least percent ≠ 0 then ([], fdF least percent) else ((grpsF (alF L least percent) L.length).map (namesF L), 0)
/-- rows of strings and a fault -/
def DblPost (w : World) (R : List (List ByteArray) × Int) (e : Ending) (w' : World) : Prop :=
  ∃ (A : Option Addr) (c : Nat) (G : List Rw), e = .returned (.tuple #[.slice A G.length c, .int .i64 R.2]) ∧ Rd w' A (G.map Rw.v) ∧ (∀ s ∈ G, Rd w' s.a s.cs) ∧ G.map Rw.cs = R.1.map sc ∧ Below w.heap.size w w'
theorem dblPost_none {w w' : World} {f : Int} {R : List (List ByteArray) × Int} (hr : R = ([], f)) (hb : Below w.heap.size w w') : DblPost w R (.returned (.tuple #[.slice none 0 0, .int .i64 f])) w' := by
  subst hr; exact ⟨none, 0, [], rfl, .inl rfl, (fun s hs => by cases hs), rfl, hb⟩
theorem dblPost_some {w w' : World} {A : Option Addr} {c n : Nat} {G : List Rw} {l : List (List ByteArray)} {R : List (List ByteArray) × Int} (hr : R = (l, 0)) (hn : n = G.length) (h1 : Rd w' A (G.map Rw.v)) (h2 : ∀ s ∈ G, Rd w' s.a s.cs) (h3 : G.map Rw.cs = l.map sc) (hb : Below w.heap.size w w') :
    DblPost w R (.returned (.tuple #[.slice A n c, .int .i64 0])) w' := by
  subst hr hn; exact ⟨A, c, G, rfl, h1, h2, h3, hb⟩
theorem mkOk_of {x : Slc Mk} (h : stoF (x.xs.map Mk.p) = 0) : MkOk x := fun k hk => by
  have := (stoF_zero h).2.1 k (by simpa using hk)
  rw [mkp_at _ _ hk] at this
  obtain ⟨q1, q2⟩ := chk_zero this
  exact ⟨q2, by show x.xs[k].s.xs.length ≤ 500; simp only at q1; omega⟩
theorem alF_at (x : Slc Mk) (least percent : Int) {i k : Nat} (hi : i < x.xs.length) (hk : k < x.xs.length) : alF (x.xs.map Mk.p) least percent i k = hOk x.xs[i].n x.xs[i].s.xs x.xs[k].s.xs least percent := by
  unfold alF; rw [mkp_at _ _ hi, mkp_at _ _ hk]
theorem grps_lt (al : Nat → Nat → Bool) (n : Nat) : (grpsF al n).length ≤ n ∧ ∀ l ∈ grpsF al n, l.length ≤ n ∧ ∀ x ∈ l, x < n := outD_len _ _ _
theorem take_map_succ {α β : Type} (f : α → β) (l : List α) (k : Nat) (h : k < l.length) : (l.take (k + 1)).map f = (l.take k).map f ++ [f l[k]] := by
  rw [List.take_succ_eq_append_getElem h, List.map_append]; rfl
set_option maxRecDepth 100000 in
set_option maxHeartbeats 4000000 in
theorem doubles_any (x : Slc Mk) (least percent : Int) (w : World) (h : Sto w x) :
    Calls Tryd.prog 9 #[x.v, .int .i64 least, .int .i64 percent] w (DblPost w (dblF (x.xs.map Mk.p) least percent)) := by
  obtain ⟨w1, hw1⟩ : ∃ w1, w1 = ((w.alloc (.cells #[x.v] 22)).alloc (.cells #[.int .i64 least] 3)).alloc (.cells #[.int .i64 percent] 3) := ⟨_, rfl⟩
  have hb1 : Below w.heap.size w w1 := by rw [hw1]; exact (((Below.refl _ _).alloc (Nat.le_refl _) _).alloc (by simp) _).alloc (by simp; omega) _
  have HB1 := Lib.hid hb1
  have hk3 : w1.cell? ⟨w.heap.size, 0, none⟩ = some x.v := by
    rw [hw1, World.cell?_alloc_past _ _ _ (by simp; omega), World.cell?_alloc_past _ _ _ (by simp)]; exact new_cell (cs := [_]) rfl rfl
  have hk4 : w1.cell? ⟨w.heap.size + 1, 0, none⟩ = some (.int .i64 least) := by
    rw [hw1, World.cell?_alloc_past _ _ _ (by simp)]; exact new_cell (cs := [_]) (by simp) rfl
  have hk5 : w1.cell? ⟨w.heap.size + 2, 0, none⟩ = some (.int .i64 percent) := by
    rw [hw1]; exact new_cell (cs := [_]) (by simp) rfl
  have hsz1 : w1.heap.size = w.heap.size + 3 := by rw [hw1]; simp
  have HSZ1 := Lib.hid hsz1
  have HCK : Hid (∀ W, Below w1.heap.size w1 W → W.cell? ⟨w.heap.size, 0, none⟩ = some x.v ∧ W.cell? ⟨w.heap.size + 1, 0, none⟩ = some (.int .i64 least) ∧ W.cell? ⟨w.heap.size + 2, 0, none⟩ = some (.int .i64 percent)) := fun W hW => by
    rw [hW.cell (by show w.heap.size < _; omega), hW.cell (by show w.heap.size + 1 < _; omega), hW.cell (by show w.heap.size + 2 < _; omega)]
    exact ⟨hk3, hk4, hk5⟩
  have HST := Lib.hid (store_any x w1 (h.below hb1))
  have HW1 := Lib.hid hw1
  by_cases hz1 : stoF (x.xs.map Mk.p) = 0
  case neg =>
    have HR : Hid (dblF (x.xs.map Mk.p) least percent = ([], stoF (x.xs.map Mk.p))) := by show _ = _; unfold dblF; rw [if_pos hz1]
    have hzb : (stoF (x.xs.map Mk.p) != 0) = true := by simpa using hz1
    clear hz1 hb1 hk4 hk5 hsz1 hw1
    simp only [Slc.v] at *
    go_enter Tryd.func9, Tryd.ntmps9
    go_upto_region 1 with (fail)
    rw [← HW1.out]
    go_wp2_with fail
    refine HST.out.mono ?_
    rintro e w2 ⟨rfl, hb2⟩
    have HB2 := Lib.hid (HB1.out.trans (hb2.mono HB1.out.size))
    clear hb2
    go_wp2_with fail
    go_ret2
    exact dblPost_none HR.out HB2.out
  rw [hz1] at HST
  have HCF := Lib.hid (fun W => checkFind_any least percent W)
  by_cases hz3 : fdF least percent = 0
  case neg =>
    have HR : Hid (dblF (x.xs.map Mk.p) least percent = ([], fdF least percent)) := by show _ = _; unfold dblF; rw [if_neg (fun hh => hh hz1), if_pos hz3]
    have hzb : (fdF least percent != 0) = true := by simpa using hz3
    clear hz1 hz3 hb1 hk4 hk5 hsz1 hw1
    simp only [Slc.v] at *
    go_enter Tryd.func9, Tryd.ntmps9
    go_upto_region 1 with (fail)
    rw [← HW1.out]
    go_wp2_with fail
    refine HST.out.mono ?_
    rintro e w2 ⟨rfl, hb2⟩
    have HB2 := Lib.hid (HB1.out.trans (hb2.mono HB1.out.size))
    obtain ⟨g3, g4, g5⟩ := HCK.out _ hb2
    clear hb2 hk3
    go_wp2_with fail
    refine (HCF.out _).mono ?_
    rintro e w3 ⟨rfl, rfl⟩
    go_wp2_with fail
    go_ret2
    exact dblPost_none HR.out HB2.out
  rw [hz3] at HCF
  obtain ⟨g1, g2, g3, g4⟩ := fdF_zero hz3
  have hn50 : x.xs.length ≤ 50 := by have := (stoF_zero hz1).1; rwa [List.length_map] at this
  have HR : Hid (dblF (x.xs.map Mk.p) least percent = ((grpsF (alF (x.xs.map Mk.p) least percent) x.xs.length).map (namesF (x.xs.map Mk.p)), 0)) := by show _ = _; unfold dblF; rw [if_neg (fun hh => hh hz1), if_neg (fun hh => hh hz3), List.length_map]
  have HGRP : Hid (∀ W, Below w1.heap.size w1 W → Calls Tryd.prog 28 #[.int .i64 (x.xs.length : Int), .func (.func 29) #[] #[.pointer (some ⟨w.heap.size, 0, none⟩), .pointer (some ⟨w.heap.size + 1, 0, none⟩), .pointer (some ⟨w.heap.size + 2, 0, none⟩)]] W (GrpPost W (grpsF (alF (x.xs.map Mk.p) least percent) x.xs.length))) := fun W hW => by
    refine groups_any x.xs.length _ _ _ _ W hn50 (fun W2 hW2 i k hi hk => ?_)
    have hb2 := hW.trans (Below.mono hW2 hW.size)
    obtain ⟨q3, q4, q5⟩ := HCK.out W2 hb2
    refine (alike_any x k i w.heap.size (w.heap.size + 1) (w.heap.size + 2) least percent W2 ((h.below hb1).below hb2) (mkOk_of hz1) (by omega) hi g1 g3 g4 q3 q4 q5).mono ?_
    rintro e w' ⟨he, hb⟩
    refine ⟨?_, hb⟩
    rw [he, alF_at x least percent hi (by omega), hOk_flip x.xs[k].n x.xs[i].n x.xs[k].s.xs x.xs[i].s.xs percent g1]
  obtain ⟨R0, hR0⟩ : ∃ R0, grpsF (alF (x.xs.map Mk.p) least percent) x.xs.length = R0 := ⟨_, rfl⟩
  have HGL : Hid (R0.length ≤ x.xs.length ∧ ∀ l ∈ R0, l.length ≤ x.xs.length ∧ ∀ y ∈ l, y < x.xs.length) := by have := grps_lt (alF (x.xs.map Mk.p) least percent) x.xs.length; rw [hR0] at this; exact this
  have HX := Lib.hid h
  have HNM : Hid (∀ k (hk : k < x.xs.length), ((x.xs.map Mk.p).getD k dP).1 = x.xs[k].n) := fun k hk => by rw [mkp_at _ _ hk]
  simp only [hR0] at HGRP HR
  clear hz1 hz3 hb1 hk4 hk5 hsz1 hw1 hR0 h g1 g2 g3 g4
  obtain ⟨A, c, L⟩ := x
  simp only [Slc.v] at *
  obtain ⟨is, his, hzs0, hzs1, hzs2⟩ := info_parts info_str
  obtain ⟨ir, hir, hzr0, hzr1, hzr2⟩ := info_parts info_strs
  have HIS := Lib.hid (And.intro his (And.intro hzs0 (And.intro hzs1 hzs2)))
  have HIR := Lib.hid (And.intro hir (And.intro hzr0 (And.intro hzr1 hzr2)))
  clear his hzs0 hzs1 hzs2 hir hzr0 hzr1 hzr2
  obtain ⟨bx, hbx⟩ : ∃ bx, bx = w.heap.size := ⟨_, rfl⟩
  go_enter Tryd.func9, Tryd.ntmps9
  go_upto_region 1 with (fail)
  rw [← HW1.out]
  go_wp2_with fail
  refine HST.out.mono ?_
  rintro e w2 ⟨rfl, hb2⟩
  obtain ⟨k3, k4, k5⟩ := HCK.out _ hb2
  have HB2 := Lib.hid hb2
  clear hb2 hk3
  go_wp2_with fail
  refine (HCF.out _).mono ?_
  rintro e w3 ⟨rfl, rfl⟩
  go_wp2_with fail
  refine (HGRP.out _ HB2.out).mono ?_
  rintro e w4 ⟨A2, c2, G2, rfl, hrd2, hrs2, hE2, hb4⟩
  have HRD2 := Lib.hid hrd2
  have HRS2 := Lib.hid hrs2
  have HE2 := Lib.hid hE2
  have HBA := Lib.hid (HB2.out.trans (hb4.mono HB2.out.size))
  have HBW := Lib.hid (HB1.out.trans (HBA.out.mono HB1.out.size))
  have HLE : Hid (G2.length = R0.length) := by show _ = _; have := congrArg List.length hE2; simpa using this
  clear hrd2 hrs2 hE2 hb4 k3 k4 k5
  go_wp2_with fail
  go_loopw [10, 32] (fun ov qv wr => ∃ (q : Nat) (G : List Rw), q ≤ G2.length ∧ qv = .int .i64 (q : Int) ∧ G.length ≤ q ∧ Hid (wr.ownsRow w4.heap.size 54 1 ov G.length (G.map Rw.v)) ∧ Hid (Rws wr ov.ownBlock G) ∧ Hid (G.map Rw.cs = ((R0.take q).map (namesF (L.map Mk.p))).map sc) ∧ Hid (Below w4.heap.size w4 wr)) (fun _ qv _ => G2.length - (intOf qv).toNat)
  case atStart => exact ⟨0, [], by omega, rfl, by simp, World.ownsRow_nil _ _ _ _, (fun s hs => by cases hs), rfl, Below.refl _ _⟩
  case round =>
    obtain ⟨q, G, hq, rfl, hGl, HO, HR2, HE, HB⟩ := hrel
    obtain ⟨A3, c3, rfl⟩ := slice_of_own HO.out
    obtain ⟨wo, hwo⟩ : ∃ wo, wo = wr := ⟨_, rfl⟩
    subst hwo
    by_cases hqn : q < G2.length
    case neg =>
      have hqe : q = R0.length := by have := HLE.out; omega
      have hd0 : decide (q < G2.length) = false := by simpa using hqn
      have HP : Hid (DblPost w (dblF (L.map Mk.p) least percent) (.returned (.tuple #[.slice A3 G.length c3, .int .i64 0])) wo) := dblPost_some HR.out rfl (Rd.of_own HO.out) HR2.out.rd (by rw [HE.out, hqe, List.take_of_length_le (Nat.le_refl _)]) (HBW.out.trans (HB.out.mono HBW.out.size))
      clear hqe
      go_wp2_with fail
      go_ret2
      exact HP.out
    have hd0 : decide (q < G2.length) = true := by simpa using hqn
    have hq50 : q < R0.length := by have := HLE.out; omega
    have hgb := HGL.out.1
    have hcsq : G2[q].cs = nc R0[q] := by
      have := congrArg (fun l => l[q]?) HE2.out
      simpa [hqn, hq50] using this
    obtain ⟨b2, off2, rfl, hbb2, hcc2⟩ := HRD2.out.at_ (by simp; omega)
    have cq : wo.cell? ⟨b2, off2 + q, none⟩ = some G2[q].v := by rw [HB.out.cell (by exact hbb2)]; exact hcc2 q _ (by simp [hqn])
    have hrq := HRS2.out G2[q] (List.getElem_mem hqn)
    obtain ⟨hl1, hl2⟩ := HGL.out.2 R0[q] (List.getElem_mem hq50)
    have HTK : Hid (∀ N : List ByteArray, N = namesF (L.map Mk.p) R0[q] → ((R0.take q).map (namesF (L.map Mk.p))).map sc ++ [sc N] = ((R0.take (q + 1)).map (namesF (L.map Mk.p))).map sc) := fun N hN => by
      rw [take_map_succ _ _ _ hq50, List.map_append, hN]; rfl
    generalize R0[q] = l at *
    generalize G2[q] = s at *
    obtain ⟨sa, scp, scs⟩ := s
    simp only at hcsq hrq
    subst hcsq
    simp only [Rw.v, nc_len] at cq
    have HRQ := Lib.hid hrq
    have HL2 := Lib.hid hl2
    have hszo := HB.out.size
    clear hcc2 hrq hl2
    go_wp2_with fail
    go_loopw [13, 38] (fun nv jv wr => ∃ (j : Nat) (N : List ByteArray), j ≤ l.length ∧ jv = .int .i64 (j : Int) ∧ N.length ≤ j ∧ Hid (N = namesF (L.map Mk.p) (l.take j)) ∧ Hid (wr.ownsRow wo.heap.size 9 1 nv N.length (sc N)) ∧ Hid (Below wo.heap.size wo wr)) (fun _ jv _ => l.length - (intOf jv).toNat)
    case atStart => exact ⟨0, [], by omega, rfl, by simp, rfl, World.ownsRow_nil _ _ _ _, Below.refl _ _⟩
    case round =>
      obtain ⟨j, N, hj, rfl, hNl, HN, HNO, HNB⟩ := hrel
      obtain ⟨A4, c4, rfl⟩ := slice_of_own HNO.out
      have hszr := HNB.out.size
      by_cases hjl : j < l.length
      case neg =>
        have hje : j = l.length := by omega
        have hd1 : decide (j < l.length) = false := by simpa using hjl
        have HNE : Hid (N = namesF (L.map Mk.p) l) := by show _ = _; rw [HN.out, hje, List.take_of_length_le (Nat.le_refl _)]
        clear hje
        have HOA : Hid ((wr.alloc (.cells #[.slice A4 N.length c4] 54)).ownsRow w4.heap.size 54 1 (.slice A3 G.length c3) G.length (G.map Rw.v)) := (own_belowL HO.out HNB.out).alloc _
        have HRA : Hid (Rws (wr.alloc (.cells #[.slice A4 N.length c4] 54)) (Value.slice A3 G.length c3).ownBlock (G ++ [⟨A4, c4, sc N⟩])) := by
          refine Rws.below (Rws.snoc (HR2.out.below HNB.out) ?_) ((Below.refl _ _).alloc (Nat.le_refl _) _)
          exact rds_own HNO.out (fun k hk => (HO.out.lt k hk).2)
        have HBA2 : Hid (Below w4.heap.size w4 (wr.alloc (.cells #[.slice A4 N.length c4] 54))) := (HB.out.trans (HNB.out.mono hszo)).alloc (by omega) _
        have hGl2 : G.length ≤ 50 := by omega
        go_wp2_with (at_builtin; refine wpList_append_lies _ rfl _ _ 32 rfl w4.heap.size 54 ir _ 1 24 Tryd.underlying32 HIR.out.1 HIR.out.2.1 HIR.out.2.2.1 HIR.out.2.2.2 rfl (by decide) _ _ _ rfl HOA.out ⟨wr.heap.size, 0, none⟩ 1 1 [.slice A4 N.length c4] (by rfl) (by rfl) (World.news_of_block (cs := #[.slice A4 N.length c4]) (t := 54) (fr := (0, 0)) (heap_alloc_new wr _)) (by simp [Value.oneCell']) (by decide) (by unfold maxLen; omega) (by omega) (by simp; omega) (wr.heap.size + 1) (by simp) ?_; intro g2 cap2 w5 hown2 hgrow2 hat2 hlt2)
        have HO2 : Hid (w5.ownsRow w4.heap.size 54 1 (.slice (some ⟨g2, 0, none⟩) (G ++ [(⟨A4, c4, sc N⟩ : Rw)]).length cap2) (G ++ [(⟨A4, c4, sc N⟩ : Rw)]).length ((G ++ [(⟨A4, c4, sc N⟩ : Rw)]).map Rw.v)) := by
          show World.ownsRow _ _ _ _ _ _ _
          rw [List.length_append, List.map_append]
          have e1 : Rw.v ⟨A4, c4, sc N⟩ = .slice A4 N.length c4 := by unfold Rw.v; rw [sc_len]
          rw [List.map_cons, e1]
          exact hown2
        have HR3 : Hid (Rws w5 (some g2) (G ++ [⟨A4, c4, sc N⟩])) := HRA.out.app hgrow2 (by rw [show (wr.alloc (.cells #[.slice A4 N.length c4] 54)).heap.size = wr.heap.size + 1 by simp]; exact hat2)
        have HB3 : Hid (Below w4.heap.size w4 w5) := HBA2.out.grown hgrow2 (by simp; omega) (fun k hk => (HO.out.lt k hk).1)
        have HE3 : Hid ((G ++ [(⟨A4, c4, sc N⟩ : Rw)]).map Rw.cs = ((R0.take (q + 1)).map (namesF (L.map Mk.p))).map sc) := by show _ = _; rw [List.map_append, HE.out, ← HTK.out N HNE.out]; rfl
        have hl3 : (G ++ [(⟨A4, c4, sc N⟩ : Rw)]).length = G.length + 1 := by simp
        have hl4 : (G ++ [(⟨A4, c4, sc N⟩ : Rw)]).length ≤ q + 1 := by omega
        generalize G ++ [(⟨A4, c4, sc N⟩ : Rw)] = G3 at *
        have HL3 := Lib.hid hl3
        clear hown2 hgrow2 hat2 HOA HRA HBA2 hl3
        go_wp2_with fail
        go_roundw
        case rel => exact ⟨q + 1, G3, by omega, by go_num, hl4, by rw [← HL3.out]; exact HO2, HR3, HE3, HB3⟩
        case measure => simp [intOf]; omega
      have hd1 : decide (j < l.length) = true := by simpa using hjl
      obtain ⟨b3, off3, rfl, hbb3, hcc3⟩ := HRQ.out.at_ (by rw [nc_len]; omega)
      have cj : wr.cell? ⟨b3, off3 + j, none⟩ = some (.int .i64 (l[j] : Int)) := by rw [HNB.out.cell (by show b3 < _; omega), HB.out.cell (by exact hbb3)]; exact hcc3 j _ (nc_at l j hjl)
      have hpl : l[j] < L.length := HL2.out l[j] (List.getElem_mem hjl)
      have HNX : Hid (namesF (L.map Mk.p) (l.take (j + 1)) = N ++ [L[l[j]].n]) := by
        show _ = _
        unfold namesF
        rw [take_map_succ _ _ _ hjl, HN.out]
        unfold namesF
        rw [HNM.out l[j] hpl]
      have HBALL : Hid (Below w1.heap.size w1 wr) := HBA.out.trans ((HB.out.trans (HNB.out.mono hszo)).mono HBA.out.size)
      obtain ⟨k3, _, _⟩ := HCK.out _ HBALL.out
      obtain ⟨b, off, hA, hbb, hcs⟩ := HX.out.at_ (by show 0 < L.length; omega)
      obtain rfl : A = some ⟨b, off, none⟩ := hA
      have cn : wr.cell? ⟨b, off + l[j] * 2, none⟩ = some (.string L[l[j]].n) := by rw [(HB1.out.trans (HBALL.out.mono HB1.out.size)).cell (by exact hbb)]; exact (hcs l[j] hpl).1
      generalize L[l[j]].n = nm at *
      generalize l[j] = p at *
      have p0 : (0 : Int) ≤ (p : Int) := by omega
      have p1 : (p : Int) < (L.length : Int) := by omega
      have HLA : Hid ((wr.alloc (.cells #[.string nm] 9)).ownsRow wo.heap.size 9 1 (.slice A4 N.length c4) N.length (sc N)) := HNO.out.alloc _
      clear hcc3 hcs
      have hNl2 : N.length ≤ 50 := by omega
      go_wp2_with (at_builtin; refine wpList_append_own _ rfl _ _ 54 rfl wo.heap.size 9 is _ 1 16 Tryd.underlying54 HIS.out.1 HIS.out.2.1 HIS.out.2.2.1 HIS.out.2.2.2 rfl (by decide) _ _ _ rfl HLA.out ⟨wr.heap.size, 0, none⟩ 1 1 [.string nm] (by rfl) (by rfl) (World.news_of_block (cs := #[.string nm]) (t := 9) (fr := (0, 0)) (heap_alloc_new wr _)) (by simp [Value.oneCell']) (by unfold maxLen; omega) (by omega) (by simp; omega) ?_; intro v1 w5 hown2 hgrow2 _)
      have HB5 : Hid (Below wo.heap.size wo w5) := (HNB.out.alloc hszr _).grown hgrow2 (by simp; omega) (fun g hg => (HNO.out.lt g hg).1)
      have HO5 : Hid (w5.ownsRow wo.heap.size 9 1 v1 (N ++ [nm]).length (sc (N ++ [nm]))) := by
        show World.ownsRow _ _ _ _ _ _ _
        rw [sc_snoc, List.length_append]
        exact hown2
      clear hown2 hgrow2 HLA
      have hl5 : (N ++ [nm]).length ≤ j + 1 := by simp; omega
      generalize N ++ [nm] = N2 at *
      clear k3
      go_wp2_with fail
      go_roundw
      case rel => exact ⟨j + 1, N2, by omega, by go_num, hl5, HNX.out.symm, HO5, HB5⟩
      case measure => simp [intOf]; omega
end Go.Proofs.YtgjmjdpddionmaaDoor
