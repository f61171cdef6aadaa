/- The contract of the reference's Wrong. -/
import Derived.Test.YtibkohnoibjimaaDoorWroR
import Derived.Deep.DeepCutAuto
import Derived.Deep.CutBlock
namespace Go.Proofs.YtibkohnoibjimaaDoor
open Go.RowKit Go.Dw
attribute [local go_sem ↓] Go.wp_at_zero Go.wp_at_succ

theorem info_mis : (Tryd.prog.info? 29).map (fun i => (i.zero, i.size, i.bytes)) = some (some (.agg #[.int .i64 0, .string ⟨#[]⟩, .string ⟨#[]⟩]), 3, 40) := by kernel_rfl
/-- mistakes and a fault -/
def MisPost (w : World) (R : List Mis × Int) (e : Ending) (w' : World) : Prop :=
  ∃ A c, e = .returned (.tuple #[.slice A R.1.length c, .int .i64 R.2]) ∧ Rd w' A (R.1.flatMap Mis.cs) ∧ Below w.heap.size w w'
theorem misPost_none {w w' : World} {f : Int} {R : List Mis × Int} (hr : R = ([], f)) (hb : Below w.heap.size w w') : MisPost w R (.returned (.tuple #[.slice none 0 0, .int .i64 f])) w' := by
  subst hr; exact ⟨none, 0, rfl, .inl rfl, hb⟩
theorem misPost_some {w w' : World} {l : List Mis} {n : Nat} {A : Option Addr} {c : Nat} {R : List Mis × Int} (hr : R = (l, 0)) (hn : n = l.length) (hrd : Rd w' A (l.flatMap Mis.cs)) (hb : Below w.heap.size w w') : MisPost w R (.returned (.tuple #[.slice A n c, .int .i64 0])) w' := by
  subst hr hn; exact ⟨A, c, rfl, hrd, hb⟩
theorem ordF_stop {H W : List Crp} {i : Nat} (h : ordF H W i = []) (hs : sameK (H.getD i dCrp) (W.getD i dCrp) = false) : ∀ n, i < n → ordF H W n = [mkM 4 (H.getD i dCrp)]
  | 0, hn => by omega
  | n + 1, hn => by
    by_cases he : i = n
    · subst he; rw [ordF, h]; simp only [List.isEmpty_nil, if_true, hs]; rfl
    · rw [ordF, ordF_stop h hs n (by omega)]; rfl
theorem ordF_go {H W : List Crp} {i : Nat} (h : ordF H W i = []) (hs : sameK (H.getD i dCrp) (W.getD i dCrp) = true) : ordF H W (i + 1) = [] := by
  rw [ordF, h]; simp only [List.isEmpty_nil, if_true, hs]
/-- all credits at a slice: their cells in a later world -/
theorem Crs.cells {w W : World} {x : Slc Crd} (h : Crs w x) (hb : Below w.heap.size w W) {k : Nat} (hk : k < x.xs.length) :
    ∃ b off, x.a = some ⟨b, off, none⟩ ∧ b < w.heap.size ∧ W.cell? ⟨b, off + k * 5, none⟩ = some (.string x.xs[k].r) ∧ W.cell? ⟨b, off + k * 5 + 1, none⟩ = some (.string x.xs[k].p) ∧ W.cell? ⟨b, off + k * 5 + 2, none⟩ = some (.string x.xs[k].n)
      ∧ W.cell? ⟨b, off + k * 5 + 3, none⟩ = some (.slice x.xs[k].s.a x.xs[k].s.xs.length x.xs[k].s.c) ∧ W.cell? ⟨b, off + k * 5 + 4, none⟩ = some (.int .i64 x.xs[k].m) := by
  obtain ⟨b, off, e, hbl, hc⟩ := (h.below hb).at_ (by omega)
  obtain ⟨b', off', e', hbl', _⟩ := h.at_ (by omega)
  rw [e] at e'
  injection e' with e'
  injection e' with e1 e2
  subst e1 e2
  obtain ⟨d0, d1, d2, d3, d4⟩ := hc k hk
  exact ⟨b, off, e, hbl', d0, d1, d2, d3, d4⟩
/-- mistakes collected so far -/
def OutM (w0 : World) (v : Value) (l : List Mis) (wr : World) : Prop := wr.ownsRow w0.heap.size 29 3 v l.length (l.flatMap Mis.cs) ∧ Below w0.heap.size w0 wr
theorem OutM.below {w0 wr w' : World} {v : Value} {l : List Mis} (h : OutM w0 v l wr) (hb : Below wr.heap.size wr w') : OutM w0 v l w' := ⟨own_belowL h.1 hb, h.2.trans (hb.mono h.2.size)⟩
theorem OutM.app {w0 wr w' : World} {v v' : Value} {l : List Mis} (h : OutM w0 v l wr) (x : Mis) {o : Obj} (ho : w'.ownsRow w0.heap.size 29 3 v' (l.length + 1) (l.flatMap Mis.cs ++ x.cs)) (hg : (wr.alloc o).grownBy w' v.ownBlock) : OutM w0 v' (l ++ [x]) w' := by
  refine ⟨?_, (h.2.alloc h.2.size o).grown hg (by have := h.2.size; simp; omega) (fun k hk => (h.1.lt k hk).1)⟩
  rw [flat_snoc, List.length_append]
  exact ho
set_option maxRecDepth 100000 in
set_option maxHeartbeats 8000000 in
theorem wrongR_any (x y : Slc Crd) (w : World) (hx : Crs w x) (hy : Crs w y) (hm : HasMax w) :
    Calls Tryd.prog 5 #[x.v, y.v] w (MisPost w (wrongF (x.xs.map Crd.x) (y.xs.map Crd.x))) := by
  have HC1 := Lib.hid (creditsR_any x w hx hm)
  have HC2 := Lib.hid (fun (W : World) (hW : Below w.heap.size w W) => creditsR_any y W (hy.below hW) (hm.below hW))
  obtain ⟨HL, hHL⟩ : ∃ HL, x.xs.map Crd.x = HL := ⟨_, rfl⟩
  obtain ⟨WL, hWL⟩ : ∃ WL, y.xs.map Crd.x = WL := ⟨_, rfl⟩
  have hlx : HL.length = x.xs.length := by rw [← hHL, List.length_map]
  have hly : WL.length = y.xs.length := by rw [← hWL, List.length_map]
  by_cases hz1 : crsF HL = 0
  case neg =>
    have HR : Hid (wrongF HL WL = ([], crsF HL)) := by show _ = _; unfold wrongF; rw [if_pos hz1]
    have hzb : (crsF HL != 0) = true := by simpa using hz1
    rw [hHL] at HC1
    rw [hHL, hWL]
    clear hz1 hHL hWL hlx hly HC2
    simp only [Slc.v] at *
    go_enter Tryd.func5, Tryd.ntmps5
    go_wp2_with fail
    refine HC1.out.mono ?_
    rintro e w1 ⟨rfl, hb1⟩
    have HB1 := Lib.hid hb1
    clear hb1
    go_wp2_with fail
    go_ret2
    exact misPost_none HR.out HB1.out
  by_cases hz2 : crsF WL = 0
  case neg =>
    have HR : Hid (wrongF HL WL = ([], crsF WL)) := by show _ = _; unfold wrongF; rw [if_neg (fun h => h hz1), if_pos hz2]
    have hzb : (crsF WL != 0) = true := by simpa using hz2
    rw [hHL, hz1] at HC1
    simp only [hWL] at HC2
    rw [hHL, hWL]
    clear hz1 hz2 hHL hWL hlx hly
    simp only [Slc.v] at *
    go_enter Tryd.func5, Tryd.ntmps5
    go_wp2_with fail
    refine HC1.out.mono ?_
    rintro e w1 ⟨rfl, hb1⟩
    have HB1 := Lib.hid hb1
    clear hb1
    go_wp2_with fail
    refine (HC2.out _ HB1.out).mono ?_
    rintro e w2 ⟨rfl, hb2⟩
    have HB2 := Lib.hid (HB1.out.trans (hb2.mono HB1.out.size))
    clear hb2
    go_wp2_with fail
    go_ret2
    exact misPost_none HR.out HB2.out
  rw [hHL, hz1] at HC1
  simp only [hWL, hz2] at HC2
  have hxn : x.xs.length ≤ 1000 := by
    rw [← hlx]
    unfold crsF at hz1; split at hz1
    · omega
    · omega
  have hyn : y.xs.length ≤ 1000 := by
    rw [← hly]
    unfold crsF at hz2; split at hz2
    · omega
    · omega
  have HR : Hid (wrongF HL WL = if dupB WL WL.length = true then ([], 7) else if (wroF HL WL).length = 0 then (ordF HL WL HL.length, 0) else (wroF HL WL, 0)) := by show _ = _; unfold wrongF; rw [if_neg (fun h => h hz1), if_neg (fun h => h hz2)]
  have HIX := Lib.hid (fun (c0 : Crd) (W : World) (hW : Below w.heap.size w W) => creditI_any x c0 W (hx.below hW))
  have HIY := Lib.hid (fun (c0 : Crd) (W : World) (hW : Below w.heap.size w W) => creditI_any y c0 W (hy.below hW))
  simp only [hHL] at HIX
  simp only [hWL] at HIY
  have HATX : Hid (∀ k (hk : k < x.xs.length), HL.getD k dCrp = x.xs[k].x) := fun k hk => by rw [← hHL]; exact map_at x.xs k hk
  have HATY : Hid (∀ k (hk : k < y.xs.length), WL.getD k dCrp = y.xs[k].x) := fun k hk => by rw [← hWL]; exact map_at y.xs k hk
  have HX := Lib.hid hx
  have HY := Lib.hid hy
  have HLX := Lib.hid hlx
  have HLY := Lib.hid hly
  obtain ⟨ii, hii, hzi0, hzi1, hzi2⟩ := info_parts info_mis
  have HII := Lib.hid (And.intro hii (And.intro hzi0 (And.intro hzi1 hzi2)))
  rw [hHL, hWL]
  clear hz1 hz2 hHL hWL hx hy hm hlx hly hii hzi0 hzi1 hzi2
  obtain ⟨A, c, L⟩ := x
  obtain ⟨B, d, M⟩ := y
  simp only at hxn hyn HLX HLY HIX HIY
  simp only [Slc.v] at HC1 HC2 HIX HIY ⊢
  go_enter Tryd.func5, Tryd.ntmps5
  go_wp2_with fail
  refine HC1.out.mono ?_
  rintro e w1 ⟨rfl, hb1⟩
  have HB1 := Lib.hid hb1
  clear hb1
  go_wp2_with fail
  refine (HC2.out _ HB1.out).mono ?_
  rintro e w2 ⟨rfl, hb2⟩
  have HB2 := Lib.hid (HB1.out.trans (hb2.mono HB1.out.size))
  clear hb2
  go_upto_block 0 with (fail)
  go_cut [] (fun wx => Hid (dupB WL WL.length = false) ∧ Hid (Below w2.heap.size w2 wx))
  case first =>
    go_wp2_with fail
    go_loopw [32] (fun kv wr => ∃ k : Nat, k ≤ M.length ∧ kv = .int .i64 (k : Int) ∧ Hid (dupB WL k = false) ∧ Hid (Below w2.heap.size w2 wr)) (fun kv _ => M.length - (intOf kv).toNat)
    case atStart => exact ⟨0, Nat.zero_le _, rfl, rfl, Below.refl _ _⟩
    case round =>
      obtain ⟨k, hk, rfl, HD, HB⟩ := hrel
      have HBW := Lib.hid (HB2.out.trans (HB.out.mono HB2.out.size))
      by_cases hlt : k < M.length
      case neg =>
        have hd1 : decide (k < M.length) = false := by simpa using hlt
        have HDE : Hid (dupB WL WL.length = false) := by show _ = _; rw [HLY.out, show M.length = k by omega]; exact HD.out
        go_wp2_with fail
        go_meet
        case rel => exact ⟨HDE, HB⟩
      have hd1 : decide (k < M.length) = true := by simpa using hlt
      obtain ⟨b, off, hA, hb, d0, d1, d2, d3, d4⟩ := HY.out.cells HBW.out hlt
      obtain rfl : B = some ⟨b, off, none⟩ := hA
      have HIC := Lib.hid (HIY.out M[k] _ (HBW.out.alloc HBW.out.size (.cells M[k].cs.toArray 38)))
      have hwk := HATY.out k hlt
      have HCK : Hid (fstK WL M[k].x k = none ∧ fstK WL M[k].x M.length = some k ∨ (fstK WL M[k].x k).isSome = true ∧ ∃ j, j ≠ k ∧ fstK WL M[k].x M.length = some j) := by
        cases hq : fstK WL M[k].x k with
        | none => exact .inl ⟨rfl, fstK_more (fstK_hit hq (by rw [show WL.getD k dCrp = M[k].x from hwk]; exact sameK_self _)) _ (by omega)⟩
        | some j => exact .inr ⟨rfl, j, by have := (fstK_some hq).1; omega, fstK_more hq _ (by omega)⟩
      have HDN : Hid (dupB WL (k + 1) = (fstK WL M[k].x k).isSome) := by show _ = _; rw [dupB, HD.out, show WL.getD k dCrp = M[k].x from hwk]; rfl
      have HMORE : Hid (dupB WL (k + 1) = true → wrongF HL WL = ([], 7)) := fun hd => by
        rw [HR.out, if_pos (dupB_more hd WL.length (by have := HLY.out; omega))]
      clear hwk
      generalize M[k] = cc at *
      obtain ⟨fo, hfo⟩ : ∃ fo, fstK WL cc.x M.length = fo := ⟨_, rfl⟩
      obtain ⟨fk, hfk⟩ : ∃ fk, fstK WL cc.x k = fk := ⟨_, rfl⟩
      rw [hfo, hfk] at HCK
      rw [hfk] at HDN
      simp only [hfo] at HIC
      clear hfo hfk
      obtain ⟨r, p, nm, ⟨sa, sc, sl⟩, m⟩ := cc
      simp only at d0 d1 d2 d3 d4
      simp only [Crd.cs, Slc.v] at HIC
      rcases HCK.out with ⟨rfl, rfl⟩ | ⟨hs, j, hj, rfl⟩
      · have HN := Lib.hid HDN.out
        have hne : ((k : Int) != (k : Int)) = false := by simp
        go_wp2_with fail
        refine HIC.out.mono ?_
        rintro e w3 ⟨rfl, hb3⟩
        have HB3 : Hid (Below w2.heap.size w2 w3) := (HB.out.alloc HB.out.size (.cells #[.string r, .string p, .string nm, .slice sa sl.length sc, .int .i64 m] 38)).trans (hb3.mono (by have := HB.out.size; simp; omega))
        clear hb3 d0 d1 d2 d3 d4
        simp only [fkI]
        go_wp2_with fail
        go_roundw
        case rel => exact ⟨k + 1, by omega, by go_num, by rw [HN.out]; rfl, HB3⟩
        case measure => simp [intOf]; omega
      · have HF := Lib.hid (HMORE.out (by rw [HDN.out, hs]))
        have hne : ((j : Int) != (k : Int)) = true := by simp; omega
        have hne2 : (j != k) = true := by simpa using hj
        clear hs
        go_wp2_with fail
        refine HIC.out.mono ?_
        rintro e w3 ⟨rfl, hb3⟩
        have HB3 : Hid (Below w.heap.size w w3) := (HBW.out.alloc HBW.out.size (.cells #[.string r, .string p, .string nm, .slice sa sl.length sc, .int .i64 m] 38)).trans (hb3.mono (by have := HBW.out.size; simp; omega))
        clear hb3 d0 d1 d2 d3 d4
        simp only [fkI]
        go_wp2_with fail
        go_ret2
        exact misPost_none HF.out HB3.out
  case rest =>
    obtain ⟨HND, HBC⟩ := hcut
    obtain ⟨w0, hw0⟩ : ∃ w0, w0 = wc := ⟨_, rfl⟩
    subst hw0
    have HB0 := Lib.hid (HB2.out.trans (HBC.out.mono HB2.out.size))
    have HRR : Hid (wrongF HL WL = if (wroF HL WL).length = 0 then (ordF HL WL HL.length, 0) else (wroF HL WL, 0)) := by show _ = _; rw [HR.out, if_neg (by rw [HND.out]; simp)]
    clear HR HBC HND
    go_upto_block 2 with (fail)
    go_cut [10] (fun v wx => ∃ l : List Mis, l.length ≤ M.length ∧ Hid (l = misF HL WL M.length) ∧ Hid (OutM w0 v l wx))
    case first =>
      go_wp2_with fail
      go_loopw [10, 45] (fun v kv wr => ∃ (k : Nat) (l : List Mis), k ≤ M.length ∧ kv = .int .i64 (k : Int) ∧ l.length ≤ k ∧ Hid (l = misF HL WL k) ∧ Hid (OutM w0 v l wr)) (fun _ kv _ => M.length - (intOf kv).toNat)
      case atStart => exact ⟨0, [], Nat.zero_le _, rfl, by simp, rfl, World.ownsRow_nil _ _ _ _, Below.refl _ _⟩
      case round =>
        obtain ⟨k, l, hk, rfl, hl, HLm, HO⟩ := hrel
        obtain ⟨A2, c2, rfl⟩ := slice_of_own HO.out.1
        have HBW := Lib.hid (HB0.out.trans (HO.out.2.mono HB0.out.size))
        by_cases hlt : k < M.length
        case neg =>
          have hd1 : decide (k < M.length) = false := by simpa using hlt
          have HE : Hid (l = misF HL WL M.length) := by show _ = _; rw [HLm.out, show k = M.length by omega]
          go_wp2_with fail
          go_meet
          case rel => exact ⟨l, by omega, HE, HO⟩
        have hd1 : decide (k < M.length) = true := by simpa using hlt
        obtain ⟨b, off, hA, hb, d0, d1, d2, d3, d4⟩ := HY.out.cells HBW.out hlt
        obtain rfl : B = some ⟨b, off, none⟩ := hA
        have HIC := Lib.hid (HIX.out M[k] _ (HBW.out.alloc HBW.out.size (.cells M[k].cs.toArray 38)))
        have HMN : Hid (misF HL WL (k + 1) = if fstK HL M[k].x L.length = none then misF HL WL k ++ [mkM 1 M[k].x] else misF HL WL k) := by
          show _ = _; rw [misF, show WL.getD k dCrp = M[k].x from HATY.out k hlt, HLX.out]
        have HPW : Hid (Below wr.heap.size wr (wr.alloc (.cells M[k].cs.toArray 38))) := (Below.refl _ _).alloc (Nat.le_refl _) _
        generalize M[k] = cc at *
        obtain ⟨fo, hfo⟩ : ∃ fo, fstK HL cc.x L.length = fo := ⟨_, rfl⟩
        rw [hfo] at HMN
        simp only [hfo] at HIC
        clear hfo
        obtain ⟨r, p, nm, ⟨sa, sc, sl⟩, m⟩ := cc
        simp only at d0 d1 d2 d3 d4
        simp only [Crd.cs, Slc.v] at HIC HPW
        have hh0 : ∀ w3, Below (wr.alloc (.cells #[.string r, .string p, .string nm, .slice sa sl.length sc, .int .i64 m] 38)).heap.size (wr.alloc (.cells #[.string r, .string p, .string nm, .slice sa sl.length sc, .int .i64 m] 38)) w3 → w3.cell? ⟨wr.heap.size, 0, none⟩ = some (.string r) ∧ w3.cell? ⟨wr.heap.size, 1, none⟩ = some (.string p) := fun w3 hb3 => by
          rw [hb3.cell (by simp), hb3.cell (by simp)]
          exact ⟨new_cell (cs := [_, _, _, _, _]) rfl rfl, new_cell (cs := [_, _, _, _, _]) rfl rfl⟩
        have HH0 := Lib.hid hh0
        clear hh0
        cases fo with
        | some j =>
          have HN : Hid (misF HL WL (k + 1) = misF HL WL k) := by show _ = _; rw [HMN.out, if_neg (by simp)]
          have hjn : ¬ (j : Int) < 0 := by omega
          go_wp2_with fail
          refine HIC.out.mono ?_
          rintro e w3 ⟨rfl, hb3⟩
          have HOM := Lib.hid (HO.out.below (HPW.out.trans (hb3.mono HPW.out.size)))
          clear hb3 d0 d1 d2 d3 d4
          simp only [fkI]
          go_wp2_with fail
          go_roundw
          case rel => exact ⟨k + 1, l, by omega, by go_num, by omega, by rw [HN.out]; exact HLm, HOM⟩
          case measure => simp [intOf]; omega
        | none =>
          have HN : Hid (misF HL WL (k + 1) = l ++ [⟨1, r, p⟩]) := by show _ = _; rw [HMN.out, if_pos rfl, HLm.out]; rfl
          have hjn : (-1 : Int) < 0 := by omega
          go_wp2_with fail
          refine HIC.out.mono ?_
          rintro e w3 ⟨rfl, hb3⟩
          obtain ⟨k0, k1⟩ := HH0.out w3 hb3
          have HOM := Lib.hid (HO.out.below (HPW.out.trans (hb3.mono HPW.out.size)))
          have hsz3 := HOM.out.2.size
          clear hb3 d0 d1 d2 d3 d4
          simp only [fkI]
          go_wp2_with (at_builtin; refine wpList_append_own _ rfl _ _ 23 rfl w0.heap.size 29 ii _ 3 40 Tryd.underlying23 HII.out.1 HII.out.2.1 HII.out.2.2.1 HII.out.2.2.2 rfl (by decide) _ _ _ rfl (HOM.out.1.alloc _) ⟨w3.heap.size, 0, none⟩ 1 1 [.int .i64 1, .string r, .string p] (by rfl) (by rfl) (World.news_of_block (cs := #[.int .i64 1, .string r, .string p]) (t := 29) (fr := (0, 0)) (heap_alloc_new w3 _)) (by simp [Value.oneCell']) (by unfold maxLen; omega) (by omega) (by simp; omega) ?_; intro v1 w5 hown5 hgrow5 _)
          have HO5 : Hid (OutM w0 v1 (l ++ [⟨1, r, p⟩]) w5) := HOM.out.app ⟨1, r, p⟩ hown5 hgrow5
          have hl5 : (l ++ [(⟨1, r, p⟩ : Mis)]).length ≤ k + 1 := by simp; omega
          generalize l ++ [(⟨1, r, p⟩ : Mis)] = l5 at *
          clear hown5 hgrow5 k0 k1
          go_wp2_with fail
          go_roundw
          case rel => exact ⟨k + 1, l5, by omega, by go_num, hl5, HN.out.symm, HO5⟩
          case measure => simp [intOf]; omega
    case rest =>
      obtain ⟨l, hl, HLm, HO⟩ := hcut
      obtain ⟨wq, hwq⟩ : ∃ wq, wq = wc := ⟨_, rfl⟩
      subst hwq
      obtain ⟨A2, c2, rfl⟩ := slice_of_own HO.out.1
      go_upto_block 4 with (fail)
      go_cut [10] (fun v wx => ∃ l : List Mis, l.length ≤ M.length + L.length ∧ Hid (l = misF HL WL M.length ++ extF HL WL L.length) ∧ Hid (OutM w0 v l wx))
      case first =>
        go_wp2_with fail
        go_loopw [10, 64] (fun v kv wr => ∃ (k : Nat) (l : List Mis), k ≤ L.length ∧ kv = .int .i64 (k : Int) ∧ l.length ≤ M.length + k ∧ Hid (l = misF HL WL M.length ++ extF HL WL k) ∧ Hid (OutM w0 v l wr)) (fun _ kv _ => L.length - (intOf kv).toNat)
        case atStart => exact ⟨0, l, Nat.zero_le _, rfl, by omega, by rw [HLm.out, extF, List.append_nil]; rfl, HO⟩
        case round =>
          clear HLm HO hl
          obtain ⟨k, l, hk, rfl, hl, HLm, HO⟩ := hrel
          obtain ⟨A2, c2, rfl⟩ := slice_of_own HO.out.1
          have HBW := Lib.hid (HB0.out.trans (HO.out.2.mono HB0.out.size))
          by_cases hlt : k < L.length
          case neg =>
            have hd1 : decide (k < L.length) = false := by simpa using hlt
            have HE : Hid (l = misF HL WL M.length ++ extF HL WL L.length) := by show _ = _; rw [HLm.out, show k = L.length by omega]
            go_wp2_with fail
            go_meet
            case rel => exact ⟨l, by omega, HE, HO⟩
          have hd1 : decide (k < L.length) = true := by simpa using hlt
          obtain ⟨b, off, hA, hb, d0, d1, d2, d3, d4⟩ := HX.out.cells HBW.out hlt
          obtain rfl : A = some ⟨b, off, none⟩ := hA
          have HIC := Lib.hid (HIY.out L[k] _ (HBW.out.alloc HBW.out.size (.cells L[k].cs.toArray 38)))
          have HID := Lib.hid (HIX.out L[k])
          have hwk := HATX.out k hlt
          have HCK : Hid (fstK HL L[k].x k = none ∧ fstK HL L[k].x L.length = some k ∨ (fstK HL L[k].x k).isSome = true ∧ ∃ j, j ≠ k ∧ fstK HL L[k].x L.length = some j) := by
            cases hq : fstK HL L[k].x k with
            | none => exact .inl ⟨rfl, fstK_more (fstK_hit hq (by rw [show HL.getD k dCrp = L[k].x from hwk]; exact sameK_self _)) _ (by omega)⟩
            | some j => exact .inr ⟨rfl, j, by have := (fstK_some hq).1; omega, fstK_more hq _ (by omega)⟩
          have HEN : Hid (extF HL WL (k + 1) = if ((fstK HL L[k].x k).isSome || (fstK WL L[k].x M.length).isNone) = true then extF HL WL k ++ [mkM 2 L[k].x] else extF HL WL k) := by
            show _ = _; rw [extF]; unfold extB; rw [show HL.getD k dCrp = L[k].x from hwk, HLY.out]
          have HPW : Hid (Below wr.heap.size wr (wr.alloc (.cells L[k].cs.toArray 38))) := (Below.refl _ _).alloc (Nat.le_refl _) _
          clear hwk
          generalize L[k] = cc at *
          obtain ⟨fw, hfw⟩ : ∃ fw, fstK WL cc.x M.length = fw := ⟨_, rfl⟩
          obtain ⟨fo, hfo⟩ : ∃ fo, fstK HL cc.x L.length = fo := ⟨_, rfl⟩
          obtain ⟨fk, hfk⟩ : ∃ fk, fstK HL cc.x k = fk := ⟨_, rfl⟩
          rw [hfo, hfk] at HCK
          rw [hfw, hfk] at HEN
          simp only [hfw] at HIC
          simp only [hfo] at HID
          clear hfo hfk hfw
          obtain ⟨r, p, nm, ⟨sa, sc, sl⟩, m⟩ := cc
          simp only at d0 d1 d2 d3 d4
          simp only [Crd.cs, Slc.v] at HIC HID HPW
          have hh0 : ∀ w3, Below (wr.alloc (.cells #[.string r, .string p, .string nm, .slice sa sl.length sc, .int .i64 m] 38)).heap.size (wr.alloc (.cells #[.string r, .string p, .string nm, .slice sa sl.length sc, .int .i64 m] 38)) w3 → w3.cell? ⟨wr.heap.size, 0, none⟩ = some (.string r) ∧ w3.cell? ⟨wr.heap.size, 1, none⟩ = some (.string p) ∧ w3.cell? ⟨wr.heap.size, 2, none⟩ = some (.string nm) ∧ w3.cell? ⟨wr.heap.size, 3, none⟩ = some (.slice sa sl.length sc) ∧ w3.cell? ⟨wr.heap.size, 4, none⟩ = some (.int .i64 m) := fun w3 hb3 => by
            rw [hb3.cell (by simp), hb3.cell (by simp), hb3.cell (by simp), hb3.cell (by simp), hb3.cell (by simp)]
            exact ⟨new_cell (cs := [_, _, _, _, _]) rfl rfl, new_cell (cs := [_, _, _, _, _]) rfl rfl, new_cell (cs := [_, _, _, _, _]) rfl rfl, new_cell (cs := [_, _, _, _, _]) rfl rfl, new_cell (cs := [_, _, _, _, _]) rfl rfl⟩
          have HH0 := Lib.hid hh0
          clear hh0
          go_wp2_with fail
          refine HIC.out.mono ?_
          rintro e w3 ⟨rfl, hb3⟩
          obtain ⟨k0, k1, k2, k3, k4⟩ := HH0.out w3 hb3
          have HP3 := Lib.hid (HPW.out.trans (hb3.mono HPW.out.size))
          have HOM := Lib.hid (HO.out.below HP3.out)
          have hsz3 := HOM.out.2.size
          have HBX3 := Lib.hid (HBW.out.trans (HP3.out.mono HBW.out.size))
          have hszr : wr.heap.size < w3.heap.size := Nat.lt_of_lt_of_le (by simp) hb3.size
          clear hb3 d0 d1 d2 d3 d4
          cases fw with
          | none =>
            have HN : Hid (extF HL WL (k + 1) = extF HL WL k ++ [⟨2, r, p⟩]) := by show _ = _; rw [HEN.out, if_pos (by simp)]; rfl
            have hjn : (-1 : Int) < 0 := by omega
            simp only [fkI]
            go_wp2_with (at_builtin; refine wpList_append_own _ rfl _ _ 23 rfl w0.heap.size 29 ii _ 3 40 Tryd.underlying23 HII.out.1 HII.out.2.1 HII.out.2.2.1 HII.out.2.2.2 rfl (by decide) _ _ _ rfl (HOM.out.1.alloc _) ⟨w3.heap.size, 0, none⟩ 1 1 [.int .i64 2, .string r, .string p] (by rfl) (by rfl) (World.news_of_block (cs := #[.int .i64 2, .string r, .string p]) (t := 29) (fr := (0, 0)) (heap_alloc_new w3 _)) (by simp [Value.oneCell']) (by unfold maxLen; omega) (by omega) (by simp; omega) ?_; intro v1 w5 hown5 hgrow5 _)
            have HO5 : Hid (OutM w0 v1 (l ++ [⟨2, r, p⟩]) w5) := HOM.out.app ⟨2, r, p⟩ hown5 hgrow5
            have hl5 : (l ++ [(⟨2, r, p⟩ : Mis)]).length ≤ M.length + (k + 1) := by simp; omega
            have HL5 : Hid (l ++ [(⟨2, r, p⟩ : Mis)] = misF HL WL M.length ++ extF HL WL (k + 1)) := by show _ = _; rw [HN.out, HLm.out, List.append_assoc]
            generalize l ++ [(⟨2, r, p⟩ : Mis)] = l5 at *
            clear hown5 hgrow5 k0 k1 k2 k3 k4
            go_wp2_with fail
            go_roundw
            case rel => exact ⟨k + 1, l5, by omega, by go_num, hl5, HL5, HO5⟩
            case measure => simp [intOf]; omega
          | some j =>
            have hjn : ¬ (j : Int) < 0 := by omega
            simp only [fkI]
            rcases HCK.out with ⟨rfl, rfl⟩ | ⟨hs, j2, hj2, rfl⟩
            · have HN : Hid (extF HL WL (k + 1) = extF HL WL k) := by show _ = _; rw [HEN.out, if_neg (by simp)]
              have hne : ((k : Int) != (k : Int)) = false := by simp
              go_wp2_with fail
              refine (HID.out _ HBX3.out).mono ?_
              rintro e w4 ⟨rfl, hb4⟩
              have HO4 := Lib.hid (HOM.out.below hb4)
              clear hb4 k0 k1 k2 k3 k4
              simp only [fkI]
              go_wp2_with fail
              go_roundw
              case rel => exact ⟨k + 1, l, by omega, by go_num, by omega, by rw [HN.out]; exact HLm, HO4⟩
              case measure => simp [intOf]; omega
            · have HN : Hid (extF HL WL (k + 1) = extF HL WL k ++ [⟨2, r, p⟩]) := by show _ = _; rw [HEN.out, if_pos (by rw [hs]; rfl)]; rfl
              have hne : ((j2 : Int) != (k : Int)) = true := by simp; omega
              have hne2 : (j2 != k) = true := by simpa using hj2
              clear hs
              go_wp2_with fail
              refine (HID.out _ HBX3.out).mono ?_
              rintro e w4 ⟨rfl, hb4⟩
              rw [← hb4.cell (p := ⟨wr.heap.size, 0, none⟩) (by exact hszr)] at k0
              rw [← hb4.cell (p := ⟨wr.heap.size, 1, none⟩) (by exact hszr)] at k1
              have HOM4 := Lib.hid (HOM.out.below hb4)
              clear HOM
              have HOM := HOM4
              clear HOM4 hsz3
              have hsz4 := HOM.out.2.size
              clear hb4 k2 k3 k4
              simp only [fkI]
              go_wp2_with (at_builtin; refine wpList_append_own _ rfl _ _ 23 rfl w0.heap.size 29 ii _ 3 40 Tryd.underlying23 HII.out.1 HII.out.2.1 HII.out.2.2.1 HII.out.2.2.2 rfl (by decide) _ _ _ rfl (HOM.out.1.alloc _) ⟨w4.heap.size, 0, none⟩ 1 1 [.int .i64 2, .string r, .string p] (by rfl) (by rfl) (World.news_of_block (cs := #[.int .i64 2, .string r, .string p]) (t := 29) (fr := (0, 0)) (heap_alloc_new w4 _)) (by simp [Value.oneCell']) (by unfold maxLen; omega) (by omega) (by simp; omega) ?_; intro v1 w5 hown5 hgrow5 _)
              have HO5 : Hid (OutM w0 v1 (l ++ [⟨2, r, p⟩]) w5) := HOM.out.app ⟨2, r, p⟩ hown5 hgrow5
              have hl5 : (l ++ [(⟨2, r, p⟩ : Mis)]).length ≤ M.length + (k + 1) := by simp; omega
              have HL5 : Hid (l ++ [(⟨2, r, p⟩ : Mis)] = misF HL WL M.length ++ extF HL WL (k + 1)) := by show _ = _; rw [HN.out, HLm.out, List.append_assoc]
              generalize l ++ [(⟨2, r, p⟩ : Mis)] = l5 at *
              clear hown5 hgrow5 k0 k1
              go_wp2_with fail
              go_roundw
              case rel => exact ⟨k + 1, l5, by omega, by go_num, hl5, HL5, HO5⟩
              case measure => simp [intOf]; omega
      case rest =>
        clear HLm HO hl
        obtain ⟨l, hl, HLm, HO⟩ := hcut
        obtain ⟨wq2, hwq2⟩ : ∃ wq2, wq2 = wc := ⟨_, rfl⟩
        subst hwq2
        obtain ⟨A2, c2, rfl⟩ := slice_of_own HO.out.1
        have HEX := Lib.hid (@equalS_any)
        go_upto_block 6 with (fail)
        go_cut [10] (fun v wx => ∃ l : List Mis, l.length ≤ M.length + L.length + M.length ∧ Hid (l = wroF HL WL) ∧ Hid (OutM w0 v l wx))
        case first =>
          go_wp2_with fail
          go_loopw [10, 91] (fun v kv wr => ∃ (k : Nat) (l : List Mis), k ≤ M.length ∧ kv = .int .i64 (k : Int) ∧ l.length ≤ M.length + L.length + k ∧ Hid (l = misF HL WL M.length ++ extF HL WL L.length ++ othF HL WL k) ∧ Hid (OutM w0 v l wr)) (fun _ kv _ => M.length - (intOf kv).toNat)
          case atStart => exact ⟨0, l, Nat.zero_le _, rfl, by omega, by rw [HLm.out, othF, List.append_nil]; rfl, HO⟩
          case round =>
            clear HLm HO hl
            obtain ⟨k, l, hk, rfl, hl, HLm, HO⟩ := hrel
            obtain ⟨A2, c2, rfl⟩ := slice_of_own HO.out.1
            have HBW := Lib.hid (HB0.out.trans (HO.out.2.mono HB0.out.size))
            by_cases hlt : k < M.length
            case neg =>
              have hd1 : decide (k < M.length) = false := by simpa using hlt
              have HE : Hid (l = wroF HL WL) := by show _ = _; unfold wroF; rw [HLm.out, HLY.out, HLX.out, show k = M.length by omega]
              go_wp2_with fail
              go_meet
              case rel => exact ⟨l, by omega, HE, HO⟩
            have hd1 : decide (k < M.length) = true := by simpa using hlt
            obtain ⟨b, off, hA, hb, d0, d1, d2, d3, d4⟩ := HY.out.cells HBW.out hlt
            obtain rfl : B = some ⟨b, off, none⟩ := hA
            have HIC := Lib.hid (HIX.out M[k] _ (HBW.out.alloc HBW.out.size (.cells M[k].cs.toArray 38)))
            have HEN : Hid (othF HL WL (k + 1) = if othB HL WL k = true then othF HL WL k ++ [mkM 3 M[k].x] else othF HL WL k) := by
              show _ = _; rw [othF, show WL.getD k dCrp = M[k].x from HATY.out k hlt]
            have HOB : Hid (othB HL WL k = match fstK HL M[k].x L.length with | some i => !(decide ((HL.getD i dCrp).n = M[k].n) && decide ((HL.getD i dCrp).l = M[k].s.xs)) | none => false) := by
              show _ = _; unfold othB; rw [show WL.getD k dCrp = M[k].x from HATY.out k hlt, HLX.out]; rfl
            have HPW : Hid (Below wr.heap.size wr (wr.alloc (.cells M[k].cs.toArray 38))) := (Below.refl _ _).alloc (Nat.le_refl _) _
            obtain ⟨_, _, _, o4, o5, _⟩ := HY.out.2.2 M[k] (List.getElem_mem hlt)
            have HRY := Lib.hid (o5.below HBW.out)
            clear o5
            generalize M[k] = cc at *
            obtain ⟨fo, hfo⟩ : ∃ fo, fstK HL cc.x L.length = fo := ⟨_, rfl⟩
            have HFS : Hid (∀ j, fo = some j → j < L.length) := fun j hj => (fstK_some (hfo.trans hj)).1
            rw [hfo] at HOB
            simp only [hfo] at HIC
            clear hfo
            obtain ⟨r, p, nm, ⟨sa, sc, sl⟩, m⟩ := cc
            simp only at d0 d1 d2 d3 d4 o4 HRY HOB
            simp only [Crd.cs, Slc.v] at HIC HPW
            have hh0 : ∀ w3, Below (wr.alloc (.cells #[.string r, .string p, .string nm, .slice sa sl.length sc, .int .i64 m] 38)).heap.size (wr.alloc (.cells #[.string r, .string p, .string nm, .slice sa sl.length sc, .int .i64 m] 38)) w3 → w3.cell? ⟨wr.heap.size, 0, none⟩ = some (.string r) ∧ w3.cell? ⟨wr.heap.size, 1, none⟩ = some (.string p) ∧ w3.cell? ⟨wr.heap.size, 2, none⟩ = some (.string nm) ∧ w3.cell? ⟨wr.heap.size, 3, none⟩ = some (.slice sa sl.length sc) := fun w3 hb3 => by
              rw [hb3.cell (by simp), hb3.cell (by simp), hb3.cell (by simp), hb3.cell (by simp)]
              exact ⟨new_cell (cs := [_, _, _, _, _]) rfl rfl, new_cell (cs := [_, _, _, _, _]) rfl rfl, new_cell (cs := [_, _, _, _, _]) rfl rfl, new_cell (cs := [_, _, _, _, _]) rfl rfl⟩
            have HH0 := Lib.hid hh0
            clear hh0
            go_wp2_with fail
            refine HIC.out.mono ?_
            rintro e w3 ⟨rfl, hb3⟩
            obtain ⟨k0, k1, k2, k3⟩ := HH0.out w3 hb3
            have HP3 := Lib.hid (HPW.out.trans (hb3.mono HPW.out.size))
            have HOM := Lib.hid (HO.out.below HP3.out)
            have HBX3 := Lib.hid (HBW.out.trans (HP3.out.mono HBW.out.size))
            have HRY3 := Lib.hid (HRY.out.below HP3.out)
            have hszr : wr.heap.size < w3.heap.size := Nat.lt_of_lt_of_le (by simp) hb3.size
            clear hb3 d0 d1 d2 d3 d4 HRY
            cases fo with
            | none =>
              have HN : Hid (othF HL WL (k + 1) = othF HL WL k) := by show _ = _; rw [HEN.out, HOB.out, if_neg (by simp)]
              simp only [fkI]
              have hjn : decide ((0 : Int) ≤ -1) = false := by decide
              go_wp2_with fail
              go_quiet (fail)
              go_wp2_with fail
              go_roundw
              case rel => exact ⟨k + 1, l, by omega, by go_num, by omega, by rw [HN.out]; exact HLm, HOM.out.below (below_drewN (Below.refl _ _) _)⟩
              case measure => simp [intOf]; omega
            | some j =>
              have hjl := HFS.out j rfl
              obtain ⟨b6, off6, hA6, hb6, f0, f1, f2, f3, f4⟩ := HX.out.cells HBX3.out hjl
              obtain rfl : A = some ⟨b6, off6, none⟩ := hA6
              obtain ⟨_, _, _, o6, o7, _⟩ := HX.out.2.2 L[j] (List.getElem_mem hjl)
              have HRX3 := Lib.hid (o7.below HBX3.out)
              have HOB2 : Hid (othB HL WL k = !(decide (L[j].n = nm) && decide (L[j].s.xs = sl))) := by
                show _ = _; rw [HOB.out]; simp only; rw [show HL.getD j dCrp = L[j].x from HATX.out j hjl]; rfl
              clear o7 f0 f1 f4
              generalize L[j] = cd at *
              obtain ⟨r6, p6, nm6, ⟨sa6, sc6, sl6⟩, m6⟩ := cd
              simp only at f2 f3 o6 HRX3 HOB2
              have HSM := Lib.hid (fun (q : Nat) => HEX.out sa6 sa sc6 sc sl6 sl (w3.drewN q) (HRX3.out.below (below_drewN (Below.refl _ _) q)) (HRY3.out.below (below_drewN (Below.refl _ _) q)) o6)
              have j0 : (0 : Int) ≤ (j : Int) := by omega
              have j1 : (j : Int) < (L.length : Int) := by omega
              have jd : decide ((0 : Int) ≤ (j : Int)) = true := by simp
              simp only [fkI]
              by_cases hnm : nm6 = nm
              · have s1 := seq_t hnm
                have s2 : (nm6.toList != nm.toList) = false := by rw [bne, s1]; rfl
                obtain ⟨q, hq⟩ : ∃ q, decide (sl6 = sl) = q := ⟨_, rfl⟩
                have HOB3 : Hid (othB HL WL k = !q) := by show _ = _; rw [HOB2.out, hq]; simp [hnm]
                simp only [hq] at HSM
                clear hq hnm
                cases q with
                | true =>
                  have HN : Hid (othF HL WL (k + 1) = othF HL WL k) := by show _ = _; rw [HEN.out, HOB3.out, if_neg (by simp)]
                  go_wp2_with fail
                  go_quiet ((go_at_call 12; exact Calls.quiet_of (HSM.out _)))
                  go_wp2_with fail
                  go_roundw
                  case rel => exact ⟨k + 1, l, by omega, by go_num, by omega, by rw [HN.out]; exact HLm, HOM.out.below (below_drewN (Below.refl _ _) _)⟩
                  case measure => simp [intOf]; omega
                | false =>
                  have HN : Hid (othF HL WL (k + 1) = othF HL WL k ++ [⟨3, r, p⟩]) := by show _ = _; rw [HEN.out, HOB3.out, if_pos (by simp)]; rfl
                  go_wp2_with fail
                  go_quiet ((go_at_call 12; exact Calls.quiet_of (HSM.out _)))
                  obtain ⟨w4, hw4⟩ : ∃ w4, w4 = w3.drewN nq := ⟨_, rfl⟩
                  have HOM4 : Hid (OutM w0 (.slice A2 l.length c2) l w4) := by rw [hw4]; exact HOM.out.below (below_drewN (Below.refl _ _) _)
                  have g0 : w4.cell? ⟨wr.heap.size, 0, none⟩ = some (.string r) := by rw [hw4]; exact k0
                  have g1 : w4.cell? ⟨wr.heap.size, 1, none⟩ = some (.string p) := by rw [hw4]; exact k1
                  rw [← hw4]
                  clear HOM hw4 k0 k1 k2 k3 f2 f3
                  have HOM := HOM4
                  clear HOM4
                  have hsz4 := HOM.out.2.size
                  go_wp2_with (at_builtin; refine wpList_append_own _ rfl _ _ 23 rfl w0.heap.size 29 ii _ 3 40 Tryd.underlying23 HII.out.1 HII.out.2.1 HII.out.2.2.1 HII.out.2.2.2 rfl (by decide) _ _ _ rfl (HOM.out.1.alloc _) ⟨w4.heap.size, 0, none⟩ 1 1 [.int .i64 3, .string r, .string p] (by rfl) (by rfl) (World.news_of_block (cs := #[.int .i64 3, .string r, .string p]) (t := 29) (fr := (0, 0)) (heap_alloc_new w4 _)) (by simp [Value.oneCell']) (by unfold maxLen; omega) (by omega) (by simp; omega) ?_; intro v1 w5 hown5 hgrow5 _)
                  have HO5 : Hid (OutM w0 v1 (l ++ [⟨3, r, p⟩]) w5) := HOM.out.app ⟨3, r, p⟩ hown5 hgrow5
                  have hl5 : (l ++ [(⟨3, r, p⟩ : Mis)]).length ≤ M.length + L.length + (k + 1) := by simp; omega
                  have HL5 : Hid (l ++ [(⟨3, r, p⟩ : Mis)] = misF HL WL M.length ++ extF HL WL L.length ++ othF HL WL (k + 1)) := by show _ = _; rw [HN.out, HLm.out, List.append_assoc]
                  generalize l ++ [(⟨3, r, p⟩ : Mis)] = l5 at *
                  clear hown5 hgrow5 g0 g1
                  go_wp2_with fail
                  go_roundw
                  case rel => exact ⟨k + 1, l5, by omega, by go_num, hl5, HL5, HO5⟩
                  case measure => simp [intOf]; omega
              · have s1 := seq_f hnm
                have s2 : (nm6.toList != nm.toList) = true := by rw [bne, s1]; rfl
                have HOB3 : Hid (othB HL WL k = true) := by show _ = _; rw [HOB2.out]; simp [hnm]
                clear hnm
                have HN : Hid (othF HL WL (k + 1) = othF HL WL k ++ [⟨3, r, p⟩]) := by show _ = _; rw [HEN.out, HOB3.out, if_pos rfl]; rfl
                go_wp2_with fail
                go_quiet (fail)
                obtain ⟨w4, hw4⟩ : ∃ w4, w4 = w3.drewN nq := ⟨_, rfl⟩
                have HOM4 : Hid (OutM w0 (.slice A2 l.length c2) l w4) := by rw [hw4]; exact HOM.out.below (below_drewN (Below.refl _ _) _)
                have g0 : w4.cell? ⟨wr.heap.size, 0, none⟩ = some (.string r) := by rw [hw4]; exact k0
                have g1 : w4.cell? ⟨wr.heap.size, 1, none⟩ = some (.string p) := by rw [hw4]; exact k1
                rw [← hw4]
                clear HOM hw4 k0 k1 k2 k3 f2 f3
                have HOM := HOM4
                clear HOM4
                have hsz4 := HOM.out.2.size
                go_wp2_with (at_builtin; refine wpList_append_own _ rfl _ _ 23 rfl w0.heap.size 29 ii _ 3 40 Tryd.underlying23 HII.out.1 HII.out.2.1 HII.out.2.2.1 HII.out.2.2.2 rfl (by decide) _ _ _ rfl (HOM.out.1.alloc _) ⟨w4.heap.size, 0, none⟩ 1 1 [.int .i64 3, .string r, .string p] (by rfl) (by rfl) (World.news_of_block (cs := #[.int .i64 3, .string r, .string p]) (t := 29) (fr := (0, 0)) (heap_alloc_new w4 _)) (by simp [Value.oneCell']) (by unfold maxLen; omega) (by omega) (by simp; omega) ?_; intro v1 w5 hown5 hgrow5 _)
                have HO5 : Hid (OutM w0 v1 (l ++ [⟨3, r, p⟩]) w5) := HOM.out.app ⟨3, r, p⟩ hown5 hgrow5
                have hl5 : (l ++ [(⟨3, r, p⟩ : Mis)]).length ≤ M.length + L.length + (k + 1) := by simp; omega
                have HL5 : Hid (l ++ [(⟨3, r, p⟩ : Mis)] = misF HL WL M.length ++ extF HL WL L.length ++ othF HL WL (k + 1)) := by show _ = _; rw [HN.out, HLm.out, List.append_assoc]
                generalize l ++ [(⟨3, r, p⟩ : Mis)] = l5 at *
                clear hown5 hgrow5 g0 g1
                go_wp2_with fail
                go_roundw
                case rel => exact ⟨k + 1, l5, by omega, by go_num, hl5, HL5, HO5⟩
                case measure => simp [intOf]; omega
        case rest =>
          clear HLm HO hl
          obtain ⟨l, hl, HLm, HO⟩ := hcut
          obtain ⟨A2, c2, rfl⟩ := slice_of_own HO.out.1
          have HBW := Lib.hid (HB0.out.trans (HO.out.2.mono HB0.out.size))
          by_cases hl0 : l.length = 0
          case neg =>
            have hd2 : decide (0 < l.length) = true := by simp; omega
            have hd3 : decide ((0 : Int) < (l.length : Int)) = true := by simp; omega
            have HF : Hid (wrongF HL WL = (l, 0)) := by show _ = _; rw [HRR.out, ← HLm.out, if_neg hl0]
            have HRD := Lib.hid (Rd.of_own HO.out.1)
            clear hl0
            go_wp2_with fail
            go_ret2
            exact misPost_some HF.out rfl HRD.out HBW.out
          have hd2 : decide (0 < l.length) = false := by simp; exact List.eq_nil_of_length_eq_zero hl0
          have HF : Hid (wrongF HL WL = (ordF HL WL HL.length, 0)) := by show _ = _; rw [HRR.out, ← HLm.out, if_pos hl0]
          have hwl : L.length ≤ M.length := by
            have := wro_len (H := HL) (W := WL) (by rw [← HLm.out]; exact hl0)
            rwa [HLX.out, HLY.out] at this
          have hll : l = [] := List.eq_nil_of_length_eq_zero hl0
          subst hll
          clear hl0
          go_wp2_with fail
          go_loopw [136] (fun kv wr => ∃ k : Nat, k ≤ L.length ∧ kv = .int .i64 (k : Int) ∧ Hid (ordF HL WL k = []) ∧ Hid (Below wc.heap.size wc wr)) (fun kv _ => L.length - (intOf kv).toNat)
          case atStart => exact ⟨0, Nat.zero_le _, rfl, rfl, Below.refl _ _⟩
          case round =>
            obtain ⟨k, hk, rfl, HOR, HB⟩ := hrel
            have HBX := Lib.hid (HBW.out.trans (HB.out.mono HBW.out.size))
            by_cases hlt : k < L.length
            case neg =>
              have hd1 : decide (k < L.length) = false := by simpa using hlt
              have HE : Hid (wrongF HL WL = ([], 0)) := by show _ = _; rw [HF.out, HLX.out, show L.length = k by omega, HOR.out]
              go_wp2_with fail
              go_ret2
              exact misPost_none HE.out HBX.out
            have hd1 : decide (k < L.length) = true := by simpa using hlt
            have hltM : k < M.length := by omega
            obtain ⟨b, off, hA, hb, d0, d1, d2, d3, d4⟩ := HX.out.cells HBX.out hlt
            obtain rfl : A = some ⟨b, off, none⟩ := hA
            obtain ⟨b6, off6, hA6, hb6, f0, f1, f2, f3, f4⟩ := HY.out.cells HBX.out hltM
            obtain rfl : B = some ⟨b6, off6, none⟩ := hA6
            have HSK : Hid (sameK (HL.getD k dCrp) (WL.getD k dCrp) = (decide (L[k].r = M[k].r) && decide (L[k].p = M[k].p))) := by show _ = _; rw [show HL.getD k dCrp = L[k].x from HATX.out k hlt, show WL.getD k dCrp = M[k].x from HATY.out k hltM]; rfl
            have HGO := Lib.hid (fun hs => ordF_go HOR.out hs)
            have HST := Lib.hid (fun hs => ordF_stop HOR.out hs HL.length (by have := HLX.out; omega))
            have HHX : Hid (HL.getD k dCrp = L[k].x) := HATX.out k hlt
            clear f2 f3 f4
            generalize L[k] = cc at *
            generalize M[k] = cd at *
            obtain ⟨r, p, nm, ⟨sa, sc, sl⟩, m⟩ := cc
            obtain ⟨r6, p6, nm6, ⟨sa6, sc6, sl6⟩, m6⟩ := cd
            simp only at d0 d1 d2 d3 d4 f0 f1 HSK HHX
            obtain ⟨wA, hwA⟩ : ∃ wA, wA = wr.alloc (.cells #[.string r, .string p, .string nm, .slice sa sl.length sc, .int .i64 m] 38) := ⟨_, rfl⟩
            have HBA : Hid (Below wc.heap.size wc wA) := by rw [hwA]; exact HB.out.alloc HB.out.size _
            have HBXA := Lib.hid (HBW.out.trans (HBA.out.mono HBW.out.size))
            have k0 : wA.cell? ⟨wr.heap.size, 0, none⟩ = some (.string r) := by rw [hwA]; exact new_cell (cs := [_, _, _, _, _]) rfl rfl
            have k1 : wA.cell? ⟨wr.heap.size, 1, none⟩ = some (.string p) := by rw [hwA]; exact new_cell (cs := [_, _, _, _, _]) rfl rfl
            have hbr6 : b6 < wr.heap.size := Nat.lt_of_lt_of_le hb6 HBX.out.size
            have g0 : wA.cell? ⟨b6, off6 + k * 5, none⟩ = some (.string r6) := by rw [hwA, World.cell?_alloc_past _ _ _ (by exact hbr6)]; exact f0
            have g1 : wA.cell? ⟨b6, off6 + k * 5 + 1, none⟩ = some (.string p6) := by rw [hwA, World.cell?_alloc_past _ _ _ (by exact hbr6)]; exact f1
            have HWA := Lib.hid hwA
            clear hwA f0 f1
            have j0 : (0 : Int) ≤ (k : Int) := by omega
            have j1 : (k : Int) < (M.length : Int) := by omega
            have j2 : (k : Int) < (L.length : Int) := by omega
            by_cases e1 : r6 = r
            · have s1 := seq_t e1
              have s1' : (r6.toList != r.toList) = false := by rw [bne, s1]; rfl
              by_cases e2 : p6 = p
              · have s2 := seq_t e2
                have s2' : (p6.toList != p.toList) = false := by rw [bne, s2]; rfl
                have HN := Lib.hid (HGO.out (by rw [HSK.out]; simp [e1, e2]))
                clear e1 e2
                go_upto_region 38 with (fail)
                rw [← HWA.out]
                clear d0 d1 d2 d3 d4
                go_quiet (fail)
                go_wp2_with fail
                go_roundw
                case rel => exact ⟨k + 1, by omega, by go_num, HN.out, below_drewN HBA.out _⟩
                case measure => simp [intOf]; omega
              · have s2 := seq_f e2
                have s2' : (p6.toList != p.toList) = true := by rw [bne, s2]; rfl
                have HE : Hid (wrongF HL WL = ([⟨4, r, p⟩], 0)) := by show _ = _; rw [HF.out, HST.out (by rw [HSK.out]; simp; exact fun _ h => e2 h.symm), HHX.out]; rfl
                clear e1 e2
                go_upto_region 38 with (fail)
                rw [← HWA.out]
                clear d0 d1 d2 d3 d4
                go_quiet (fail)
                go_wp2_with fail
                go_ret2
                refine misPost_some HE.out rfl ?_ ((below_drewN HBXA.out _).alloc HBXA.out.size _)
                exact (Blk.new _ 29 [.int .i64 4, .string r, .string p]).rds (S := fun _ => True) trivial |>.rd
            · have s1 := seq_f e1
              have s1' : (r6.toList != r.toList) = true := by rw [bne, s1]; rfl
              have HE : Hid (wrongF HL WL = ([⟨4, r, p⟩], 0)) := by show _ = _; rw [HF.out, HST.out (by rw [HSK.out]; simp; exact fun h => absurd h.symm e1), HHX.out]; rfl
              clear e1
              go_upto_region 38 with (fail)
              rw [← HWA.out]
              clear d0 d1 d2 d3 d4
              go_quiet (fail)
              go_wp2_with fail
              go_ret2
              refine misPost_some HE.out rfl ?_ ((below_drewN HBXA.out _).alloc HBXA.out.size _)
              exact (Blk.new _ 29 [.int .i64 4, .string r, .string p]).rds (S := fun _ => True) trivial |>.rd
end Go.Proofs.YtibkohnoibjimaaDoor
