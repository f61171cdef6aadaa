/- Several texts laid into one: The contract of the reference's empty: a sound of zeros; The walk of the reference's empty; The contract of the reference's Check of sounds; The contract of the reference's Below; The contract of deadwaxref4.Times: a whole number from 1 to 50 as a ratio; Generated (gen/rnd.py): the contracts of the reference's round and Round (to the nearest), Clip and Rounded; The contracts of the reference's Round (to the nearest, small numbers), Clip and Rounded; A sound of tracks of the call's own, as cells: what stays, what a store changes; the reference's long; Plain: the marks of a sound that was multiplied; Generated (gen/gai.py): the contract of the reference's Gain; The contract of match.levels; The contracts of match.checkPart, Levels, Marks; The contract of match.Marks; The contract of slices.Equal at []int; How the arguments of the laws of chapter 4 read; How a sound that came in reads; The tables out of a row's list; Generated (gen/gal.py): the walk of MatchMarksKeepWithGain; -/
import Derived.Test.YtlmgdofhmgpljaaDoorLmbC
import Derived.Test.YtlmgdofhmgpljaaDoorRdW0
import Derived.Deep.AppendLies
import Derived.Deep.RegionHeldLaw
import Derived.Deep.RegionHeld3
import Derived.Deep.DrawnRows
import Derived.Deep.DeepCutAuto
import Derived.Deep.CutBlock
import Derived.Deep.RegionLaw
import Derived.Test.YtlmgdofhmgpljaaDoorSndA
import Derived.Test.YtlmgdofhmgpljaaDoorBase
import Derived.Test.YtlmgdofhmgpljaaDoorProg
import Derived.Test.YtlmgdofhmgpljaaDoorPow
import Derived.Test.YtlmgdofhmgpljaaDoorNumI
import Derived.Test.YtlmgdofhmgpljaaDoorLmbK
import Derived.Test.YtlmgdofhmgpljaaDoorLmbJ
import Derived.Test.YtlmgdofhmgpljaaDoorNumT
import Derived.Test.YtlmgdofhmgpljaaDoorCkQ
import Derived.RegionTactic
import Derived.Test.YtlmgdofhmgpljaaDoorDec
import Derived.Lib.LaidTab
import Derived.Test.YtlmgdofhmgpljaaDoorMatchH
/- The contract of the reference's empty: a sound of zeros. -/
namespace Go.Proofs.YtlmgdofhmgpljaaDoor
open Go.RowKit Go.Dw
attribute [local go_sem ↓] Go.wp_at_zero Go.wp_at_succ

theorem infoS : (Tryd.prog.info? 25).map (fun i => (i.zero, i.size, i.bytes)) = some (some (.slice none 0 0), 1, 24) := by kernel_rfl
/-- tracks in blocks of their own -/
def trk (n : Nat) (g : Nat) : Value := .slice (some ⟨g, 0, none⟩) n n
structure EmpS (w wr : World) (gs : List Nat) (n : Nat) (A : Option Addr) (c : Nat) : Prop where
  own : wr.ownsRow w.heap.size 25 1 (.slice A gs.length c) gs.length (gs.map (trk n))
  row : ∀ g ∈ gs, w.heap.size + 1 < g ∧ Blk wr g 3 (zs n (.int .i64 0))
  nd : gs.Nodup
  bel : Below w.heap.size w wr
  k0 : Blk wr w.heap.size 24 [.int .i64 0, .slice none 0 0]
/-- the block of a row of slices is no block of another type -/
theorem own_block {w : World} {base size n : Nat} {e t : TypeId} {v : Value} {xs cs : List Value} {g : Nat} (h : w.ownsRow base e size v n xs) (hb : Blk w g t cs) (hne : e ≠ t) : v.ownBlock ≠ some g := by
  rcases h.2 with ⟨rfl, _⟩ | ⟨g', cap, cur, rfl, _, hk, _⟩
  · simp [Value.ownBlock]
  · intro e2
    injection e2 with e2
    have e3 : g' = g := e2
    subst e3
    have := Option.some.inj (hk.symm.trans hb)
    injection this with _ h2
    exact hne h2
theorem grown_blk {w w' : World} {row : Option Nat} {g : Nat} {t : TypeId} {cs : List Value} (hg : w.grownBy w' row) (h : Blk w g t cs) (hne : row ≠ some g) : Blk w' g t cs :=
  (hg.block g h.lt (fun e => hne e.symm)).trans h
theorem EmpS.snoc {w wr w8 : World} {gs : List Nat} {n : Nat} {A : Option Addr} {c : Nat} (h : EmpS w wr gs n A c) {L : Value} {rate : Int} (hb : Blk wr (w.heap.size + 1) 24 [.int .i64 rate, L]) {g8 cap8 : Nat} {ob : Obj}
    (h1 : w8.ownsRow w.heap.size 25 1 (.slice (some ⟨g8, 0, none⟩) (gs.length + 1) cap8) (gs.length + 1) (gs.map (trk n) ++ [.slice (some ⟨wr.heap.size, 0, none⟩) n n]))
    (h2 : (((wr.alloc (.cells (zs n (.int .i64 0)).toArray 3)).alloc ob).drew).grownBy w8 (Value.slice A gs.length c).ownBlock) :
    EmpS w (w8.setCell ⟨w.heap.size + 1, 1, none⟩ (.slice (some ⟨g8, 0, none⟩) (gs.length + 1) cap8)) (gs ++ [wr.heap.size]) n (some ⟨g8, 0, none⟩) cap8 ∧
    Blk (w8.setCell ⟨w.heap.size + 1, 1, none⟩ (.slice (some ⟨g8, 0, none⟩) (gs.length + 1) cap8)) (w.heap.size + 1) 24 [.int .i64 rate, .slice (some ⟨g8, 0, none⟩) (gs.length + 1) cap8] := by
  have hg0 : Gq wr (((wr.alloc (.cells (zs n (.int .i64 0)).toArray 3)).alloc ob).drew) := (((Gq.refl _).alloc _).alloc _).drew
  have hob := fun (g : Nat) (t : TypeId) (cs : List Value) (hk : Blk wr g t cs) (hne : 25 ≠ t) => own_block h.own hk hne
  have keep : ∀ (g : Nat) (t : TypeId) (cs : List Value), Blk wr g t cs → 25 ≠ t → Blk w8 g t cs := fun g t cs hk hne =>
    grown_blk h2 (hk.same (Same.of_below (S := fun _ => True) hg0) trivial) (hob g t cs hk hne)
  have hnew : Blk w8 wr.heap.size 3 (zs n (.int .i64 0)) := by
    refine grown_blk h2 ?_ (fun e => ?_)
    · have k1 := Blk.new wr 3 (zs n (.int .i64 0))
      exact k1.same (Same.of_below (S := fun _ => True) (((Gq.refl (wr.alloc (.cells (zs n (.int .i64 0)).toArray 3))).alloc ob).drew)) trivial
    · rcases h.own.2 with ⟨h0, _⟩ | ⟨g', cap, cur, hv, _, hk, _⟩
      · rw [h0] at e; simp [Value.ownBlock] at e
      · rw [hv] at e
        injection e with e
        have hlt : g' < wr.heap.size := by
          rcases Nat.lt_or_ge g' wr.heap.size with q | q
          · exact q
          · rw [Array.getElem?_eq_none q] at hk; cases hk
        have : g' = wr.heap.size := e
        omega
  have hB := keep _ _ _ hb (by decide)
  have hsz := hb.lt
  have hsz8 : wr.heap.size < w8.heap.size := hnew.lt
  have oth : ∀ (g : Nat) (t : TypeId) (cs : List Value), g ≠ w.heap.size + 1 → Blk w8 g t cs → Blk (w8.setCell ⟨w.heap.size + 1, 1, none⟩ (.slice (some ⟨g8, 0, none⟩) (gs.length + 1) cap8)) g t cs := fun g t cs hne hk =>
    (Below.heap_setCell w8 ⟨w.heap.size + 1, 1, none⟩ _ g hne).trans hk
  have hg8 : g8 ≠ w.heap.size + 1 := fun e => own_block h1 hB (by decide) (by rw [e]; rfl)
  refine ⟨⟨?_, fun g hg => ?_, ?_, ?_, oth _ _ _ (by omega) (keep _ _ _ h.k0 (by decide))⟩, ?_⟩
  · have e1 : (gs ++ [wr.heap.size]).length = gs.length + 1 := by simp
    have e2 : (gs ++ [wr.heap.size]).map (trk n) = gs.map (trk n) ++ [.slice (some ⟨wr.heap.size, 0, none⟩) n n] := by simp [trk]
    rw [e1, e2]
    refine ⟨h1.1, ?_⟩
    rcases h1.2 with ⟨h0, _⟩ | ⟨g', cap, cur, hv, hge, hk, hr⟩
    · cases h0
    · refine .inr ⟨g', cap, cur, hv, hge, ?_, hr⟩
      injection hv with hv
      injection hv with hv
      injection hv with hv
      rw [← hk]
      exact Below.heap_setCell w8 ⟨w.heap.size + 1, 1, none⟩ _ g' (by rw [← hv]; exact hg8)
  · rcases List.mem_append.1 hg with hg | hg
    · obtain ⟨q1, q2⟩ := h.row g hg
      exact ⟨q1, oth _ _ _ (by omega) (keep _ _ _ q2 (by decide))⟩
    · rw [List.mem_singleton] at hg
      subst hg
      exact ⟨hsz, oth _ _ _ (by omega) hnew⟩
  · rw [List.nodup_append]
    refine ⟨h.nd, by simp, fun a ha b hb hab => ?_⟩
    rw [List.mem_singleton] at hb
    have := (h.row a ha).2.lt
    omega
  · refine Below.setCell (Below.grown (h.bel.trans (Below.mono hg0 h.bel.size)) h2 (by have := hg0.size; have := h.bel.size; omega) (fun b hb => (h.own.lt b hb).1)) (p := ⟨w.heap.size + 1, 1, none⟩) (by show w.heap.size ≤ w.heap.size + 1; omega) _
  · exact hB.set_ 1 _
end Go.Proofs.YtlmgdofhmgpljaaDoor
/- The walk of the reference's empty. -/
namespace Go.Proofs.YtlmgdofhmgpljaaDoor
open Go.RowKit Go.Dw
attribute [local go_sem ↓] Go.wp_at_zero Go.wp_at_succ

set_option maxRecDepth 100000 in
set_option maxHeartbeats 8000000 in
theorem emptyR_any (rate : Int) (T n : Nat) (w : World) (hT : T ≤ 16) (hn : n ≤ 100000) :
    Calls Tryd.prog 14 #[.int .i64 rate, .int .i64 (T : Int), .int .i64 (n : Int)] w fun e w' => ∃ (A : Option Addr) (c : Nat) (gs : List Nat), e = .returned (.agg #[.int .i64 rate, .slice A T c]) ∧ gs.length = T ∧
      Below w.heap.size w w' ∧ w'.ownsRow w.heap.size 25 1 (.slice A T c) T (gs.map (trk n)) ∧ gs.Nodup ∧ ∀ g ∈ gs, w.heap.size < g ∧ Blk w' g 3 (zs n (.int .i64 0)) := by
  obtain ⟨ii, hii, hzi0, hzi1, hzi2⟩ := info_parts infoS
  have HIS := Lib.hid (And.intro hii (And.intro hzi0 (And.intro hzi1 hzi2)))
  obtain ⟨wa, hwa⟩ : ∃ wa, wa = w.alloc (.cells #[.int .i64 0, .slice none 0 0] 24) := ⟨_, rfl⟩
  obtain ⟨w1, hw1⟩ : ∃ w1, w1 = wa.alloc (.cells #[.int .i64 rate, .slice none 0 0] 24) := ⟨_, rfl⟩
  have z1 : wa.heap.size = w.heap.size + 1 := by rw [hwa]; simp
  have ba : Gq w wa := by rw [hwa]; exact (Gq.refl _).alloc _
  have bc : Gq wa w1 := by rw [hw1]; exact (Gq.refl _).alloc _
  have HST : Hid (EmpS w w1 [] n none 0 ∧ Blk w1 (w.heap.size + 1) 24 [.int .i64 rate, .slice none 0 0]) := by
    refine ⟨⟨World.ownsRow_nil _ _ _ _, fun g hg => by simp at hg, List.nodup_nil, ba.trans bc, ?_⟩, ?_⟩
    · refine Blk.same (w := wa) ?_ (Same.of_below (S := fun _ => True) bc) trivial
      rw [hwa]; exact Blk.new w _ _
    · rw [hw1, ← z1]; exact Blk.new wa _ _
  rw [hwa] at hw1
  have HW1 := Lib.hid hw1
  have HMK : ∀ W : World, (Instr.makeSlice 25 (.int .i64 (n : Int)) (.int .i64 (n : Int))).run Tryd.prog W = .ok (.slice (some ⟨W.heap.size, 0, none⟩) n n) (W.alloc (.cells (zs n (.int .i64 0)).toArray 3)) := fun W => run_mkI _ _ rfl (by omega) W
  clear hw1 hwa ba bc z1 hii hzi0 hzi1 hzi2
  go_enter Tryd.func14, Tryd.ntmps14
  go_upto_region 2 with (fail)
  rw [← HW1.out]
  go_wp2_with fail
  go_loopw [8] (fun tv wr => ∃ (t : Nat) (gs : List Nat) (A : Option Addr) (c : Nat), t ≤ T ∧ tv = .int .i64 (t : Int) ∧ gs.length = t ∧ Hid (EmpS w wr gs n A c ∧ Blk wr (w.heap.size + 1) 24 [.int .i64 rate, .slice A gs.length c])) (fun tv _ => T - (intOf tv).toNat)
  case atStart => exact ⟨0, [], none, 0, by omega, rfl, rfl, HST.out⟩
  case round =>
    clear HST HW1
    obtain ⟨t, gs, A, c, ht, rfl, hgs, HI⟩ := hrel
    by_cases hlt : t < T
    · have hd : decide (t < T) = true := by simpa using hlt
      have d0 : wr.cell? ⟨w.heap.size + 1, 0, none⟩ = _ := HI.out.2.cell 0
      have d1 : wr.cell? ⟨w.heap.size + 1, 1, none⟩ = _ := HI.out.2.cell 1
      have f1 := HI.out.2.frozen 1
      simp only [List.getElem?_cons_zero, List.getElem?_cons_succ] at d0 d1
      rw [hgs] at d1
      have hbl : w.heap.size + 1 < wr.heap.size := HI.out.2.lt
      have hA1 : ∀ o, (wr.alloc o).cell? ⟨w.heap.size + 1, 1, none⟩ = some (.slice A t c) := fun o => by rw [Below.cell ((Below.refl _ _).alloc (Nat.le_refl _) o) (by exact hbl)]; exact d1
      have hA2 : ∀ o1 o2, ((wr.alloc o1).alloc o2).cell? ⟨w.heap.size + 1, 1, none⟩ = some (.slice A t c) := fun o1 o2 => by rw [Below.cell (((Below.refl wr.heap.size wr).alloc (Nat.le_refl _) o1).alloc (by simp) o2) (by exact hbl)]; exact d1
      have HO := Lib.hid HI.out.1.own
      have hszr := HI.out.1.bel.size
      have HNX : Hid (∀ (g8 cap8 : Nat) (w8 : World), w8.ownsRow w.heap.size 25 1 (.slice (some ⟨g8, 0, none⟩) (t + 1) cap8) (t + 1) (gs.map (trk n) ++ [.slice (some ⟨wr.heap.size, 0, none⟩) n n]) → (((wr.alloc (.cells (zs n (.int .i64 0)).toArray 3)).alloc (.cells #[.slice (some ⟨wr.heap.size, 0, none⟩) n n] 25)).drew).grownBy w8 (Value.slice A t c).ownBlock →
          EmpS w (w8.setCell ⟨w.heap.size + 1, 1, none⟩ (.slice (some ⟨g8, 0, none⟩) (t + 1) cap8)) (gs ++ [wr.heap.size]) n (some ⟨g8, 0, none⟩) cap8 ∧
          Blk (w8.setCell ⟨w.heap.size + 1, 1, none⟩ (.slice (some ⟨g8, 0, none⟩) (t + 1) cap8)) (w.heap.size + 1) 24 [.int .i64 rate, .slice (some ⟨g8, 0, none⟩) (t + 1) cap8] ∧
          w8.cell? ⟨w.heap.size + 1, 1, none⟩ = some (.slice A t c) ∧ w8.frozen? ⟨w.heap.size + 1, 1, none⟩ = false) := fun g8 cap8 w8 h1 h2 => by
        subst hgs
        have hk : Blk w8 (w.heap.size + 1) 24 [.int .i64 rate, .slice A gs.length c] :=
          grown_blk h2 (HI.out.2.same (Same.of_below (S := fun _ => True) ((((Gq.refl _).alloc _).alloc _).drew)) trivial) (own_block HI.out.1.own HI.out.2 (by decide))
        obtain ⟨q1, q2⟩ := HI.out.1.snoc HI.out.2 h1 h2
        exact ⟨q1, q2, hk.cell 1, hk.frozen 1⟩
      have HOD : Hid (∀ o1 o2, (((wr.alloc o1).alloc o2).drew).ownsRow w.heap.size 25 1 (.slice A t c) t (gs.map (trk n))) := fun o1 o2 => by
        have := ((HO.out.alloc o1).alloc o2).drew
        rw [hgs] at this
        exact this
      have hN1 : ((wr.alloc (.cells (zs n (.int .i64 0)).toArray 3)).alloc (.cells #[.slice (some ⟨wr.heap.size, 0, none⟩) n n] 25)).heap[wr.heap.size + 1]? = some (.cells #[.slice (some ⟨wr.heap.size, 0, none⟩) n n] 25 (0, 0)) := by
        have := heap_alloc_new (wr.alloc (.cells (zs n (.int .i64 0)).toArray 3)) (.cells #[.slice (some ⟨wr.heap.size, 0, none⟩) n n] 25)
        rw [show (wr.alloc (.cells (zs n (.int .i64 0)).toArray 3)).heap.size = wr.heap.size + 1 by simp] at this
        exact this
      have HN1 := Lib.hid hN1
      have hgl : (gs.map (trk n)).length = t := by simp [hgs]
      have hw2 : IntKind.i64.wrap ((t : Int) + 1) = (t : Int) + 1 := IntWalk.i64_in _ (by omega)
      have HGL : Hid ((gs ++ [wr.heap.size]).length = t + 1) := by show _ = _; simp [hgs]
      clear hN1 hgl HO HI
      go_upto_region 5 with (fail)
      go_region_law (refine step_append_lies _ ?_ (.tmp 17) (.tmp 20) 22 ?_ w.heap.size 25 ii _ 1 24 Tryd.underlying22 HIS.out.1 HIS.out.2.1 HIS.out.2.2.1 HIS.out.2.2.2 rfl ?_ (.slice A t c) t (gs.map (trk n)) ?_ (HOD.out _ _) ⟨wr.heap.size + 1, 0, none⟩ 1 1 [.slice (some ⟨wr.heap.size, 0, none⟩) n n] ?_ ?_ (World.news_of_block (cs := #[.slice (some ⟨wr.heap.size, 0, none⟩) n n]) (t := 25) (fr := (0, 0)) HN1.out) (by simp [Value.oneCell']) ?_ (by unfold maxLen; omega) (by omega) (by simp; omega) (wr.heap.size + 1 + 1) (by simp) ?_; rfl; rfl; decide; rfl; rfl; rfl; decide; intro g8 cap8 w8 hown8 hgrow8 hat8 hlt8; obtain ⟨hF1, hF2, e1, e2⟩ := HNX.out _ _ _ hown8 hgrow8; have HF1 := Lib.hid hF1; have HF2 := Lib.hid hF2; clear hF1 hF2 hown8 hgrow8 hat8 hlt8)
      all_goals
        go_wp2_with fail
        go_roundw
        case rel => exact ⟨t + 1, gs ++ [wr.heap.size], _, cap8, by omega, by go_num, HGL.out, by rw [HGL.out]; exact ⟨HF1.out, HF2.out⟩⟩
        case measure => simp [intOf]; omega
    · have htT : t = T := by omega
      have hd : decide (t < T) = false := by simpa using hlt
      subst htT
      subst hgs
      have d0 : wr.cell? ⟨w.heap.size + 1, 0, none⟩ = _ := HI.out.2.cell 0
      have d1 : wr.cell? ⟨w.heap.size + 1, 1, none⟩ = _ := HI.out.2.cell 1
      have c0 : wr.cell? ⟨w.heap.size, 0, none⟩ = _ := HI.out.1.k0.cell 0
      have c1 : wr.cell? ⟨w.heap.size, 1, none⟩ = _ := HI.out.1.k0.cell 1
      have f0 := HI.out.1.k0.frozen 0
      have f1 := HI.out.1.k0.frozen 1
      simp only [List.getElem?_cons_zero, List.getElem?_cons_succ] at d0 d1 c0 c1
      obtain ⟨wz, hwz⟩ : ∃ wz, wz = (wr.setCell ⟨w.heap.size, 0, none⟩ (.int .i64 rate)).setCell ⟨w.heap.size, 1, none⟩ (.slice A gs.length c) := ⟨_, rfl⟩
      have k5 : Blk wz w.heap.size 24 [.int .i64 rate, .slice A gs.length c] := by rw [hwz]; exact (HI.out.1.k0.set_ 0 _).set_ 1 _
      have k2 : wz.cell? ⟨w.heap.size, 0, none⟩ = _ := k5.cell 0
      have k3 : wz.cell? ⟨w.heap.size, 1, none⟩ = _ := k5.cell 1
      simp only [List.getElem?_cons_zero, List.getElem?_cons_succ] at k2 k3
      have oth : ∀ b, b ≠ w.heap.size → wz.heap[b]? = wr.heap[b]? := fun b hb => by
        rw [hwz, Below.heap_setCell _ ⟨w.heap.size, 1, none⟩ _ b hb, Below.heap_setCell _ ⟨w.heap.size, 0, none⟩ _ b hb]
      have HFI : Hid (Below w.heap.size w wz ∧ wz.ownsRow w.heap.size 25 1 (.slice A gs.length c) gs.length (gs.map (trk n)) ∧ gs.Nodup ∧ ∀ g ∈ gs, w.heap.size < g ∧ Blk wz g 3 (zs n (.int .i64 0))) := by
        refine ⟨?_, ?_, HI.out.1.nd, fun g hg => ?_⟩
        · rw [hwz]
          exact (HI.out.1.bel.setCell (p := ⟨w.heap.size, 0, none⟩) (Nat.le_refl _) _).setCell (p := ⟨w.heap.size, 1, none⟩) (Nat.le_refl _) _
        · have hne := own_block HI.out.1.own HI.out.1.k0 (by decide)
          refine ⟨HI.out.1.own.1, ?_⟩
          rcases HI.out.1.own.2 with h0 | ⟨g', cap, cur, hv, hge, hk, hr⟩
          · exact .inl h0
          · refine .inr ⟨g', cap, cur, hv, hge, ?_, hr⟩
            rw [oth g' (fun e => hne (by rw [hv, e]; rfl))]
            exact hk
        · obtain ⟨q1, q2⟩ := HI.out.1.row g hg
          exact ⟨by omega, (oth g (by omega)).trans q2⟩
      have HWZ := Lib.hid hwz
      clear HI hwz oth k5
      go_wp2_with fail
      rw [← HWZ.out]
      exact bodyPost_ret (v := .agg #[.int .i64 rate, .slice A gs.length c]) (by simp [results, Tryd.results14, go_sem, k2, k3]) rfl ⟨A, c, gs, rfl, rfl, HFI.out⟩
end Go.Proofs.YtlmgdofhmgpljaaDoor
/- The contract of the reference's Check of sounds. -/
namespace Go.Proofs.YtlmgdofhmgpljaaDoor
open Go.RowKit Go.Dw
attribute [local go_sem ↓] Go.wp_at_zero Go.wp_at_succ

theorem drewN_two (w : World) (m n : Nat) : (w.drewN m).drewN n = w.drewN (m + n) := by simp [World.drewN, Nat.add_assoc]
theorem rIsRate_any (n : Int) (w : World) : Calls Tryd.prog 24 #[.int .i64 n] w fun e w' => e = .returned (.bool (decide (1 ≤ n) && decide (n ≤ 1000000))) ∧ w = w' := by
  by_cases h1 : 1 ≤ n
  · go_enter Tryd.func24, Tryd.ntmps24
    go_wp2
    go_ret
    exact ⟨ret_bool (by simp [h1]), rfl⟩
  · go_enter Tryd.func24, Tryd.ntmps24
    go_wp2
    go_ret
    exact ⟨ret_bool (by simp; omega), rfl⟩
set_option maxHeartbeats 2000000 in
theorem rsndCheck_any (x : Snd) (w : World) (h : x.Ok w) :
    Calls Tryd.prog 12 #[x.v] w fun e w' => e = .returned (.int .i64 (chkS x.rate x.rows)) ∧ Below w.heap.size w w' := by
  have HRA := Lib.hid x.rows_at
  have HRL := Lib.hid x.rows_len
  have hb0 : Below w.heap.size w (w.alloc (.cells #[.int .i64 x.rate, x.p.v] 24)) := (Below.refl _ _).alloc (Nat.le_refl _) _
  have h1 := h.below hb0
  have HB0 := Lib.hid hb0
  have HNE : Hid (x.n = (x.rows.getD 0 []).length) := rfl
  have HN0 : Hid (∀ hp : 0 < x.p.xs.length, x.n = x.p.xs[0].xs.length) := fun hp => by unfold Snd.n; rw [x.rows_at 0 hp]
  clear hb0
  generalize x.n = n0 at *
  generalize x.rows = rows at *
  obtain ⟨rate, ⟨A, c, L⟩⟩ := x
  obtain ⟨hn, hrd, hrs⟩ := h1
  clear h
  simp only [Snd.v, Slc.v] at *
  have HRS := Lib.hid hrs
  clear hrs
  by_cases ht : 1 ≤ rate ∧ rate ≤ 1000000
  case neg =>
    have HE := Lib.hid (chkS_1 (T := rows) ht)
    have hrt : (decide (1 ≤ rate) && decide (rate ≤ 1000000)) = false := by simp; omega
    have HRT := Lib.hid (fun W => (by have := rIsRate_any rate W; rw [hrt] at this; exact this : Calls Tryd.prog 24 #[.int .i64 rate] W fun e w' => e = .returned (.bool false) ∧ W = w'))
    clear ht hrt
    go_enter Tryd.func12, Tryd.ntmps12
    go_wp2_with fail
    refine (HRT.out _).mono ?_
    rintro e w1 ⟨rfl, rfl⟩
    go_wp2_with fail
    go_ret
    exact ⟨ret_int HE.out.symm, HB0.out⟩
  have hrt : (decide (1 ≤ rate) && decide (rate ≤ 1000000)) = true := by simpa using ht
  have HRT := Lib.hid (fun W => (by have := rIsRate_any rate W; rw [hrt] at this; exact this : Calls Tryd.prog 24 #[.int .i64 rate] W fun e w' => e = .returned (.bool true) ∧ W = w'))
  have HT := Lib.hid ht
  clear ht hrt
  by_cases hl0 : L.length = 0
  · have HE := Lib.hid (chkS_9 (T := rows) HT.out (by rw [HRL.out]; exact hl0))
    have hl0' : ((L.length : Int) == 0) = true := by simpa using hl0
    clear hl0
    go_enter Tryd.func12, Tryd.ntmps12
    go_wp2_with fail
    refine (HRT.out _).mono ?_
    rintro e w1 ⟨rfl, rfl⟩
    go_wp2_with fail
    go_ret
    exact ⟨ret_int HE.out.symm, HB0.out⟩
  have hl0' : ((L.length : Int) == 0) = false := by simpa using hl0
  have HL0 := Lib.hid hl0
  by_cases hl : 16 < L.length
  · have HE := Lib.hid (chkS_2 (T := rows) HT.out (by rw [HRL.out]; exact hl0) (.inl (by rw [HRL.out]; exact hl)))
    have hl' : decide ((16 : Int) < (L.length : Int)) = true := by simp; omega
    clear hl0
    go_enter Tryd.func12, Tryd.ntmps12
    go_wp2_with fail
    refine (HRT.out _).mono ?_
    rintro e w1 ⟨rfl, rfl⟩
    go_wp2_with fail
    go_ret
    exact ⟨ret_int HE.out.symm, HB0.out⟩
  have hl' : decide ((16 : Int) < (L.length : Int)) = false := by simp; omega
  have hp : 0 < L.length := by omega
  have hpi : (0 : Int) < (L.length : Int) := by omega
  obtain ⟨b, off, rfl, hb, hc⟩ := hrd.at_ (by simp; omega)
  have HCE : Hid (∀ k (hk : k < L.length), (w.alloc (.cells #[.int .i64 rate, .slice (some ⟨b, off, none⟩) L.length c] 24)).cell? ⟨b, off + k, none⟩ = some L[k].v) := fun k hk => hc k (L[k].v) (by simp [hk])
  have c0 := HCE.out 0 hp
  have hx0 := HN0.out hp
  have hx0' : L[0].xs.length = n0 := hx0.symm
  have v0 : L[0].v = .slice L[0].a n0 L[0].c := by show Value.slice _ _ _ = _; rw [hx0']
  rw [v0, Nat.add_zero] at c0
  have hn0 : n0 ≤ 9223372036854775807 := by rw [hx0]; exact (HRS.out L[0] (List.getElem_mem hp)).1
  generalize L[0].a = a0 at c0
  generalize L[0].c = cc0 at c0
  clear hc hx0 hx0' v0 HN0
  by_cases hl2 : 100000 < n0
  · have HE := Lib.hid (chkS_2 (T := rows) HT.out (by rw [HRL.out]; exact hl0) (.inr (by rw [← HNE.out]; exact hl2)))
    have hl2' : decide ((100000 : Int) < (n0 : Int)) = true := by simp; omega
    go_enter Tryd.func12, Tryd.ntmps12
    go_wp2_with fail
    refine (HRT.out _).mono ?_
    rintro e w1 ⟨rfl, rfl⟩
    go_wp2_with fail
    go_ret
    exact ⟨ret_int HE.out.symm, HB0.out⟩
  have hl2' : decide ((100000 : Int) < (n0 : Int)) = false := by simp; omega
  have HL3 : Hid (¬ (16 < rows.length ∨ 100000 < (rows.getD 0 []).length)) := by show ¬ _; rw [HRL.out, ← HNE.out]; show ¬ (16 < L.length ∨ _); omega
  go_enter Tryd.func12, Tryd.ntmps12
  go_wp2_with fail
  refine (HRT.out _).mono ?_
  rintro e w1 ⟨rfl, rfl⟩
  have k1 : (w.alloc (.cells #[.int .i64 rate, .slice (some ⟨b, off, none⟩) L.length c] 24)).cell? ⟨w.heap.size, 1, none⟩ = some (.slice (some ⟨b, off, none⟩) L.length c) := new_cell (cs := [_, _]) rfl rfl
  generalize w.alloc (.cells #[.int .i64 rate, .slice (some ⟨b, off, none⟩) L.length c] 24) = w1 at *
  go_wp2_with fail
  go_loopw [3] (fun i wr => ∃ k : Nat, k ≤ L.length ∧ i = .int .i64 k ∧ Hid (∀ j, j < k → trkF n0 (rows.getD j []) = 0) ∧ ∃ m, wr = w1.drewN m) (fun i _ => L.length - (intOf i).toNat)
  case atStart => exact ⟨0, Nat.zero_le _, rfl, by intro j hj; omega, 0, rfl⟩
  case round =>
    obtain ⟨k, hk, rfl, hall, m, rfl⟩ := hrel
    by_cases hlt : k < L.length
    case neg =>
      have HE := Lib.hid (chkS_end (T := rows) HT.out (by rw [HRL.out]; exact HL0.out) HL3.out (fun j hj => by rw [← HNE.out]; exact hall.out j (by rw [HRL.out] at hj; have hj' : j < L.length := hj; omega)))
      have hd0 : decide (k < L.length) = false := by simpa using hlt
      go_wp2_with fail
      go_ret
      exact ⟨ret_int HE.out.symm, below_drewN HB0.out m⟩
    have hck := HCE.out k hlt
    obtain ⟨hlen, hrdk, _⟩ := HRS.out L[k] (List.getElem_mem hlt)
    have HRK := Lib.hid (HRA.out k hlt)
    have HBAD : Hid (trkF n0 (rows.getD k []) ≠ 0 → chkS rate rows = trkF n0 (rows.getD k [])) := fun hh => by
      have := @chkS_row rate rows HT.out (by rw [HRL.out]; exact HL0.out) HL3.out k (by rw [HRL.out]; exact hlt)
      rw [← HNE.out] at this
      exact this hall.out hh
    have HSTEP := Lib.hid (@step_all (fun j => trkF n0 (rows.getD j [])) k hall.out)
    generalize L[k] = s at *
    obtain ⟨a, cc, xs⟩ := s
    simp only [Slc.v] at hck hrdk hlen
    have e4 : Hid (rows.getD k [] = xs) := HRK.out
    clear HRK
    have hd0 : decide (k < L.length) = true := by simpa using hlt
    have j0 : (0 : Int) ≤ (k : Int) := by omega
    have j1 : (k : Int) < (L.length : Int) := by omega
    by_cases hlx : xs.length = n0
    case neg =>
      have h3 : ((xs.length : Int) != (n0 : Int)) = true := by simp; omega
      have e3 := Lib.hid (trkF_3 hlx)
      clear hlx
      go_wp2_with fail
      go_quiet (fail)
      go_wp2_with fail
      go_ret
      exact ⟨ret_int (by rw [HBAD.out (by rw [e4.out, e3.out]; decide), e4.out, e3.out]), below_drewN (below_drewN HB0.out _) _⟩
    have h3 : ((xs.length : Int) != (n0 : Int)) = false := by simp; omega
    have HX := Lib.hid hlx
    have hx20 : xs.length ≤ 100000 := by omega
    clear hlx
    have HRX : Hid (Rd w1 a (ic xs)) := hrdk
    clear hrdk
    go_wp2_with fail
    go_quiet (fail)
    go_wp2_with fail
    go_loopw [4] (fun i wr => ∃ j : Nat, j ≤ xs.length ∧ i = .int .i64 j ∧ Hid ((xs.take j).all okS = true) ∧ ∃ m, wr = w1.drewN m) (fun i _ => xs.length - (intOf i).toNat)
    case atStart => exact ⟨0, Nat.zero_le _, rfl, by simp [Hid], _, drewN_two _ _ _⟩
    case round =>
      obtain ⟨j, hj, rfl, hall2, m2, rfl⟩ := hrel
      by_cases hlj : j < xs.length
      · obtain ⟨b2, off2, rfl, hb2, hc2⟩ := HRX.out.at_ (by simp [ic_length]; omega)
        have hcj := hc2 j _ (ic_at xs j hlj)
        clear hc2
        have hsn : Hid ((xs.take (j + 1)).all okS = ((xs.take j).all okS && okS xs[j])) := all_take_succ' _ _ _ hlj
        have e3 := Lib.hid (fun hv => trkF_1 HX.out hlj hv)
        have hd1 : decide (j < xs.length) = true := by simpa using hlj
        have j2 : (0 : Int) ≤ (j : Int) := by omega
        have j3 : (j : Int) < (xs.length : Int) := by omega
        generalize xs[j] = y at *
        cases hq : okS y with
        | true =>
          have HQ := Lib.hid hq
          obtain ⟨g1, g2⟩ := okS_t hq
          have g3 : decide (y < -8388608) = false := by simpa using g1
          have g4 : decide (8388607 < y) = false := by simpa using g2
          clear hq g1 g2
          go_wp2_with fail
          go_roundw
          case rel => exact ⟨j + 1, by omega, by go_num, by show _ = _; rw [hsn.out, hall2.out, HQ.out]; rfl, _, rfl⟩
          case measure => simp [intOf]; omega
        | false =>
          have HQ := Lib.hid hq
          have g := okS_f hq
          rcases (show y < -8388608 ∨ (¬ y < -8388608 ∧ 8388607 < y) by omega) with g1 | ⟨g1, g2⟩
          · have g3 : decide (y < -8388608) = true := by simpa using g1
            clear hq g g1
            go_wp2_with fail
            go_ret
            exact ⟨ret_int (by rw [HBAD.out (by rw [e4.out, e3.out HQ.out]; decide), e4.out, e3.out HQ.out]), below_drewN HB0.out _⟩
          · have g3 : decide (y < -8388608) = false := by simpa using g1
            have g4 : decide (8388607 < y) = true := by simpa using g2
            clear hq g g1 g2
            go_wp2_with fail
            go_ret
            exact ⟨ret_int (by rw [HBAD.out (by rw [e4.out, e3.out HQ.out]; decide), e4.out, e3.out HQ.out]), below_drewN HB0.out _⟩
      · have hfull : xs.take j = xs := List.take_of_length_le (by omega)
        have h4 := hall2.out
        rw [hfull] at h4
        have H4 := Lib.hid h4
        have hd1 : decide (j < xs.length) = false := by simpa using hlj
        clear h4 hfull
        go_wp2_with fail
        go_roundw
        case rel => exact ⟨k + 1, by omega, by go_num, HSTEP.out (by rw [e4.out]; exact trkF_0 HX.out H4.out), _, rfl⟩
        case measure => simp [intOf]; omega
end Go.Proofs.YtlmgdofhmgpljaaDoor
/- The contract of the reference's Below. -/
namespace Go.Proofs.YtlmgdofhmgpljaaDoor
open Go.RowKit Go.Dw

set_option maxHeartbeats 400000 in
theorem belowN_any (a : Int) (n : Nat) (w : World) (h1 : 1 ≤ n) (h2 : n ≤ 1000) :
    Calls Tryd.prog 21 #[.int .i64 a, .int .i64 (n : Int)] w fun e w' => ∃ r : Nat, r < n ∧ e = .returned (.int .i64 (r : Int)) ∧ w = w' := by
  have hlt := Int.tmod_lt_of_pos a (b := (n : Int)) (by omega)
  have hgt : -(n : Int) < a.tmod n := by
    have := Int.lt_tmod_of_pos a (b := (n : Int)) (by omega)
    omega
  have hn0 : ¬ (n : Int) = 0 := by omega
  have hn0' : ((n : Int) == 0) = false := by simpa using hn0
  have hw0 : wrap64 (a.tmod (n : Int)) = a.tmod n := IntWalk.wrap64_in _ (by omega)
  have hw1 : wrap64 (a.tmod (n : Int) + n) = a.tmod n + n := IntWalk.wrap64_in _ (by omega)
  by_cases h : a.tmod (n : Int) < 0
  · go_enter Tryd.func21, Tryd.ntmps21
    go_wp2_with fail
    go_ret
    exact ⟨(a.tmod (n : Int) + n).toNat, by omega, ret_int (by omega), rfl⟩
  · go_enter Tryd.func21, Tryd.ntmps21
    go_wp2_with fail
    go_ret
    exact ⟨(a.tmod (n : Int)).toNat, by omega, ret_int (by omega), rfl⟩
end Go.Proofs.YtlmgdofhmgpljaaDoor
/- The contract of deadwaxref4.Times: a whole number from 1 to 50 as a ratio. -/
namespace Go.Proofs.YtlmgdofhmgpljaaDoor
open Go.RowKit Go.Dw
attribute [local go_sem ↓] Go.wp_at_zero Go.wp_at_succ

/-- a whole number's ratio -/
theorem whole_ratF {t : Nat} (h1 : 1 ≤ t) (h2 : t ≤ 50) : ratF ⟨(Lib.decDigits t).toArray⟩ ⟨#[49]⟩ = 0 := by
  have h : ∀ t : Fin 51, 1 ≤ t.val → ratF ⟨(Lib.decDigits t.val).toArray⟩ ⟨#[49]⟩ = 0 := by decide +kernel
  exact h ⟨t, by omega⟩ h1
theorem whole_val {t : Nat} (h1 : 1 ≤ t) (h2 : t ≤ 50) : numZ ⟨(Lib.decDigits t).toArray⟩ = (t : Int) ∧ valD (⟨#[49]⟩ : ByteArray).data.toList = 1 ∧ (⟨(Lib.decDigits t).toArray⟩ : ByteArray).size ≤ 2 := by
  have h : ∀ t : Fin 51, 1 ≤ t.val → (decide (numZ ⟨(Lib.decDigits t.val).toArray⟩ = (t.val : Int)) && decide ((Lib.decDigits t.val).length ≤ 2)) = true := by decide +kernel
  have g := h ⟨t, by omega⟩ h1
  rw [Bool.and_eq_true] at g
  refine ⟨of_decide_eq_true g.1, by decide, ?_⟩
  have := of_decide_eq_true g.2
  simpa [ByteArray.size] using this
set_option maxRecDepth 100000 in
set_option maxHeartbeats 4000000 in
theorem timesT_any (n : Int) (w : World) (hp : HasPow w) :
    Calls Tryd.prog 7 #[.int .i64 n] w fun e w' => ∃ t : Nat, 1 ≤ t ∧ t ≤ 50 ∧ e = .returned (.agg #[.string ⟨(Lib.decDigits t).toArray⟩, .string ⟨#[49]⟩]) ∧ Below w.heap.size w w' := by
  obtain ⟨w1, hw1⟩ : ∃ w1, w1 = w.alloc (.cells #[.string ⟨#[]⟩, .string ⟨#[]⟩] 33) := ⟨_, rfl⟩
  have HB1 : Hid (Below w.heap.size w w1) := by rw [hw1]; exact (Below.refl _ _).alloc (Nat.le_refl _) _
  have HKA : Hid (Blk w1 w.heap.size 33 [.string ⟨#[]⟩, .string ⟨#[]⟩]) := by rw [hw1]; exact Blk.new w _ _
  have HBN := Lib.hid (belowN_any n 50 w1 (by omega) (by omega))
  have HPW : Hid (HasPow w1) := hp.below HB1.out
  have HW1 := Lib.hid hw1
  clear hw1 hp
  go_enter Tryd.func7, Tryd.ntmps7
  go_upto_region 1 with (fail)
  rw [← HW1.out]
  go_wp2_with fail
  refine HBN.out.mono ?_
  rintro e w2 ⟨r, hr, rfl, hww⟩
  subst hww
  have HIT := Lib.hid (itoaN_any (1 + r) w1 (by omega) HPW.out)
  have hwr : IntKind.i64.wrap (1 + (r : Int)) = 1 + (r : Int) := IntWalk.i64_in _ (by omega)
  have e1 : ((1 + r : Nat) : Int) = 1 + (r : Int) := by omega
  rw [e1] at HIT
  clear e1
  go_wp2_with fail
  refine HIT.out.mono ?_
  rintro e w3 ⟨rfl, hb3⟩
  have k := blk_gqr HKA.out (hb3 : Gq w1 w3)
  have e0 : w3.cell? ⟨w.heap.size, 0, none⟩ = _ := k.cell 0
  have e1 : w3.cell? ⟨w.heap.size, 1, none⟩ = _ := k.cell 1
  have e2 := k.frozen 0
  have e3 := k.frozen 1
  simp only [List.getElem?_cons_zero, List.getElem?_cons_succ] at e0 e1
  obtain ⟨T, hT⟩ : ∃ T : ByteArray, T = ⟨(Lib.decDigits (1 + r)).toArray⟩ := ⟨_, rfl⟩
  have k5 := (k.set_ 0 (.string T)).set_ 1 (.string ⟨#[49]⟩)
  have k2 : ((w3.setCell ⟨w.heap.size, 0, none⟩ (.string T)).setCell ⟨w.heap.size, 1, none⟩ (.string ⟨#[49]⟩)).cell? ⟨w.heap.size, 0, none⟩ = _ := k5.cell 0
  have k3 : ((w3.setCell ⟨w.heap.size, 0, none⟩ (.string T)).setCell ⟨w.heap.size, 1, none⟩ (.string ⟨#[49]⟩)).cell? ⟨w.heap.size, 1, none⟩ = _ := k5.cell 1
  simp only [List.set_cons_zero, List.set_cons_succ, List.getElem?_cons_zero, List.getElem?_cons_succ] at k2 k3
  have HB : Hid (Below w.heap.size w ((w3.setCell ⟨w.heap.size, 0, none⟩ (.string T)).setCell ⟨w.heap.size, 1, none⟩ (.string ⟨#[49]⟩))) :=
    ((HB1.out.trans (Below.mono hb3 HB1.out.size)).setCell (p := ⟨w.heap.size, 0, none⟩) (Nat.le_refl _) _).setCell (p := ⟨w.heap.size, 1, none⟩) (Nat.le_refl _) _
  rw [← hT]
  have HT := Lib.hid hT
  clear hb3 k k5 hT HIT
  go_wp2_with fail
  exact bodyPost_ret (v := .agg #[.string T, .string ⟨#[49]⟩]) (by simp [results, Tryd.results7, go_sem, k2, k3]) rfl ⟨1 + r, by omega, by omega, by rw [HT.out], HB.out⟩
end Go.Proofs.YtlmgdofhmgpljaaDoor
/- Generated (gen/rnd.py): the contracts of the reference's round and Round (to the nearest), Clip and Rounded. -/
namespace Go.Proofs.YtlmgdofhmgpljaaDoor
open Go.RowKit Go.Dw
attribute [local go_sem ↓] Go.wp_at_zero Go.wp_at_succ
attribute [local go_sem] Go.Dw.Oper.tame

/-- the nearest whole number to the absolute value, halves away from 0 -/
def nearN (q : Rat) : Nat := if q.den ≤ q.num.natAbs % q.den + q.num.natAbs % q.den then q.num.natAbs / q.den + 1 else q.num.natAbs / q.den
theorem nearN_le (q : Rat) : nearN q ≤ q.num.natAbs + 1 := by
  unfold nearN
  have := Nat.div_le_self q.num.natAbs q.den
  split <;> omega
def rndF (wd : World) (g : Nat) (s : Bool) (A : Option Addr) (L c : Nat) (B : Option Addr) (M d : Nat) (X : Option Addr) (N j9 : Nat) (rr dn : Nat) (cr : Int) (ub : Bool) : List Fact := [
  ⟨[], fun _ W => Gq wd W ∧ Blk W g 48 [.bool s, .slice A L c, .slice B M d] ∧ LimV W (.slice X N j9) rr ∧ LimV W (.slice B M d) dn⟩,
  ⟨[0], fun vs _ => vs 0 = .slice X N j9⟩,
  ⟨[1], fun vs _ => vs 1 = .slice X N j9⟩,
  ⟨[2], fun vs W => ∃ X3 N3 j3, vs 2 = .slice X3 N3 j3 ∧ LimV W (.slice X3 N3 j3) (rr + rr)⟩,
  ⟨[3], fun vs _ => vs 3 = .pointer (some ⟨g, 2, none⟩)⟩,
  ⟨[4], fun vs _ => vs 4 = .slice B M d⟩,
  ⟨[5], fun vs _ => vs 5 = .int .i64 cr⟩,
  ⟨[6], fun vs _ => vs 6 = .bool ub⟩,
  ⟨[7], fun vs _ => vs 7 = .bool ub⟩]
theorem rndK (wd : World) (g : Nat) (s : Bool) (A : Option Addr) (L c : Nat) (B : Option Addr) (M d : Nat) (X : Option Addr) (N j9 : Nat) (rr dn : Nat) (cr : Int) (ub : Bool) : ∀ f ∈ rndF wd g s A L c B M d X N j9 rr dn cr ub, ∀ vs w w', Gq w w' → f.says vs w → f.says vs w' :=
  fa_cons (fun _ _ _ hg h => ⟨h.1.trans hg, blk_gqr h.2.1 hg, h.2.2.1.below hg, h.2.2.2.below hg⟩) <|
  fa_cons (fun _ _ _ _ h => h) <|
  fa_cons (fun _ _ _ _ h => h) <|
  fa_cons (fun _ _ _ hg h => (by obtain ⟨X3, N3, j3, h1, h2⟩ := h; exact ⟨X3, N3, j3, h1, h2.below hg⟩)) <|
  fa_cons (fun _ _ _ _ h => h) <|
  fa_cons (fun _ _ _ _ h => h) <|
  fa_cons (fun _ _ _ _ h => h) <|
  fa_cons (fun _ _ _ _ h => h) <|
  fa_cons (fun _ _ _ _ h => h) <|
  fa_nil _
set_option maxRecDepth 100000 in
set_option maxHeartbeats 8000000 in
theorem roundR_any (va : Value) (q : Rat) (w : World) (h : NumQ w va q) (k : Nat) (hk : RLim k q) (hk2 : k ≤ 1000000) :
    Calls Tryd.prog 41 #[va, .int .i64 2] w (LimR (nearN q) w) := by
  obtain ⟨s, hs⟩ : ∃ s, decide (q.num < 0) = s := ⟨_, rfl⟩
  unfold NumQ at h
  rw [hs] at h
  clear hs
  obtain ⟨A, L, c, B, M, d, rfl, hu, hx⟩ := num_agg h
  obtain ⟨w1, hw1⟩ : ∃ w1, w1 = w.alloc (.cells #[.bool s, .slice A L c, .slice B M d] 48) := ⟨_, rfl⟩
  have HB1 : Hid (Gq w w1) := by rw [hw1]; exact (Gq.refl _).alloc _
  have HKA : Hid (Blk w1 w.heap.size 48 [.bool s, .slice A L c, .slice B M d]) := by rw [hw1]; exact Blk.new w _ _
  have c0 : w1.cell? ⟨w.heap.size, 0, none⟩ = _ := HKA.out.cell 0
  have c1 : w1.cell? ⟨w.heap.size, 1, none⟩ = _ := HKA.out.cell 1
  have c2 : w1.cell? ⟨w.heap.size, 2, none⟩ = _ := HKA.out.cell 2
  simp only [List.getElem?_cons_zero, List.getElem?_cons_succ] at c0 c1 c2
  have HDV := Lib.hid (divideR_any _ _ q.num.natAbs q.den w1 (hu.below HB1.out) (hx.below HB1.out) q.den_pos k k hk.1 hk.2 (by omega) (by omega))
  have HXB : Hid (LimV w1 (.slice B M d) q.den) := hx.below HB1.out
  have HN : Hid (nearN q = if q.den ≤ q.num.natAbs % q.den + q.num.natAbs % q.den then q.num.natAbs / q.den + 1 else q.num.natAbs / q.den) := rfl
  obtain ⟨n, hn⟩ : ∃ n, nearN q = n := ⟨_, rfl⟩
  rw [hn] at HN ⊢
  clear hn
  obtain ⟨rr, hrr⟩ : ∃ rr, q.num.natAbs % q.den = rr := ⟨_, rfl⟩
  obtain ⟨qq, hqq⟩ : ∃ qq, q.num.natAbs / q.den = qq := ⟨_, rfl⟩
  obtain ⟨dn, hdn⟩ : ∃ dn, q.den = dn := ⟨_, rfl⟩
  have HK2 := Lib.hid hk2
  have HLR : Hid (Lim (k + 1) rr) := by rw [← hrr]; exact (hk.1.le (Nat.mod_le _ _)).mono (by omega)
  have HLD : Hid (Lim (k + 2) dn) := by rw [← hdn]; exact hk.2.mono (by omega)
  have HLQ : Hid (Lim (k + 1) qq) := by rw [← hqq]; exact (hk.1.le (Nat.div_le_self _ _)).mono (by omega)
  rw [hrr, hqq, hdn] at HN
  rw [hdn] at HXB
  unfold DivR at HDV
  rw [hrr, hqq] at HDV
  obtain ⟨cr, hcr⟩ : ∃ cr, cmpN (rr + rr) dn = cr := ⟨_, rfl⟩
  have HCP : Hid (∀ v W, LimV W v (rr + rr) → LimV W (.slice B M d) dn → Calls Tryd.prog 26 #[v, .slice B M d] W fun e W' => e = .returned (.int .i64 cr) ∧ Gq W W') := fun v W h1 h2 => by
    have h3 : Lim (k + 2) (rr + rr) := (HLR.out.add HLR.out).mono (by omega)
    have := cmpR_any v (.slice B M d) (rr + rr) dn W h1 h2 (k + 2) h3 HLD.out (by have := HK2.out; omega)
    unfold CmpRes at this
    rw [hcr] at this
    exact this.mono fun e W' ⟨h1, h2⟩ => ⟨h1, h2.below⟩
  obtain ⟨ub, hub⟩ : ∃ ub, decide (0 ≤ cr) = ub := ⟨_, rfl⟩
  have HUB : Hid (ub = decide (dn ≤ rr + rr)) := by
    show _ = _
    rw [← hub, ← hcr]
    rcases Nat.lt_trichotomy (rr + rr) dn with q1 | q1 | q1
    · rw [cmpN_lt q1]; exact (decide_eq_false (by omega)).trans (decide_eq_false (by omega)).symm
    · rw [q1, cmpN_eq]; exact (decide_eq_true (by omega)).trans (decide_eq_true (by omega)).symm
    · rw [cmpN_gt q1]; exact (decide_eq_true (by omega)).trans (decide_eq_true (by omega)).symm
  have HAD : Hid (∀ v W, LimV W v qq → Calls Tryd.prog 49 #[v, .slice (some ⟨W.heap.size, 0, none⟩) 1 1] (W.alloc (.cells #[.int .i64 1] 3)) (LimF (qq + 1) (W.alloc (.cells #[.int .i64 1] 3)))) := fun v W h1 => by
    have h11 : Lim (k + 1) 1 := (show Lim 1 1 by unfold Lim; rw [Nat.pow_one]; decide).mono (by omega)
    exact addR_any v _ qq 1 _ (h1.below ((Gq.refl _).alloc _)) (lim_one W) (k + 1) HLQ.out h11 (by have := HK2.out; omega)
  obtain ⟨w0, hw0⟩ : ∃ w0, w0 = w := ⟨_, rfl⟩
  subst hw0
  have HW1 := Lib.hid hw1
  clear hw1 h hu hx hk hk2 hrr hqq hdn hcr
  go_enter Tryd.func41, Tryd.ntmps41
  go_upto_region 1 with (fail)
  rw [← HW1.out]
  go_wp2_with fail
  refine HDV.out.mono ?_
  rintro e w2 ⟨v1, v2, rfl, hv1, hv2, hb2⟩
  obtain ⟨Y, O, j, rfl⟩ := lim_form hv1
  obtain ⟨X, N, j9, rfl⟩ := lim_form hv2
  have HG2 : Hid (Gq w1 w2) := hb2
  have HV1 := Lib.hid hv1
  have HBASE : Hid (Gq w2 w2.drew ∧ Blk w2.drew w0.heap.size 48 [.bool s, .slice A L c, .slice B M d] ∧ LimV w2.drew (.slice X N j9) rr ∧ LimV w2.drew (.slice B M d) dn) := by
    have hd : Gq w2 w2.drew := (Gq.refl _).drew
    exact ⟨hd, blk_gqr HKA.out (HG2.out.trans hd), hv2.below hd, HXB.out.below (HG2.out.trans hd)⟩
  obtain ⟨wd, hwd⟩ : ∃ wd, wd = w2 := ⟨_, rfl⟩
  subst hwd
  clear hv1 hv2 hb2 c0 c1 c2
  go_upto_region 9 with (fail)
  refine wp_region_factsK _ (by kernel_rfl) (by kernel_rfl) [[], [], [0, 1], [], [3], [0, 1, 2, 3, 4], [0, 1, 2, 3, 4, 5], [0, 1, 2, 3, 4, 5, 6]] (by kernel_rfl) [some 38, some 39, some 40, some 41, some 42, some 43, some 44, some 7] (by kernel_rfl) (fun vs => by simp only [putA, putL, if_true, Act.put, List.setIfInBounds_toArray, List.set_cons_zero, List.set_cons_succ]; rfl) (rndF wd w0.heap.size s A L c B M d X N j9 rr dn cr ub) (by kernel_rfl) ?_ ⟨?_, ?_, ?_, ?_, ?_, ?_, ?_, ?_, trivial⟩ ?_
  · exact fa_zero [0] (by kernel_rfl) <| fa_cons (HBASE.out) <| fa_nil _
  · -- 0: Op.move t6
    intro Ls vs w Kk H hu hK
    replace hu : ∀ k ∈ ([] : List Nat), Ls k = true := hu
    have qbase : Gq wd w ∧ Blk w w0.heap.size 48 [.bool s, .slice A L c, .slice B M d] ∧ LimV w (.slice X N j9) rr ∧ LimV w (.slice B M d) dn := H.up hu 0 rfl rfl
    obtain ⟨h0, hk, va, vb⟩ := qbase
    have hKK := Lib.hid hK
    clear hK H
    go_simp
    refine hKK.out _ _ (fun f _ _ _ h => h) ?_
    exact fa_pick [1] (by kernel_rfl) <| fa_cons (fun _ => rfl) <| fa_nil _
  · -- 1: Op.move t6
    intro Ls vs w Kk H hu hK
    replace hu : ∀ k ∈ ([] : List Nat), Ls k = true := hu
    have qbase : Gq wd w ∧ Blk w w0.heap.size 48 [.bool s, .slice A L c, .slice B M d] ∧ LimV w (.slice X N j9) rr ∧ LimV w (.slice B M d) dn := H.up hu 0 rfl rfl
    obtain ⟨h0, hk, va, vb⟩ := qbase
    have hKK := Lib.hid hK
    clear hK H
    go_simp
    refine hKK.out _ _ (fun f _ _ _ h => h) ?_
    exact fa_pick [2] (by kernel_rfl) <| fa_cons (fun _ => rfl) <| fa_nil _
  · -- 2: Op.call { value (Operand.func 49), args := #[t38, t39], argTypes := #[25, 25] }
    intro Ls vs w Kk H hu hK
    replace hu : ∀ k ∈ ([0, 1] : List Nat), Ls k = true := hu
    have qbase : Gq wd w ∧ Blk w w0.heap.size 48 [.bool s, .slice A L c, .slice B M d] ∧ LimV w (.slice X N j9) rr ∧ LimV w (.slice B M d) dn := H.up hu 0 rfl rfl
    obtain ⟨h0, hk, va, vb⟩ := qbase
    have f0 : vs 0 = .slice X N j9 := H.up hu 1 rfl rfl
    have f1 : vs 1 = .slice X N j9 := H.up hu 2 rfl rfl
    have hKK := Lib.hid hK
    clear hK H
    go_simp
    refine (addR_any _ _ _ _ w va va (k + 1) HLR.out HLR.out (by have := HK2.out; omega)).mono ?_
    rintro e w' ⟨v, rfl, hv, -, hb⟩
    obtain ⟨X5, N5, j5, rfl⟩ := lim_form hv
    refine ⟨_, rfl, hKK.out _ _ (fun f hf _ _ h => rndK wd w0.heap.size s A L c B M d X N j9 rr dn cr ub f hf _ _ _ hb h) ?_⟩
    exact fa_pick [3] (by kernel_rfl) <| fa_cons (fun _ => ⟨X5, N5, j5, rfl, hv⟩) <| fa_nil _
  · -- 3: Op.fieldAddr 48 t2 2
    intro Ls vs w Kk H hu hK
    replace hu : ∀ k ∈ ([] : List Nat), Ls k = true := hu
    have qbase : Gq wd w ∧ Blk w w0.heap.size 48 [.bool s, .slice A L c, .slice B M d] ∧ LimV w (.slice X N j9) rr ∧ LimV w (.slice B M d) dn := H.up hu 0 rfl rfl
    obtain ⟨h0, hk, va, vb⟩ := qbase
    have hKK := Lib.hid hK
    clear hK H
    go_simp
    refine hKK.out _ _ (fun f _ _ _ h => h) ?_
    exact fa_pick [4] (by kernel_rfl) <| fa_cons (fun _ => rfl) <| fa_nil _
  · -- 4: Op.load 25 t41
    intro Ls vs w Kk H hu hK
    replace hu : ∀ k ∈ ([3] : List Nat), Ls k = true := hu
    have qbase : Gq wd w ∧ Blk w w0.heap.size 48 [.bool s, .slice A L c, .slice B M d] ∧ LimV w (.slice X N j9) rr ∧ LimV w (.slice B M d) dn := H.up hu 0 rfl rfl
    obtain ⟨h0, hk, va, vb⟩ := qbase
    have f3 : vs 3 = .pointer (some ⟨w0.heap.size, 2, none⟩) := H.up hu 4 rfl rfl
    have d0 : w.cell? ⟨w0.heap.size, 0, none⟩ = _ := hk.cell 0
    have d1 : w.cell? ⟨w0.heap.size, 1, none⟩ = _ := hk.cell 1
    have d2 : w.cell? ⟨w0.heap.size, 2, none⟩ = _ := hk.cell 2
    simp only [List.getElem?_cons_zero, List.getElem?_cons_succ] at d0 d1 d2
    have hKK := Lib.hid hK
    clear hK H
    go_simp
    refine hKK.out _ _ (fun f _ _ _ h => h) ?_
    exact fa_pick [5] (by kernel_rfl) <| fa_cons (fun _ => rfl) <| fa_nil _
  · -- 5: Op.call { value (Operand.func 26), args := #[t40, t42], argTypes := #[25, 25] }
    intro Ls vs w Kk H hu hK
    replace hu : ∀ k ∈ ([0, 1, 2, 3, 4] : List Nat), Ls k = true := hu
    have qbase : Gq wd w ∧ Blk w w0.heap.size 48 [.bool s, .slice A L c, .slice B M d] ∧ LimV w (.slice X N j9) rr ∧ LimV w (.slice B M d) dn := H.up hu 0 rfl rfl
    obtain ⟨h0, hk, va, vb⟩ := qbase
    have qx2 : ∃ X3 N3 j3, vs 2 = .slice X3 N3 j3 ∧ LimV w (.slice X3 N3 j3) (rr + rr) := H.up hu 3 rfl rfl
    obtain ⟨X2, N2, j2, ex2, vx2⟩ := qx2
    have f4 : vs 4 = .slice B M d := H.up hu 5 rfl rfl
    have hKK := Lib.hid hK
    clear hK H
    go_simp
    refine (HCP.out _ w vx2 vb).mono ?_
    rintro e w' ⟨rfl, hb⟩
    refine ⟨_, rfl, hKK.out _ _ (fun f hf _ _ h => rndK wd w0.heap.size s A L c B M d X N j9 rr dn cr ub f hf _ _ _ hb h) ?_⟩
    exact fa_pick [6] (by kernel_rfl) <| fa_cons (fun _ => rfl) <| fa_nil _
  · -- 6: Op.binOp BinOp.geq 3 t43 (const (0:i64)) 3
    intro Ls vs w Kk H hu hK
    replace hu : ∀ k ∈ ([0, 1, 2, 3, 4, 5] : List Nat), Ls k = true := hu
    have qbase : Gq wd w ∧ Blk w w0.heap.size 48 [.bool s, .slice A L c, .slice B M d] ∧ LimV w (.slice X N j9) rr ∧ LimV w (.slice B M d) dn := H.up hu 0 rfl rfl
    obtain ⟨h0, hk, va, vb⟩ := qbase
    have f5 : vs 5 = .int .i64 cr := H.up hu 6 rfl rfl
    have hKK := Lib.hid hK
    clear hK H
    go_simp
    refine hKK.out _ _ (fun f _ _ _ h => h) ?_
    exact fa_pick [7] (by kernel_rfl) <| fa_cons (fun _ => rfl) <| fa_nil _
  · -- 7: Op.assign t44
    intro Ls vs w Kk H hu hK
    replace hu : ∀ k ∈ ([0, 1, 2, 3, 4, 5, 6] : List Nat), Ls k = true := hu
    have qbase : Gq wd w ∧ Blk w w0.heap.size 48 [.bool s, .slice A L c, .slice B M d] ∧ LimV w (.slice X N j9) rr ∧ LimV w (.slice B M d) dn := H.up hu 0 rfl rfl
    obtain ⟨h0, hk, va, vb⟩ := qbase
    have f6 : vs 6 = .bool ub := H.up hu 7 rfl rfl
    have hKK := Lib.hid hK
    clear hK H
    go_simp
    refine hKK.out _ _ (fun f _ _ _ h => h) ?_
    exact fa_pick [8] (by kernel_rfl) <| fa_cons (fun _ => rfl) <| fa_nil _
  · intro vs w H
    have qbase : Gq wd w ∧ Blk w w0.heap.size 48 [.bool s, .slice A L c, .slice B M d] ∧ LimV w (.slice X N j9) rr ∧ LimV w (.slice B M d) dn := fa_at H 0 rfl
    obtain ⟨h0, hk, va, vb⟩ := qbase
    have f0 : vs 0 = .slice X N j9 := fa_at H 1 rfl
    have f1 : vs 1 = .slice X N j9 := fa_at H 2 rfl
    have f3 : vs 3 = .pointer (some ⟨w0.heap.size, 2, none⟩) := fa_at H 4 rfl
    have f4 : vs 4 = .slice B M d := fa_at H 5 rfl
    have f5 : vs 5 = .int .i64 cr := fa_at H 6 rfl
    have f6 : vs 6 = .bool ub := fa_at H 7 rfl
    have f7 : vs 7 = .bool ub := fa_at H 8 rfl
    clear H
    simp only [Nat.zero_add, Nat.reduceAdd]
    have HG3 : Hid (Gq wd w) := h0
    clear h0 hk va vb
    simp only [f0, f1, f3, f4, f5, f6, f7]
    clear f0 f1 f3 f4 f5 f6 f7
    generalize vs 2 = z2
    clear hub
    cases ub
    · have HN2 : Hid (n = qq) := by
        have h1 : ¬ dn ≤ rr + rr := of_decide_eq_false HUB.out.symm
        have h2 := HN.out
        rw [if_neg h1] at h2
        exact h2
      go_wp2_with fail
      go_ret
      exact ⟨_, rfl, by rw [HN2.out]; exact HV1.out.below HG3.out, HB1.out.trans (HG2.out.trans HG3.out)⟩
    · have HN2 : Hid (n = qq + 1) := by
        have h1 : dn ≤ rr + rr := of_decide_eq_true HUB.out.symm
        have h2 := HN.out
        rw [if_pos h1] at h2
        exact h2
      have HA2 := Lib.hid (HAD.out _ w (HV1.out.below HG3.out))
      go_wp2_with fail
      refine HA2.out.mono ?_
      rintro e w5 ⟨v5, rfl, hv5, -, hb5⟩
      have HG5 : Hid (Gq w w5) := ((Gq.refl _).alloc _).trans hb5
      have HV5 := Lib.hid hv5
      clear hv5 hb5
      go_wp2_with fail
      go_ret
      exact ⟨_, rfl, by rw [HN2.out]; exact HV5.out, HB1.out.trans (HG2.out.trans (HG3.out.trans HG5.out))⟩
end Go.Proofs.YtlmgdofhmgpljaaDoor
/- The contracts of the reference's Round (to the nearest, small numbers), Clip and Rounded. -/
namespace Go.Proofs.YtlmgdofhmgpljaaDoor
open Go.RowKit Go.Dw
attribute [local go_sem ↓] Go.wp_at_zero Go.wp_at_succ

/-- the nearest whole number, halves away from 0 -/
def nearZ (q : Rat) : Int := if q.num < 0 then -(nearN q : Int) else (nearN q : Int)
set_option maxRecDepth 100000 in
set_option maxHeartbeats 8000000 in
theorem roundS_any (va : Value) (q : Rat) (w : World) (h : NumQ w va q) (k : Nat) (hk : RLim k q) (hk2 : k ≤ 1000000) (hn : nearN q < 100000000000000000) (hp : HasPow w) :
    Calls Tryd.prog 29 #[va, .int .i64 2, .int .i64 4611686018427387904] w fun e w' => e = .returned (.tuple #[.int .i64 (nearZ q), .bool true]) ∧ Below w.heap.size w w' := by
  obtain ⟨s, hs⟩ : ∃ s, decide (q.num < 0) = s := ⟨_, rfl⟩
  have hag := h
  unfold NumQ at h
  rw [hs] at h
  obtain ⟨A, L, c, B, M, d, rfl, hu, hx⟩ := num_agg h
  obtain ⟨w1, hw1⟩ : ∃ w1, w1 = w.alloc (.cells #[.bool s, .slice A L c, .slice B M d] 48) := ⟨_, rfl⟩
  have HB1 : Hid (Gq w w1) := by rw [hw1]; exact (Gq.refl _).alloc _
  have HKA : Hid (Blk w1 w.heap.size 48 [.bool s, .slice A L c, .slice B M d]) := by rw [hw1]; exact Blk.new w _ _
  have c0 : w1.cell? ⟨w.heap.size, 0, none⟩ = _ := HKA.out.cell 0
  have c1 : w1.cell? ⟨w.heap.size, 1, none⟩ = _ := HKA.out.cell 1
  have c2 : w1.cell? ⟨w.heap.size, 2, none⟩ = _ := HKA.out.cell 2
  simp only [List.getElem?_cons_zero, List.getElem?_cons_succ] at c0 c1 c2
  have HRD := Lib.hid (roundR_any _ q w1 (hag.below HB1.out) k hk hk2)
  obtain ⟨n, hnn⟩ : ∃ n, nearN q = n := ⟨_, rfl⟩
  obtain ⟨z, hz⟩ : ∃ z, nearZ q = z := ⟨_, rfl⟩
  have hzs : (s = true ∧ z = -(n : Int)) ∨ (s = false ∧ z = (n : Int)) := by
    rw [← hz, ← hs, ← hnn]
    unfold nearZ
    by_cases h0 : q.num < 0
    · rw [if_pos h0]; exact .inl ⟨decide_eq_true h0, rfl⟩
    · rw [if_neg h0]; exact .inr ⟨decide_eq_false h0, rfl⟩
  rw [hnn] at HRD hn
  rw [hz]
  have HPW : Hid (∀ W, Gq w1 W → HasPow W) := fun W hW => (hp.below HB1.out).below hW
  have hl2 : Lim 2 n := by
    unfold Lim
    have : W32 ^ 2 = 18446744073709551616 := by decide
    omega
  have hl3 : Lim 2 4611686018427387904 := by
    unfold Lim
    have : W32 ^ 2 = 18446744073709551616 := by decide
    omega
  obtain ⟨d1, d2, d3, d4⟩ := dec_facts 4611686018427387904
  have dl := dec_len 20 4611686018427387904 (by omega) (by omega)
  obtain ⟨S, hS⟩ : ∃ S : ByteArray, S = ⟨(Lib.decDigits 4611686018427387904).toArray⟩ := ⟨_, rfl⟩
  have hSl : S.data.toList = Lib.decDigits 4611686018427387904 := by rw [hS]
  have hSz : S.size ≤ 20 := by
    have : S.data.toList.length = S.size := by rw [Array.length_toList]; rfl
    rw [← this, hSl]; exact dl
  have HIT : Hid (∀ W, Gq w1 W → Calls Tryd.prog 20 #[.int .i64 4611686018427387904] W fun e w' => e = .returned (.string S) ∧ Gq W w') := fun W hW => by
    have := itoaN_any 4611686018427387904 W (by omega) (HPW.out W hW)
    rw [← hS] at this
    exact this
  have HLM : Hid (∀ W, Calls Tryd.prog 28 #[.string S] W (LimF 4611686018427387904 W)) := fun W => by
    have := limbsR_any S W (by rw [hSl]; exact d1) (by omega)
    rw [hSl, d2] at this
    exact this
  have HCP : Hid (∀ va vb W, LimV W va n → LimV W vb 4611686018427387904 → Calls Tryd.prog 26 #[va, vb] W fun e W' => e = .returned (.int .i64 (-1)) ∧ Gq W W') := fun va vb W h1 h2 => by
    have := cmpR_any va vb n 4611686018427387904 W h1 h2 2 hl2 hl3 (by omega)
    unfold CmpRes at this
    rw [cmpN_lt (by omega)] at this
    exact this.mono fun e W' ⟨h1, h2⟩ => ⟨h1, h2.below⟩
  obtain ⟨e1, e2, e3, e4⟩ := dec_facts n
  have el := dec_len 17 n (by omega) (by simpa using hn)
  obtain ⟨T, hT⟩ : ∃ T : ByteArray, T = ⟨(Lib.decDigits n).toArray⟩ := ⟨_, rfl⟩
  have hTl : T.data.toList = Lib.decDigits n := by rw [hT]
  have hTz : T.size ≤ 17 := by
    have : T.data.toList.length = T.size := by rw [Array.length_toList]; rfl
    rw [← this, hTl]; exact el
  have HDG : Hid (∀ va W, Gq w1 W → LimV W va n → Calls Tryd.prog 42 #[va] W fun e w' => e = .returned (.string T) ∧ Gq W w') := fun va W hW h1 => by
    have := digitsR_any va n W h1 2 hl2 (by omega) (HPW.out W hW)
    unfold StrRes at this
    rw [← hT] at this
    exact this
  have HAT : Hid (∀ W, Calls Tryd.prog 39 #[.string T] W fun e w' => e = .returned (.tuple #[.int .i64 (n : Int), .nilIface]) ∧ Gq W w') := fun W => by
    have := atoiR_any T W (by rw [hTl]; exact fun h => e3 (by rw [h]; rfl)) (by rw [hTl]; exact e1) (by omega)
    rw [hTl, e2] at this
    exact this
  have HCE : Hid (∀ W, Gq w1 W → W.cell? ⟨w.heap.size, 0, none⟩ = some (.bool s)) := fun W hW => (blk_gqr HKA.out hW).cell 0
  have hw0 : IntKind.i64.wrap (-(n : Int)) = -(n : Int) := IntWalk.i64_in _ (by omega)
  have HW1 := Lib.hid hw1
  clear hw1 h hag hu hx hs hk hp hl2 hl3 d1 d2 d3 d4 dl hS hSl hSz e1 e2 e3 e4 el hT hTl hTz hn hnn hz
  go_enter Tryd.func29, Tryd.ntmps29
  go_upto_region 1 with (fail)
  rw [← HW1.out]
  go_wp2_with fail
  refine HRD.out.mono ?_
  rintro e w2 ⟨v2, rfl, hv2, hb2⟩
  obtain ⟨X, N, f, rfl⟩ := lim_form hv2
  have HG2 : Hid (Gq w1 w2) := hb2
  have HV2 := Lib.hid hv2
  clear hv2 hb2 c0 c1 c2
  go_wp2_with fail
  refine (HIT.out w2 HG2.out).mono ?_
  rintro e w3 ⟨rfl, hg3⟩
  have HG3 : Hid (Gq w2 w3) := hg3
  clear hg3
  go_wp2_with fail
  refine (HLM.out w3).mono ?_
  rintro e w4 ⟨v4, rfl, hv4, -, hb4⟩
  obtain ⟨Y, O, j, rfl⟩ := lim_form hv4
  have HG4 : Hid (Gq w3 w4) := hb4
  have HV4 := Lib.hid hv4
  clear hv4 hb4
  go_wp2_with fail
  refine (HCP.out _ _ w4 (HV2.out.below (HG3.out.trans HG4.out)) HV4.out).mono ?_
  rintro e w5 ⟨rfl, hg5⟩
  have HG5 : Hid (Gq w2 w5) := HG3.out.trans (HG4.out.trans hg5)
  clear hg5
  go_wp2_with fail
  refine (HDG.out _ w5 (HG2.out.trans HG5.out) (HV2.out.below HG5.out)).mono ?_
  rintro e w6 ⟨rfl, hg6⟩
  have HG6 : Hid (Gq w1 w6) := HG2.out.trans (HG5.out.trans hg6)
  clear hg6
  go_wp2_with fail
  refine (HAT.out w6).mono ?_
  rintro e w7 ⟨rfl, hg7⟩
  have HG7 : Hid (Gq w1 w7) := HG6.out.trans hg7
  have g0 := HCE.out w7 HG7.out
  clear hg7
  rcases hzs with ⟨rfl, rfl⟩ | ⟨rfl, rfl⟩
  all_goals
    go_wp2_with fail
    go_ret2
    exact ⟨rfl, HB1.out.trans HG7.out⟩
/-- a number as a sample, and 1 if it was clipped -/
def clipZ (n : Int) : Int × Int := if 8388607 < n then (8388607, 1) else if n < -8388608 then (-8388608, 1) else (n, 0)
set_option maxRecDepth 100000 in
theorem clipR_any (n : Int) (w : World) :
    Calls Tryd.prog 30 #[.int .i64 n] w fun e w' => e = .returned (.tuple #[.int .i64 (clipZ n).1, .int .i64 (clipZ n).2]) ∧ w = w' := by
  by_cases h1 : 8388607 < n
  · have e : clipZ n = (8388607, 1) := by unfold clipZ; rw [if_pos h1]
    have hd : decide (8388607 < n) = true := decide_eq_true h1
    rw [e]
    clear e h1
    go_enter Tryd.func30, Tryd.ntmps30
    go_wp2_with fail
    go_ret2
    exact ⟨rfl, rfl⟩
  · have hd : decide (8388607 < n) = false := decide_eq_false h1
    by_cases h2 : n < -8388608
    · have e : clipZ n = (-8388608, 1) := by unfold clipZ; rw [if_neg h1, if_pos h2]
      have hd2 : decide (n < -8388608) = true := decide_eq_true h2
      rw [e]
      clear e h1 h2
      go_enter Tryd.func30, Tryd.ntmps30
      go_wp2_with fail
      go_ret2
      exact ⟨rfl, rfl⟩
    · have e : clipZ n = (n, 0) := by unfold clipZ; rw [if_neg h1, if_neg h2]
      have hd2 : decide (n < -8388608) = false := decide_eq_false h2
      rw [e]
      clear e h1 h2
      go_enter Tryd.func30, Tryd.ntmps30
      go_wp2_with fail
      go_ret2
      exact ⟨rfl, rfl⟩
set_option maxRecDepth 100000 in
set_option maxHeartbeats 8000000 in
theorem rounded_any (va : Value) (q : Rat) (w : World) (h : NumQ w va q) (k : Nat) (hk : RLim k q) (hk2 : k ≤ 1000000) (hn : nearN q < 100000000000000000) (hp : HasPow w) :
    Calls Tryd.prog 16 #[va] w fun e w' => e = .returned (.tuple #[.int .i64 (clipZ (nearZ q)).1, .int .i64 (clipZ (nearZ q)).2]) ∧ Below w.heap.size w w' := by
  have hag := h
  obtain ⟨A, L, c, B, M, d, hva, hu, hx⟩ := num_agg h
  obtain ⟨s, hs⟩ : ∃ s, decide (q.num < 0) = s := ⟨_, rfl⟩
  rw [hs] at hva
  subst hva
  obtain ⟨w1, hw1⟩ : ∃ w1, w1 = w.alloc (.cells #[.bool s, .slice A L c, .slice B M d] 48) := ⟨_, rfl⟩
  have HB1 : Hid (Gq w w1) := by rw [hw1]; exact (Gq.refl _).alloc _
  have HKA : Hid (Blk w1 w.heap.size 48 [.bool s, .slice A L c, .slice B M d]) := by rw [hw1]; exact Blk.new w _ _
  have c0 : w1.cell? ⟨w.heap.size, 0, none⟩ = _ := HKA.out.cell 0
  have c1 : w1.cell? ⟨w.heap.size, 1, none⟩ = _ := HKA.out.cell 1
  have c2 : w1.cell? ⟨w.heap.size, 2, none⟩ = _ := HKA.out.cell 2
  simp only [List.getElem?_cons_zero, List.getElem?_cons_succ] at c0 c1 c2
  have HRD := Lib.hid (roundS_any _ q w1 (hag.below HB1.out) k hk hk2 hn (hp.below HB1.out))
  obtain ⟨z, hz⟩ : ∃ z, nearZ q = z := ⟨_, rfl⟩
  rw [hz] at HRD ⊢
  have HCL := Lib.hid (fun W => clipR_any z W)
  generalize (clipZ z).1 = r1 at *
  generalize (clipZ z).2 = r2 at *
  have HW1 := Lib.hid hw1
  clear hw1 h hag hu hx hs hk hp hn hz
  go_enter Tryd.func16, Tryd.ntmps16
  go_upto_region 1 with (fail)
  rw [← HW1.out]
  go_wp2_with fail
  refine HRD.out.mono ?_
  rintro e w2 ⟨rfl, hb2⟩
  have HG2 : Hid (Gq w1 w2) := hb2
  clear hb2 c0 c1 c2
  go_wp2_with fail
  refine (HCL.out w2).mono ?_
  rintro e w3 ⟨rfl, hww⟩
  subst hww
  go_wp2_with fail
  go_ret2
  exact ⟨rfl, HB1.out.trans HG2.out⟩
end Go.Proofs.YtlmgdofhmgpljaaDoor
/- A sound of tracks of the call's own, as cells: what stays, what a store changes; the reference's long. -/
namespace Go.Proofs.YtlmgdofhmgpljaaDoor
open Go.RowKit Go.Dw
attribute [local go_sem ↓] Go.wp_at_zero Go.wp_at_succ

def EmpF (B : Nat) (W : World) (A : Option Addr) (T c n : Nat) (gs : List Nat) : Prop :=
  gs.length = T ∧ W.ownsRow B 25 1 (.slice A T c) T (gs.map (trk n)) ∧ gs.Nodup ∧ ∀ g ∈ gs, B ≤ g ∧ Blk W g 3 (zs n (.int .i64 0))
theorem EmpF.gq {B : Nat} {w w' : World} {A : Option Addr} {T c n : Nat} {gs : List Nat} (h : EmpF B w A T c n gs) (hg : Gq w w') : EmpF B w' A T c n gs :=
  ⟨h.1, own_belowL h.2.1 hg, h.2.2.1, fun g hgs => ⟨(h.2.2.2 g hgs).1, blk_gqr (h.2.2.2 g hgs).2 hg⟩⟩
theorem blk_ty {w : World} {g g' : Nat} {t t' : TypeId} {cs cs' : List Value} (h : Blk w g t cs) (h' : Blk w g' t' cs') (hne : t ≠ t') : g ≠ g' := by
  rintro rfl
  have := Option.some.inj (h.symm.trans h')
  injection this with _ h2
  exact hne h2
theorem blk_oth {w : World} {g g' : Nat} {t : TypeId} {cs : List Value} (h : Blk w g t cs) (hne : g ≠ g') (i : Nat) (v : Value) : Blk (w.setCell ⟨g', i, none⟩ v) g t cs :=
  (Below.heap_setCell w ⟨g', i, none⟩ v g hne).trans h
theorem EmpF.oth {B : Nat} {w : World} {A : Option Addr} {T c n : Nat} {gs : List Nat} (h : EmpF B w A T c n gs) {g : Nat} {cs : List Value} (hk : Blk w g 24 cs) (i : Nat) (v : Value) : EmpF B (w.setCell ⟨g, i, none⟩ v) A T c n gs := by
  refine ⟨h.1, ⟨h.2.1.1, ?_⟩, h.2.2.1, fun g' hgs => ⟨(h.2.2.2 g' hgs).1, blk_oth (h.2.2.2 g' hgs).2 (blk_ty (h.2.2.2 g' hgs).2 hk (by decide)) i v⟩⟩
  have hne := own_block h.2.1 hk (by decide)
  rcases h.2.1.2 with h0 | ⟨g', cap, cur, hv, hge, hc, hr⟩
  · exact .inl h0
  · refine .inr ⟨g', cap, cur, hv, hge, ?_, hr⟩
    rw [Below.heap_setCell w ⟨g, i, none⟩ v g' (fun e => hne (by rw [hv, e]; rfl))]
    exact hc
theorem EmpF.of {B B' : Nat} {w : World} {A : Option Addr} {T c n : Nat} {gs : List Nat} (hB : B' ≤ B) (h1 : gs.length = T) (h2 : w.ownsRow B 25 1 (.slice A T c) T (gs.map (trk n))) (h3 : gs.Nodup) (h4 : ∀ g ∈ gs, B < g ∧ Blk w g 3 (zs n (.int .i64 0))) : EmpF B' w A T c n gs := by
  refine ⟨h1, ⟨h2.1, ?_⟩, h3, fun g hg => ⟨by have := (h4 g hg).1; omega, (h4 g hg).2⟩⟩
  rcases h2.2 with h0 | ⟨g', cap, cur, hv, hge, hc, hr⟩
  · exact .inl h0
  · exact .inr ⟨g', cap, cur, hv, by omega, hc, hr⟩
/-- a sound whose tracks are being filled -/
structure GI (w3 wr : World) (p ab : Nat) (rate : Int) (T c n : Nat) (cur : List Value) (gs : List Nat) (O : List (List Int)) : Prop where
  bel : Gq w3 wr
  hp : w3.heap.size ≤ p
  k9 : Blk wr p 24 [.int .i64 rate, .slice (some ⟨ab, 0, none⟩) T c]
  ka : Blk wr ab 25 cur
  hcur : ∀ a, a < T → cur[a]? = some (trk n (gs.getD a 0))
  hc : T ≤ c
  gl : gs.length = T
  nd : gs.Nodup
  kg : ∀ a, a < T → w3.heap.size ≤ gs.getD a 0 ∧ Blk wr (gs.getD a 0) 3 (ic (O.getD a []))
  ol : O.length = T
  on : ∀ a, a < T → (O.getD a []).length = n
section
variable {w3 wr wb : World} {p ab : Nat} {rate : Int} {T c n : Nat} {cur : List Value} {gs : List Nat} {O : List (List Int)}
theorem GI.gq (h : GI w3 wr p ab rate T c n cur gs O) (hg : Gq wr wb) : GI w3 wb p ab rate T c n cur gs O :=
  ⟨h.bel.trans hg, h.hp, blk_gqr h.k9 hg, blk_gqr h.ka hg, h.hcur, h.hc, h.gl, h.nd, fun a ha => ⟨(h.kg a ha).1, blk_gqr (h.kg a ha).2 hg⟩, h.ol, h.on⟩
theorem GI.start (hw : Gq w3 wr) {A : Option Addr} (hp : w3.heap.size ≤ p) (hk : Blk wr p 24 [.int .i64 rate, .slice A T c]) (h : EmpF w3.heap.size wr A T c n gs) (hT : 0 < T) :
    ∃ ab cur, A = some ⟨ab, 0, none⟩ ∧ GI w3 wr p ab rate T c n cur gs (List.replicate T (List.replicate n 0)) := by
  rcases h.2.1.2 with ⟨_, h0⟩ | ⟨g', cap, cur, hv, hge, hc, hle, _, hcs, htk⟩
  · omega
  · injection hv with hv1 _ hv2
    subst hv2
    refine ⟨g', cur.toList, hv1, hw, hp, by rw [← hv1]; exact hk, hc, fun a ha => ?_, hle, h.1, h.2.2.1, fun a ha => ?_, by simp, fun a ha => ?_⟩
    · have e1 : (cur.toList.take (T * 1))[a]? = (gs.map (trk n))[a]? := by rw [htk]
      have hag : a < gs.length := by rw [h.1]; exact ha
      rw [List.getElem?_take_of_lt (by omega), List.getElem?_map, List.getElem?_eq_getElem hag] at e1
      rw [e1, List.getD_eq_getElem?_getD, List.getElem?_eq_getElem hag]
      rfl
    · have hag : a < gs.length := by rw [h.1]; exact ha
      have e2 : gs.getD a 0 = gs[a] := by rw [List.getD_eq_getElem?_getD, List.getElem?_eq_getElem hag]; rfl
      have h5 := h.2.2.2 gs[a] (List.getElem_mem hag)
      rw [e2]
      refine ⟨h5.1, ?_⟩
      have e3 : ic ((List.replicate T (List.replicate n (0 : Int))).getD a []) = zs n (.int .i64 0) := by
        rw [List.getD_eq_getElem?_getD, List.getElem?_replicate, if_pos ha]
        simp [ic, zs]
      rw [e3]; exact h5.2
    · rw [List.getD_eq_getElem?_getD, List.getElem?_replicate, if_pos ha]; simp
theorem getD_set_if {α : Type} (l : List α) (a b : Nat) (v d : α) (h : a < l.length) : (l.set a v).getD b d = if b = a then v else l.getD b d := by
  rw [List.getD_eq_getElem?_getD, List.getD_eq_getElem?_getD, List.getElem?_set]
  by_cases e : a = b
  · subst e; simp [h]
  · rw [if_neg e, if_neg (fun h => e h.symm)]
theorem GI.set_ (h : GI w3 wr p ab rate T c n cur gs O) {a : Nat} (ha : a < T) (i : Nat) (v : Int) :
    GI w3 (wr.setCell ⟨gs.getD a 0, i, none⟩ (.int .i64 v)) p ab rate T c n cur gs (O.set a ((O.getD a []).set i v)) := by
  obtain ⟨q1, q2⟩ := h.kg a ha
  refine ⟨h.bel.set (p := ⟨gs.getD a 0, i, none⟩) q1 _, h.hp, blk_oth h.k9 (blk_ty h.k9 q2 (by decide)) i _, blk_oth h.ka (blk_ty h.ka q2 (by decide)) i _, h.hcur, h.hc, h.gl, h.nd, fun b hb => ⟨(h.kg b hb).1, ?_⟩, by rw [List.length_set]; exact h.ol, fun b hb => ?_⟩
  · rw [getD_set_if _ _ _ _ _ (by rw [h.ol]; exact ha)]
    by_cases e : b = a
    · subst e
      rw [if_pos rfl]
      have : ic ((O.getD b []).set i v) = (ic (O.getD b [])).set i (.int .i64 v) := by simp [ic, List.map_set]
      rw [this]
      exact q2.set_ i _
    · rw [if_neg e]
      refine blk_oth (h.kg b hb).2 (fun e2 => e ?_) i _
      have h1 : b < gs.length := by rw [h.gl]; exact hb
      have h2 : a < gs.length := by rw [h.gl]; exact ha
      rw [List.getD_eq_getElem?_getD, List.getD_eq_getElem?_getD, List.getElem?_eq_getElem h1, List.getElem?_eq_getElem h2] at e2
      exact (List.getElem_inj h.nd).1 e2
  · rw [getD_set_if _ _ _ _ _ (by rw [h.ol]; exact ha)]
    by_cases e : b = a
    · subst e; rw [if_pos rfl, List.length_set]; exact h.on b hb
    · rw [if_neg e]; exact h.on b hb
end
/-- what is done: as far as nothing was clipped, the samples times t -/
def Dn (X O : List (List Int)) (n : Nat) (t : Int) (many a i : Nat) : Prop :=
  many = 0 → ∀ b k, (b < a ∨ (b = a ∧ k < i)) → k < n → (O.getD b []).getD k 0 = (X.getD b []).getD k 0 * t ∧ -8388608 ≤ (X.getD b []).getD k 0 * t ∧ (X.getD b []).getD k 0 * t ≤ 8388607
theorem Dn.step {X O : List (List Int)} {n : Nat} {t : Int} {many a i m : Nat} (h : Dn X O n t many a i) (ha : a < O.length) (hl : (O.getD a []).length = n) (hi : i < n) {v r : Int} (hv : (X.getD a []).getD i 0 = v) (hr : m = 0 → r = v * t ∧ -8388608 ≤ v * t ∧ v * t ≤ 8388607) :
    Dn X (O.set a ((O.getD a []).set i r)) n t (many + m) a (i + 1) := by
  intro hm b k hbk hk
  rw [getD_set_if _ _ _ _ _ ha]
  by_cases e : b = a
  · subst e
    rw [if_pos rfl, getD_set_if _ _ _ _ _ (by rw [hl]; exact hi)]
    by_cases e2 : k = i
    · subst e2
      rw [if_pos rfl, hv]
      exact hr (by omega)
    · rw [if_neg e2]
      exact h (by omega) b k (by omega) hk
  · rw [if_neg e]
    exact h (by omega) b k (by omega) hk
theorem Dn.next {X O : List (List Int)} {n : Nat} {t : Int} {many a : Nat} (h : Dn X O n t many a n) : Dn X O n t many (a + 1) 0 := fun hm b k hbk hk => h hm b k (by omega) hk
theorem clipZ_ok (z : Int) : ∃ m : Nat, m ≤ 1 ∧ (clipZ z).2 = (m : Int) ∧ (m = 0 → (clipZ z).1 = z ∧ -8388608 ≤ z ∧ z ≤ 8388607) := by
  unfold clipZ
  by_cases h1 : 8388607 < z
  · rw [if_pos h1]; exact ⟨1, by omega, rfl, fun h => by omega⟩
  · rw [if_neg h1]
    by_cases h2 : z < -8388608
    · rw [if_pos h2]; exact ⟨1, by omega, rfl, fun h => by omega⟩
    · rw [if_neg h2]; exact ⟨0, by omega, rfl, fun _ => ⟨rfl, by omega, by omega⟩⟩
theorem near_int (z : Int) : nearZ (mkRat z 1) = z ∧ nearN (mkRat z 1) = z.natAbs := by
  obtain ⟨h1, h2⟩ := mk_int z
  have e : nearN (mkRat z 1) = z.natAbs := by
    unfold nearN
    rw [h1, h2, Nat.mod_one, Nat.div_one, if_neg (by omega)]
  refine ⟨?_, e⟩
  unfold nearZ
  rw [e, h1]
  by_cases h : z < 0
  · rw [if_pos h]; omega
  · rw [if_neg h]; omega
theorem mul_int (v t : Int) : mkRat v 1 * mkRat t 1 = mkRat (v * t) 1 := by rw [Rat.mkRat_mul_mkRat]
theorem longS_any (x : Snd) (w : World) (h : x.Ok w) (hp : 0 < x.p.xs.length) :
    Calls Tryd.prog 15 #[x.v] w fun e w' => e = .returned (.int .i64 (x.n : Int)) ∧ Below w.heap.size w w' := by
  have hb0 : Below w.heap.size w (w.alloc (.cells #[.int .i64 x.rate, x.p.v] 24)) := (Below.refl _ _).alloc (Nat.le_refl _) _
  have h1 := h.below hb0
  have HB0 := Lib.hid hb0
  have HN : Hid (x.n = x.p.xs[0].xs.length) := by show _ = _; unfold Snd.n; rw [x.rows_at 0 hp]
  obtain ⟨r, ⟨A, c, L⟩⟩ := x
  obtain ⟨hn, hrd, hrs⟩ := h1
  have hp2 : 0 < L.length := hp
  simp only [Slc.v, Snd.v] at *
  obtain ⟨b, off, rfl, hb, hc⟩ := hrd.at_ (by simp; omega)
  have hck := hc 0 (L[0].v) (by simp [hp])
  have hl0 := (hrs L[0] (List.getElem_mem hp)).1
  generalize L[0] = s at *
  obtain ⟨a, cc, xs⟩ := s
  simp only [Slc.v] at hck hl0 HN
  rw [Nat.add_zero] at hck
  clear h hc hrs hrd hb0
  have hp' : (0 : Int) < (L.length : Int) := by omega
  go_enter Tryd.func15, Tryd.ntmps15
  go_wp2
  go_ret
  exact ⟨ret_int (by rw [HN.out]), HB0.out⟩
end Go.Proofs.YtlmgdofhmgpljaaDoor
/- Plain: the marks of a sound that was multiplied. -/
namespace Go.Proofs.YtlmgdofhmgpljaaDoor
open Go.RowKit Go.Dw

/-- the rows, each sample multiplied -/
def mulT (T : List (List Int)) (t : Int) : List (List Int) := T.map fun l => l.map (· * t)
theorem mulT_len (T : List (List Int)) (t : Int) : (mulT T t).length = T.length := by simp [mulT]
theorem mulT_getD (T : List (List Int)) (t : Int) (a : Nat) : (mulT T t).getD a [] = (T.getD a []).map (· * t) := by
  unfold mulT
  rw [List.getD_eq_getElem?_getD, List.getD_eq_getElem?_getD, List.getElem?_map]
  cases T[a]? <;> rfl
theorem map_getD (l : List Int) (t : Int) (i : Nat) : (l.map (· * t)).getD i 0 = l.getD i 0 * t := by
  rw [List.getD_eq_getElem?_getD, List.getD_eq_getElem?_getD, List.getElem?_map]
  cases l[i]? <;> simp
theorem ab_mul (x t : Int) (ht : 0 ≤ t) : ab (x * t) = ab x * t := by
  unfold ab
  by_cases hx : x < 0
  · rw [if_pos hx]
    rcases Int.lt_or_eq_of_le ht with h | h
    · rw [if_pos (Int.mul_neg_of_neg_of_pos hx h), Int.neg_mul]
    · rw [← h, Int.mul_zero, Int.mul_zero]; rfl
  · rw [if_neg hx, if_neg (by have := Int.mul_nonneg (show 0 ≤ x by omega) ht; omega)]
theorem trA_mul (T : List (List Int)) (t : Int) (ht : 0 ≤ t) (a i : Nat) : trA (mulT T t) a i = trA T a i * t := by
  unfold trA
  rw [mulT_getD, map_getD, ab_mul _ _ ht]
theorem refS_mul (f g : Nat → Int) (t : Int) (h : ∀ i, g i = f i * t) (a : Nat) : ∀ j, refS g a j = refS f a j * t
  | 0 => by simp [refS]
  | j + 1 => by rw [refS, refS, refS_mul f g t h a j, h, Int.add_mul]
theorem levK_mul (T : List (List Int)) (t : Int) (ht : 0 ≤ t) (part k : Nat) : ∀ n, levK (mulT T t) part k n = levK T part k n * t
  | 0 => by simp [levK]
  | n + 1 => by rw [levK, levK, levK_mul T t ht part k n, refS_mul (trA T n) (trA (mulT T t) n) t (fun i => trA_mul T t ht n i), Int.add_mul]
theorem lev_mul (T : List (List Int)) (t : Int) (ht : 0 ≤ t) (part m : Nat) : lev (mulT T t) part m = (lev T part m).map (· * t) := by
  unfold lev
  rw [List.map_map, mulT_len]
  exact List.map_congr_left fun k _ => levK_mul T t ht part k _
theorem mkB_mul (l : List Int) (t : Int) (ht : 0 < t) (k : Nat) : ∀ i, mkB (l.map (· * t)) k i = mkB l k i
  | 0 => rfl
  | i + 1 => by
    rw [mkB, mkB, mkB_mul l t ht k i, map_getD, map_getD]
    by_cases h : l.getD (k + i) 0 < l.getD (k + i + 1) 0
    · rw [if_pos h, if_pos (Int.mul_lt_mul_of_pos_right h ht)]
    · rw [if_neg h, if_neg (fun g => h (Int.lt_of_mul_lt_mul_right g (Int.le_of_lt ht)))]
theorem mksN_mul (l : List Int) (t : Int) (ht : 0 < t) (n : Nat) : mksN (l.map (· * t)) n = mksN l n := by
  unfold mksN
  exact List.map_congr_left fun k _ => by rw [mkB_mul l t ht k 8]
/-- no sample is clipped -/
def NoClip (T : List (List Int)) (t : Int) : Prop := ∀ l ∈ T, ∀ x ∈ l, -8388608 ≤ x * t ∧ x * t ≤ 8388607
theorem chkS_mul {rate : Int} {T : List (List Int)} {t : Int} (h : chkS rate T = 0) (hc : NoClip T t) : chkS rate (mulT T t) = 0 := by
  obtain ⟨h1, h2, h3, h4, h5, h6⟩ := chkS_zero h
  have e0 : ((mulT T t).getD 0 []).length = (T.getD 0 []).length := by rw [mulT_getD, List.length_map]
  refine chkS_end ⟨h1, h2⟩ (by rw [mulT_len]; omega) (by rw [mulT_len, e0]; omega) (fun j hj => ?_)
  rw [mulT_len] at hj
  obtain ⟨g1, g2⟩ := h6 j hj
  have ej : T.getD j [] = T[j] := by rw [List.getD_eq_getElem?_getD, List.getElem?_eq_getElem hj, Option.getD_some]
  refine trkF_0 ?_ ?_
  · rw [e0, mulT_getD, List.length_map, ej, g1]
  · rw [mulT_getD, ej, List.all_eq_true]
    intro y hy
    obtain ⟨x, hx, rfl⟩ := List.mem_map.1 hy
    obtain ⟨q1, q2⟩ := hc _ (List.getElem_mem hj) x hx
    unfold okS
    rw [decide_eq_true q1, decide_eq_true q2]; rfl
/-- the marks stay -/
theorem mrkF_mul {rate : Int} {T : List (List Int)} {part t : Int} (ht : 0 < t) (h : (mrkF rate T part).2 = 0) (hc : NoClip T t) : mrkF rate (mulT T t) part = mrkF rate T part := by
  unfold mrkF at h ⊢
  by_cases hl : (levF rate T part).2 ≠ 0
  · rw [if_pos hl] at h
    exact absurd h hl
  · have hl0 : (levF rate T part).2 = 0 := Decidable.not_not.1 hl
    have hcs : chkS rate T = 0 := by
      unfold levF at hl0
      by_cases h1 : chkS rate T ≠ 0
      · rw [if_pos h1] at hl0; exact absurd hl0 h1
      · exact Decidable.not_not.1 h1
    have e0 : ((mulT T t).getD 0 []).length = (T.getD 0 []).length := by rw [mulT_getD, List.length_map]
    have he : levF rate (mulT T t) part = ((levF rate T part).1.map (· * t), (levF rate T part).2) := by
      unfold levF
      rw [if_neg (show ¬ chkS rate (mulT T t) ≠ 0 from fun g => g (chkS_mul hcs hc)), if_neg (show ¬ chkS rate T ≠ 0 from fun g => g hcs)]
      by_cases hpt : 1 ≤ part ∧ part ≤ 100000
      · rw [if_pos hpt, if_pos hpt, e0, lev_mul T t (Int.le_of_lt ht)]
      · rw [if_neg hpt, if_neg hpt]; rfl
    rw [he]
    simp only [List.length_map, mksN_mul _ t ht]
end Go.Proofs.YtlmgdofhmgpljaaDoor
/- Generated (gen/gai.py): the contract of the reference's Gain. -/
namespace Go.Proofs.YtlmgdofhmgpljaaDoor
open Go.RowKit Go.Dw
attribute [local go_sem ↓] Go.wp_at_zero Go.wp_at_succ
attribute [local go_sem] Go.Dw.Oper.tame

def gaiY (rate : Int) (ab c T n : Nat) (gs : List Nat) (O : List (List Int)) : Snd := ⟨rate, ⟨some ⟨ab, 0, none⟩, c, (List.range T).map fun a => ⟨some ⟨gs.getD a 0, 0, none⟩, n, O.getD a []⟩⟩⟩
theorem gai_fin {wz : World} {rate : Int} {ab c T n : Nat} {cur : List Value} {gs : List Nat} {O : List (List Int)} (ka : Blk wz ab 25 cur) (hcur : ∀ a, a < T → cur[a]? = some (trk n (gs.getD a 0)))
    (kg : ∀ a, a < T → Blk wz (gs.getD a 0) 3 (ic (O.getD a []))) (on : ∀ a, a < T → (O.getD a []).length = n) (hT : T ≤ 16) (hn : n ≤ 100000) :
    (gaiY rate ab c T n gs O).Ok wz ∧ (gaiY rate ab c T n gs O).v = .agg #[.int .i64 rate, .slice (some ⟨ab, 0, none⟩) T c] ∧ (gaiY rate ab c T n gs O).rows = (List.range T).map fun a => O.getD a [] := by
  refine ⟨⟨by simp [gaiY]; omega, .inr ⟨ab, 0, rfl, ka.lt, fun j u hu => ?_⟩, fun s hs => ?_⟩, by simp [gaiY, Snd.v, Slc.v], by simp [gaiY, Snd.rows, Function.comp_def]⟩
  · rw [Nat.zero_add, ka.cell j]
    have hu2 : (((List.range T).map fun a => (⟨some ⟨gs.getD a 0, 0, none⟩, n, O.getD a []⟩ : Slc Int)).map Slc.v)[j]? = some u := hu
    rw [List.getElem?_map, List.getElem?_map] at hu2
    by_cases hj : j < T
    · rw [List.getElem?_range hj] at hu2
      rw [hcur j hj, ← hu2]
      show some (trk n (gs.getD j 0)) = some (Value.slice (some ⟨gs.getD j 0, 0, none⟩) (O.getD j []).length n)
      rw [on j hj]; rfl
    · rw [List.getElem?_eq_none (by simpa using hj)] at hu2; cases hu2
  · have hs2 : s ∈ (List.range T).map fun a => (⟨some ⟨gs.getD a 0, 0, none⟩, n, O.getD a []⟩ : Slc Int) := hs
    rw [List.mem_map] at hs2
    obtain ⟨a, ha, rfl⟩ := hs2
    have ha2 : a < T := List.mem_range.1 ha
    refine ⟨by show (O.getD a []).length ≤ _; rw [on a ha2]; omega, .inr ⟨gs.getD a 0, 0, rfl, (kg a ha2).lt, fun j u hu => by rw [Nat.zero_add, (kg a ha2).cell j]; exact hu⟩, by show (O.getD a []).length ≤ n; rw [on a ha2]; exact Nat.le_refl _⟩
/-- a sound whose tracks lie in blocks of their own -/
def YOk (W : World) (y : Snd) : Prop := ∃ (ab c T n : Nat) (cur : List Value) (gs : List Nat) (O : List (List Int)), y = gaiY y.rate ab c T n gs O ∧ Blk W ab 25 cur ∧ (∀ a, a < T → cur[a]? = some (trk n (gs.getD a 0))) ∧
    (∀ a, a < T → Blk W (gs.getD a 0) 3 (ic (O.getD a []))) ∧ (∀ a, a < T → (O.getD a []).length = n) ∧ T ≤ 16 ∧ n ≤ 100000
theorem YOk.ok {W : World} {y : Snd} (h : YOk W y) : y.Ok W := by
  obtain ⟨ab, c, T, n, cur, gs, O, e, h1, h2, h3, h4, h5, h6⟩ := h
  rw [e]
  exact (gai_fin h1 h2 h3 h4 h5 h6).1
theorem YOk.gq {W W' : World} {y : Snd} (h : YOk W y) (hg : Gq W W') : YOk W' y := by
  obtain ⟨ab, c, T, n, cur, gs, O, e, h1, h2, h3, h4, h5, h6⟩ := h
  exact ⟨ab, c, T, n, cur, gs, O, e, blk_gqr h1 hg, h2, fun a ha => blk_gqr (h3 a ha) hg, h4, h5, h6⟩
theorem YOk.oth {W : World} {y : Snd} (h : YOk W y) {g : Nat} {cs : List Value} (hk : Blk W g 24 cs) (i : Nat) (v : Value) : YOk (W.setCell ⟨g, i, none⟩ v) y := by
  obtain ⟨ab, c, T, n, cur, gs, O, e, h1, h2, h3, h4, h5, h6⟩ := h
  exact ⟨ab, c, T, n, cur, gs, O, e, blk_oth h1 (blk_ty h1 hk (by decide)) i v, h2, fun a ha => blk_oth (h3 a ha) (blk_ty (h3 a ha) hk (by decide)) i v, h4, h5, h6⟩
theorem getD_row (X : List (List Int)) (a : Nat) (h : a < X.length) : X.getD a [] = X[a] := by rw [List.getD_eq_getElem?_getD, List.getElem?_eq_getElem h]; rfl
theorem gai_rows {X O : List (List Int)} {T n : Nat} {t : Int} (hX : X.length = T) (hXn : ∀ a, a < T → (X.getD a []).length = n) (on : ∀ a, a < T → (O.getD a []).length = n) (h : Dn X O n t 0 T 0) :
    ((List.range T).map fun a => O.getD a []) = mulT X t ∧ NoClip X t := by
  have hd := h rfl
  refine ⟨List.ext_getElem (by simp [mulT, hX]) fun a h1 h2 => ?_, fun l hl x hx => ?_⟩
  · have ha : a < T := by simpa using h1
    have e0 : (mulT X t)[a] = (X.getD a []).map (· * t) := by rw [getD_row X a (by rw [hX]; exact ha)]; simp [mulT]
    rw [e0]
    simp only [List.getElem_map, List.getElem_range]
    refine List.ext_getElem (by rw [List.length_map, on a ha, hXn a ha]) fun k g1 g2 => ?_
    have hk : k < n := by rw [← on a ha]; exact g1
    have q := (hd a k (.inl ha) hk).1
    rw [List.getD_eq_getElem?_getD, List.getElem?_eq_getElem g1, List.getD_eq_getElem?_getD (l := X.getD a []), List.getElem?_eq_getElem (by rw [hXn a ha]; exact hk)] at q
    simpa using q
  · obtain ⟨a, ha, rfl⟩ := List.mem_iff_getElem.1 hl
    obtain ⟨k, hk, rfl⟩ := List.mem_iff_getElem.1 hx
    have ha2 : a < T := by rw [← hX]; exact ha
    have e1 : (X.getD a []) = X[a] := getD_row X a ha
    have hk2 : k < n := by rw [← hXn a ha2, e1]; exact hk
    have q := (hd a k (.inl ha2) hk2).2
    rw [e1, List.getD_eq_getElem?_getD, List.getElem?_eq_getElem hk] at q
    exact q
def ganF (w3 : World) (p2 : Nat) (rate : Int) (sb so T sc n : Nat) : List Fact := [
  ⟨[], fun _ W => Gq w3 W ∧ True⟩,
  ⟨[0], fun vs _ => vs 0 = .pointer (some ⟨p2, 0, none⟩)⟩,
  ⟨[1], fun vs _ => vs 1 = .int .i64 rate⟩,
  ⟨[2], fun vs _ => vs 2 = .pointer (some ⟨p2, 1, none⟩)⟩,
  ⟨[3], fun vs _ => vs 3 = .slice (some ⟨sb, so, none⟩) T sc⟩,
  ⟨[4], fun vs _ => vs 4 = .int .i64 (T : Int)⟩,
  ⟨[5], fun vs _ => vs 5 = .agg #[.int .i64 rate, .slice (some ⟨sb, so, none⟩) T sc]⟩,
  ⟨[6], fun vs _ => vs 6 = .int .i64 (n : Int)⟩,
  ⟨[7], fun vs W => ∃ A c gs, vs 7 = .agg #[.int .i64 rate, .slice A T c] ∧ EmpF w3.heap.size W A T c n gs⟩,
  ⟨[8], fun vs W => ∃ g x A L c, vs 8 = .pointer (some ⟨g, 0, none⟩) ∧ w3.heap.size ≤ g ∧ Blk W g 24 [.int .i64 x, .slice A L c]⟩,
  ⟨[7, 8, 9], fun vs W => ∃ g A c gs, vs 8 = .pointer (some ⟨g, 0, none⟩) ∧ w3.heap.size ≤ g ∧ Blk W g 24 [.int .i64 rate, .slice A T c] ∧ EmpF w3.heap.size W A T c n gs⟩,
  ⟨[10], fun vs _ => vs 10 = .int .i64 0⟩]
theorem ganK (w3 : World) (p2 : Nat) (rate : Int) (sb so T sc n : Nat) : ∀ f ∈ ganF w3 p2 rate sb so T sc n, ∀ vs w w', Gq w w' → f.says vs w → f.says vs w' :=
  fa_cons (fun _ _ _ hg h => ⟨h.1.trans hg, trivial⟩) <|
  fa_cons (fun _ _ _ _ h => h) <|
  fa_cons (fun _ _ _ _ h => h) <|
  fa_cons (fun _ _ _ _ h => h) <|
  fa_cons (fun _ _ _ _ h => h) <|
  fa_cons (fun _ _ _ _ h => h) <|
  fa_cons (fun _ _ _ _ h => h) <|
  fa_cons (fun _ _ _ _ h => h) <|
  fa_cons (fun _ _ _ hg h => (by obtain ⟨A, c, gs, h1, h2⟩ := h; exact ⟨A, c, gs, h1, h2.gq hg⟩)) <|
  fa_cons (fun _ _ _ hg h => (by obtain ⟨g, x, A, L, c, h1, h2, h3⟩ := h; exact ⟨g, x, A, L, c, h1, h2, blk_gqr h3 hg⟩)) <|
  fa_cons (fun _ _ _ hg h => (by obtain ⟨g, A, c, gs, h1, h2, h3, h4⟩ := h; exact ⟨g, A, c, gs, h1, h2, blk_gqr h3 hg, h4.gq hg⟩)) <|
  fa_cons (fun _ _ _ _ h => h) <|
  fa_nil _
def gaoF (wd : World) (p2 sb so T sc n rb ro rc a i : Nat) (v tt r1 m9 : Int) (ds : ByteArray) : List Fact := [
  ⟨[], fun _ W => Gq wd W ∧ True⟩,
  ⟨[0], fun vs _ => vs 0 = .pointer (some ⟨p2, 1, none⟩)⟩,
  ⟨[1], fun vs _ => vs 1 = .slice (some ⟨sb, so, none⟩) T sc⟩,
  ⟨[2], fun vs _ => vs 2 = .int .i64 (a : Int)⟩,
  ⟨[3], fun vs _ => vs 3 = .pointer (some ⟨sb, so + a, none⟩)⟩,
  ⟨[4], fun vs _ => vs 4 = .slice (some ⟨rb, ro, none⟩) n rc⟩,
  ⟨[5], fun vs _ => vs 5 = .int .i64 (i : Int)⟩,
  ⟨[6], fun vs _ => vs 6 = .pointer (some ⟨rb, ro + i, none⟩)⟩,
  ⟨[7], fun vs _ => vs 7 = .int .i64 v⟩,
  ⟨[8], fun vs W => ∃ s X N f Y O t, vs 8 = .agg #[.bool s, .slice X N f, .slice Y O t] ∧ NumQ W (.agg #[.bool s, .slice X N f, .slice Y O t]) (mkRat v 1)⟩,
  ⟨[9], fun vs _ => vs 9 = .agg #[.string ds, .string ⟨#[49]⟩]⟩,
  ⟨[10], fun vs W => ∃ s X N f Y O t, vs 10 = .agg #[.bool s, .slice X N f, .slice Y O t] ∧ NumQ W (.agg #[.bool s, .slice X N f, .slice Y O t]) (mkRat tt 1)⟩,
  ⟨[11], fun vs W => ∃ s X N f Y O t, vs 11 = .agg #[.bool s, .slice X N f, .slice Y O t] ∧ NumQ W (.agg #[.bool s, .slice X N f, .slice Y O t]) (mkRat v 1 * mkRat tt 1)⟩,
  ⟨[12], fun vs _ => vs 12 = .tuple #[.int .i64 r1, .int .i64 m9]⟩,
  ⟨[13], fun vs _ => vs 13 = .tuple #[.int .i64 r1, .int .i64 m9]⟩,
  ⟨[14], fun vs _ => vs 14 = .int .i64 r1⟩,
  ⟨[15], fun vs _ => vs 15 = .int .i64 m9⟩,
  ⟨[16], fun vs _ => vs 16 = .int .i64 r1⟩,
  ⟨[17], fun vs _ => vs 17 = .int .i64 m9⟩]
theorem gaoK (wd : World) (p2 sb so T sc n rb ro rc a i : Nat) (v tt r1 m9 : Int) (ds : ByteArray) : ∀ f ∈ gaoF wd p2 sb so T sc n rb ro rc a i v tt r1 m9 ds, ∀ vs w w', Gq w w' → f.says vs w → f.says vs w' :=
  fa_cons (fun _ _ _ hg h => ⟨h.1.trans hg, trivial⟩) <|
  fa_cons (fun _ _ _ _ h => h) <|
  fa_cons (fun _ _ _ _ h => h) <|
  fa_cons (fun _ _ _ _ h => h) <|
  fa_cons (fun _ _ _ _ h => h) <|
  fa_cons (fun _ _ _ _ h => h) <|
  fa_cons (fun _ _ _ _ h => h) <|
  fa_cons (fun _ _ _ _ h => h) <|
  fa_cons (fun _ _ _ _ h => h) <|
  fa_cons (fun _ _ _ hg h => (by obtain ⟨s, X, N, f, Y, O, t, h1, h2⟩ := h; exact ⟨s, X, N, f, Y, O, t, h1, NumR.gq h2 hg⟩)) <|
  fa_cons (fun _ _ _ _ h => h) <|
  fa_cons (fun _ _ _ hg h => (by obtain ⟨s, X, N, f, Y, O, t, h1, h2⟩ := h; exact ⟨s, X, N, f, Y, O, t, h1, NumR.gq h2 hg⟩)) <|
  fa_cons (fun _ _ _ hg h => (by obtain ⟨s, X, N, f, Y, O, t, h1, h2⟩ := h; exact ⟨s, X, N, f, Y, O, t, h1, NumR.gq h2 hg⟩)) <|
  fa_cons (fun _ _ _ _ h => h) <|
  fa_cons (fun _ _ _ _ h => h) <|
  fa_cons (fun _ _ _ _ h => h) <|
  fa_cons (fun _ _ _ _ h => h) <|
  fa_cons (fun _ _ _ _ h => h) <|
  fa_cons (fun _ _ _ _ h => h) <|
  fa_nil _
set_option maxRecDepth 100000 in
set_option maxHeartbeats 16000000 in
theorem gain_any (x : Snd) (tq : Nat) (w : World) (h : x.Ok w) (hz : chkS x.rate x.rows = 0) (ht1 : 1 ≤ tq) (ht2 : tq ≤ 50) (hp : HasPow w) :
    Calls Tryd.prog 6 #[x.v, .agg #[.string ⟨(Lib.decDigits tq).toArray⟩, .string ⟨#[49]⟩]] w fun e w' => ∃ (y : Snd) (m : Nat), e = .returned (.tuple #[y.v, .int .i64 (m : Int), .int .i64 0]) ∧ Below w.heap.size w w' ∧ YOk w' y ∧ (m = 0 → y.rate = x.rate ∧ y.rows = mulT x.rows tq ∧ NoClip x.rows tq) := by
  have hwf := whole_ratF ht1 ht2
  obtain ⟨hv1, hv2, hv3⟩ := whole_val ht1 ht2
  generalize (⟨(Lib.decDigits tq).toArray⟩ : ByteArray) = ds at *
  have hs := chkS_zero hz
  have hn0 : x.n ≤ 100000 := hs.2.2.2.2.1
  have hT0 : 0 < x.p.xs.length := by rw [← x.rows_len]; exact hs.2.2.1
  have hT1 : x.p.xs.length ≤ 16 := by rw [← x.rows_len]; exact hs.2.2.2.1
  obtain ⟨wa, hwa⟩ : ∃ wa, wa = w.alloc (.cells #[.int .i64 x.rate, x.p.v] 24) := ⟨_, rfl⟩
  obtain ⟨wb, hwb⟩ : ∃ wb, wb = wa.alloc (.cells #[.string ds, .string ⟨#[49]⟩] 33) := ⟨_, rfl⟩
  obtain ⟨w3, hw3⟩ : ∃ w3, w3 = wb.alloc (.cells #[.int .i64 0, .slice none 0 0] 24) := ⟨_, rfl⟩
  have z1 : wa.heap.size = w.heap.size + 1 := by rw [hwa]; simp
  have z2 : wb.heap.size = w.heap.size + 2 := by rw [hwb]; simp [z1]
  have z3 : w3.heap.size = w.heap.size + 3 := by rw [hw3]; simp [z2]
  have ba : Gq w wa := by rw [hwa]; exact (Gq.refl _).alloc _
  have bb : Gq wa wb := by rw [hwb]; exact (Gq.refl _).alloc _
  have bc : Gq wb w3 := by rw [hw3]; exact (Gq.refl _).alloc _
  have hb3 : Gq w w3 := ba.trans (bb.trans bc)
  have HB3 := Lib.hid hb3
  have HZ3 := Lib.hid z3
  have kA : Blk w3 w.heap.size 24 [.int .i64 x.rate, x.p.v] := by
    refine blk_gqr (?_ : Blk wa w.heap.size _ _) (bb.trans bc); rw [hwa]; exact Blk.new w _ _
  have kB : Blk w3 (w.heap.size + 1) 33 [.string ds, .string ⟨#[49]⟩] := by
    refine blk_gqr (?_ : Blk wb (w.heap.size + 1) _ _) bc; rw [hwb, ← z1]; exact Blk.new wa _ _
  have kC : Blk w3 (w.heap.size + 2) 24 [.int .i64 0, .slice none 0 0] := by rw [hw3, ← z2]; exact Blk.new wb _ _
  have h3 := h.below hb3
  have HOK : Hid (∀ W, Gq w3 W → x.Ok W) := fun W hW => h3.below hW
  have HPW : Hid (∀ W, Gq w3 W → HasPow W) := fun W hW => (hp.below hb3).below hW
  have HCK : Hid (Calls Tryd.prog 12 #[x.v] w3 fun e w' => e = .returned (.int .i64 0) ∧ Gq w3 w') := by
    have := rsndCheck_any x w3 h3; rw [hz] at this; exact this
  have HCR : Hid (∀ W, Calls Tryd.prog 13 #[.agg #[.string ds, .string ⟨#[49]⟩]] W fun e w' => e = .returned (.int .i64 0) ∧ Gq W w') := fun W => by
    have := ckR_any ds ⟨#[49]⟩ W (by omega) (by decide); rw [hwf] at this; exact this
  have HLN : Hid (∀ W, Gq w3 W → Calls Tryd.prog 15 #[x.v] W fun e w' => e = .returned (.int .i64 (x.n : Int)) ∧ Gq W w') := fun W hW => longS_any x W (HOK.out W hW) hT0
  have HEM : Hid (∀ W, Gq w3 W → Calls Tryd.prog 14 #[.int .i64 x.rate, .int .i64 (x.p.xs.length : Int), .int .i64 (x.n : Int)] W fun e W' => ∃ A c gs, e = .returned (.agg #[.int .i64 x.rate, .slice A x.p.xs.length c]) ∧ EmpF w3.heap.size W' A x.p.xs.length c x.n gs ∧ Gq W W') := fun W hW =>
    (emptyR_any x.rate x.p.xs.length x.n W hT1 hn0).mono fun e W' ⟨A, c, gs, h1, h2, h3, h4, h5, h6⟩ => ⟨A, c, gs, h1, EmpF.of (Below.size hW) h2 h4 h5 h6, h3⟩
  have HRG : Hid (∀ k (hk : k < x.p.xs.length), x.p.xs[k].xs.length = x.n ∧ ∀ y ∈ x.p.xs[k].xs, -8388608 ≤ y ∧ y ≤ 8388607) := fun k hk => by
    have := hs.2.2.2.2.2 k (by rw [x.rows_len]; exact hk)
    have e : x.rows[k]'(by rw [x.rows_len]; exact hk) = x.p.xs[k].xs := by simp [Snd.rows]
    rw [e] at this
    exact this
  have HRL := Lib.hid x.rows_len
  have HRA := Lib.hid x.rows_at
  have HOF : Hid (∀ W, Calls Tryd.prog 19 #[.agg #[.string ds, .string ⟨#[49]⟩]] W (NumRes (mkRat (tq : Int) 1) W)) := fun W =>
    (ofR_any ds ⟨#[49]⟩ W (ratR_of hwf) (by omega)).mono fun e W' ⟨v, h1, h2, h3⟩ => ⟨v, h1, (by have := numQ_of hwf h2; rw [hv1, hv2] at this; exact this), h3⟩
  have HT12 : Hid (1 ≤ tq ∧ tq ≤ 50) := ⟨ht1, ht2⟩
  clear hwf hv1 hv2 hv3 hs hz h h3 hp ht1 ht2 hb3 ba bb bc z1 z2 z3
  generalize x.n = n at *
  generalize x.rows = X at *
  obtain ⟨rate, ⟨A, sc, L⟩⟩ := x
  simp only [Snd.v, Slc.v] at *
  obtain ⟨sb, so, rfl, hsb, hsc⟩ := (HOK.out w3 (Gq.refl _)).2.1.at_ (by simpa using hT0)
  have HXC : Hid (∀ k (hk : k < L.length) W, Gq w3 W → W.cell? ⟨sb, so + k, none⟩ = some (.slice L[k].a n L[k].c)) := fun k hk W hW => by
    have h1 := hsc k (L[k].v) (by simp [hk])
    rw [Below.cell hW (by exact hsb), h1, ← (HRG.out k hk).1]; rfl
  have HXR : Hid (∀ k (hk : k < L.length) W, Gq w3 W → Rd W L[k].a (ic L[k].xs)) := fun k hk W hW => ((HOK.out W hW).2.2 L[k] (List.getElem_mem hk)).2.1
  have HXV : Hid (∀ k (hk : k < L.length), X.getD k [] = L[k].xs) := fun k hk => HRA.out k hk
  have HXN : Hid (∀ k (hk : k < L.length), L[k].xs.length = n ∧ ∀ y ∈ L[k].xs, -8388608 ≤ y ∧ y ≤ 8388607) := fun k hk => HRG.out k hk
  have HXL : Hid (X.length = L.length) := HRL.out
  have HT0 : Hid (0 < L.length) := hT0
  have HT1 : Hid (L.length ≤ 16) := hT1
  have HC0 : Hid (∀ W, Gq w3 W → W.cell? ⟨w.heap.size, 0, none⟩ = some (.int .i64 rate)) := fun W hW => (blk_gqr kA hW).cell 0
  have HC1 : Hid (∀ W, Gq w3 W → W.cell? ⟨w.heap.size, 1, none⟩ = some (.slice (some ⟨sb, so, none⟩) L.length sc)) := fun W hW => (blk_gqr kA hW).cell 1
  have HC4 : Hid (∀ W, Gq w3 W → W.cell? ⟨w.heap.size + 1, 0, none⟩ = some (.string ds)) := fun W hW => (blk_gqr kB hW).cell 0
  have HC5 : Hid (∀ W, Gq w3 W → W.cell? ⟨w.heap.size + 1, 1, none⟩ = some (.string ⟨#[49]⟩)) := fun W hW => (blk_gqr kB hW).cell 1
  have HKC : Hid (∀ W, Gq w3 W → Blk W (w.heap.size + 2) 24 [.int .i64 0, .slice none 0 0]) := fun W hW => blk_gqr kC hW
  clear hsb hsc HRG HRL HRA HOK kA kB kC hT0 hT1
  rw [hwb, hwa] at hw3
  have HW3 := Lib.hid hw3
  clear hw3 hwa hwb
  clear wa wb
  obtain ⟨T, hT⟩ : ∃ T, L.length = T := ⟨_, rfl⟩
  rw [hT] at HEM HCK HLN HC1 HT0 HT1 HXL HW3 ⊢
  obtain ⟨w0, hw0⟩ : ∃ w0, w0 = w := ⟨_, rfl⟩
  subst hw0
  go_enter Tryd.func6, Tryd.ntmps6
  go_upto_region 1 with (fail)
  rw [← HW3.out]
  have d0 := HC0.out w3 (Gq.refl _)
  have d1 := HC1.out w3 (Gq.refl _)
  go_wp2_with fail
  refine HCK.out.mono ?_
  rintro e w4 ⟨rfl, hg4⟩
  have HG4 := Lib.hid hg4
  have d4 := HC4.out w4 hg4
  have d5 := HC5.out w4 hg4
  clear hg4 d0 d1
  go_wp2_with fail
  refine (HCR.out w4).mono ?_
  rintro e w5 ⟨rfl, hg5⟩
  have HBD : Hid (Gq w3 w5.drew) := (HG4.out.trans hg5).drew
  clear d4 d5 hg5
  go_upto_region 7 with (fail)
  refine wp_region_factsK _ (by kernel_rfl) (by kernel_rfl) [[], [0], [], [2], [2, 3], [], [5], [0, 1, 2, 3, 4, 5, 6], [], [0, 1, 2, 3, 4, 5, 6, 7, 8], []] (by kernel_rfl) [some 27, some 28, some 29, some 30, some 31, some 32, some 33, some 34, some 9, none, some 10] (by kernel_rfl) (fun vs => by simp only [putA, putL, if_true, Act.put, List.setIfInBounds_toArray, List.set_cons_zero, List.set_cons_succ]; rfl) (ganF w3 w0.heap.size rate sb so T sc n) (by kernel_rfl) ?_ ⟨?_, ?_, ?_, ?_, ?_, ?_, ?_, ?_, ?_, ?_, ?_, trivial⟩ ?_
  · exact fa_zero [0] (by kernel_rfl) <| fa_cons (⟨HBD.out, trivial⟩) <| fa_nil _
  · -- 0: Op.fieldAddr 24 t2 0
    intro Ls vs w Kk H hu hK
    replace hu : ∀ k ∈ ([] : List Nat), Ls k = true := hu
    have qbase : Gq w3 w ∧ True := H.up hu 0 rfl rfl
    obtain ⟨h0, -⟩ := qbase
    have hKK := Lib.hid hK
    clear hK H
    go_simp
    refine hKK.out _ _ (fun f _ _ _ h => h) ?_
    exact fa_pick [1] (by kernel_rfl) <| fa_cons (fun _ => rfl) <| fa_nil _
  · -- 1: Op.load 3 t27
    intro Ls vs w Kk H hu hK
    replace hu : ∀ k ∈ ([0] : List Nat), Ls k = true := hu
    have qbase : Gq w3 w ∧ True := H.up hu 0 rfl rfl
    obtain ⟨h0, -⟩ := qbase
    have f0 : vs 0 = .pointer (some ⟨w0.heap.size, 0, none⟩) := H.up hu 1 rfl rfl
    have d0 := (HC0.out w h0)
    have d1 := (HC1.out w h0)
    have hKK := Lib.hid hK
    clear hK H
    go_simp
    refine hKK.out _ _ (fun f _ _ _ h => h) ?_
    exact fa_pick [2] (by kernel_rfl) <| fa_cons (fun _ => rfl) <| fa_nil _
  · -- 2: Op.fieldAddr 24 t2 1
    intro Ls vs w Kk H hu hK
    replace hu : ∀ k ∈ ([] : List Nat), Ls k = true := hu
    have qbase : Gq w3 w ∧ True := H.up hu 0 rfl rfl
    obtain ⟨h0, -⟩ := qbase
    have hKK := Lib.hid hK
    clear hK H
    go_simp
    refine hKK.out _ _ (fun f _ _ _ h => h) ?_
    exact fa_pick [3] (by kernel_rfl) <| fa_cons (fun _ => rfl) <| fa_nil _
  · -- 3: Op.load 22 t29
    intro Ls vs w Kk H hu hK
    replace hu : ∀ k ∈ ([2] : List Nat), Ls k = true := hu
    have qbase : Gq w3 w ∧ True := H.up hu 0 rfl rfl
    obtain ⟨h0, -⟩ := qbase
    have f2 : vs 2 = .pointer (some ⟨w0.heap.size, 1, none⟩) := H.up hu 3 rfl rfl
    have d0 := (HC0.out w h0)
    have d1 := (HC1.out w h0)
    have hKK := Lib.hid hK
    clear hK H
    go_simp
    refine hKK.out _ _ (fun f _ _ _ h => h) ?_
    exact fa_pick [4] (by kernel_rfl) <| fa_cons (fun _ => rfl) <| fa_nil _
  · -- 4: Op.call { builtin len, args := #[t30], argTypes := #[22] }
    intro Ls vs w Kk H hu hK
    replace hu : ∀ k ∈ ([2, 3] : List Nat), Ls k = true := hu
    have qbase : Gq w3 w ∧ True := H.up hu 0 rfl rfl
    obtain ⟨h0, -⟩ := qbase
    have f3 : vs 3 = .slice (some ⟨sb, so, none⟩) T sc := H.up hu 4 rfl rfl
    have hKK := Lib.hid hK
    clear hK H
    go_simp
    refine hKK.out _ _ (fun f _ _ _ h => h) ?_
    exact fa_pick [5] (by kernel_rfl) <| fa_cons (fun _ => rfl) <| fa_nil _
  · -- 5: Op.load 24 t2
    intro Ls vs w Kk H hu hK
    replace hu : ∀ k ∈ ([] : List Nat), Ls k = true := hu
    have qbase : Gq w3 w ∧ True := H.up hu 0 rfl rfl
    obtain ⟨h0, -⟩ := qbase
    have d0 := (HC0.out w h0)
    have d1 := (HC1.out w h0)
    have hKK := Lib.hid hK
    clear hK H
    go_simp
    refine hKK.out _ _ (fun f _ _ _ h => h) ?_
    exact fa_pick [6] (by kernel_rfl) <| fa_cons (fun _ => rfl) <| fa_nil _
  · -- 6: Op.call { value (Operand.func 15), args := #[t32], argTypes := #[24] }
    intro Ls vs w Kk H hu hK
    replace hu : ∀ k ∈ ([5] : List Nat), Ls k = true := hu
    have qbase : Gq w3 w ∧ True := H.up hu 0 rfl rfl
    obtain ⟨h0, -⟩ := qbase
    have f5 : vs 5 = .agg #[.int .i64 rate, .slice (some ⟨sb, so, none⟩) T sc] := H.up hu 6 rfl rfl
    have hKK := Lib.hid hK
    clear hK H
    go_simp
    refine (HLN.out w h0).mono ?_
    rintro e w' ⟨rfl, hb⟩
    refine ⟨_, rfl, hKK.out _ _ (fun f hf _ _ h => ganK w3 w0.heap.size rate sb so T sc n f hf _ _ _ hb h) ?_⟩
    exact fa_pick [7] (by kernel_rfl) <| fa_cons (fun _ => rfl) <| fa_nil _
  · -- 7: Op.call { value (Operand.func 14), args := #[t28, t31, t33], argTypes := #[3, 3, 3] }
    intro Ls vs w Kk H hu hK
    replace hu : ∀ k ∈ ([0, 1, 2, 3, 4, 5, 6] : List Nat), Ls k = true := hu
    have qbase : Gq w3 w ∧ True := H.up hu 0 rfl rfl
    obtain ⟨h0, -⟩ := qbase
    have f1 : vs 1 = .int .i64 rate := H.up hu 2 rfl rfl
    have f4 : vs 4 = .int .i64 (T : Int) := H.up hu 5 rfl rfl
    have f6 : vs 6 = .int .i64 (n : Int) := H.up hu 7 rfl rfl
    have hKK := Lib.hid hK
    clear hK H
    go_simp
    refine (HEM.out w h0).mono ?_
    rintro e w' ⟨A, c, gs, rfl, hv, hb⟩
    refine ⟨_, rfl, hKK.out _ _ (fun f hf _ _ h => ganK w3 w0.heap.size rate sb so T sc n f hf _ _ _ hb h) ?_⟩
    exact fa_pick [8, 10] (by kernel_rfl) <| fa_cons (fun _ => ⟨A, c, gs, rfl, hv⟩) <|
        fa_cons (fun hL => absurd (show (7 : Nat) ∈ ([0, 1, 2, 3, 4, 5, 6, 7, 8] : List Nat) from by decide) (hL 9 (show (9 : Nat) ∈ ([7, 8, 9] : List Nat) from by decide) (show (9 : Nat) ≠ 7 from by decide)).2) <| fa_nil _
  · -- 8: Op.alloc 24
    intro Ls vs w Kk H hu hK
    replace hu : ∀ k ∈ ([] : List Nat), Ls k = true := hu
    have qbase : Gq w3 w ∧ True := H.up hu 0 rfl rfl
    obtain ⟨h0, -⟩ := qbase
    have hKK := Lib.hid hK
    clear hK H
    go_simp
    refine hKK.out _ _ (fun f hf _ _ h => ganK w3 w0.heap.size rate sb so T sc n f hf _ _ _ (Gq.alloc (Gq.refl _) _) h) ?_
    exact fa_pick [9, 10] (by kernel_rfl) <| fa_cons (fun _ => ⟨_, 0, none, 0, 0, rfl, Below.size h0, Blk.new _ _ _⟩) <|
        fa_cons (fun hL => absurd (show (8 : Nat) ∈ ([0, 1, 2, 3, 4, 5, 6, 7, 8] : List Nat) from by decide) (hL 9 (show (9 : Nat) ∈ ([7, 8, 9] : List Nat) from by decide) (show (9 : Nat) ≠ 8 from by decide)).2) <| fa_nil _
  · -- 9: Op.store 24 t9 t34
    intro Ls vs w Kk H hu hK
    replace hu : ∀ k ∈ ([0, 1, 2, 3, 4, 5, 6, 7, 8] : List Nat), Ls k = true := hu
    have qbase : Gq w3 w ∧ True := H.up hu 0 rfl rfl
    obtain ⟨h0, -⟩ := qbase
    have qemp : ∃ A c gs, vs 7 = .agg #[.int .i64 rate, .slice A T c] ∧ EmpF w3.heap.size w A T c n gs := H.up hu 8 rfl rfl
    obtain ⟨A7, c7, gs7, e7, v7⟩ := qemp
    have qbx : ∃ g x A L c, vs 8 = .pointer (some ⟨g, 0, none⟩) ∧ w3.heap.size ≤ g ∧ Blk w g 24 [.int .i64 x, .slice A L c] := H.up hu 9 rfl rfl
    obtain ⟨g8, x8, A8, L8, c8, e8, l8, b8⟩ := qbx
    have d0 := b8.cell 0
    have d1 := b8.cell 1
    simp only [List.getElem?_cons_zero, List.getElem?_cons_succ] at d0 d1
    have k0 := b8.frozen 0
    have k1 := b8.frozen 1
    have hKK := Lib.hid hK
    clear hK H
    go_simp
    refine hKK.out _ _ (fa_cons (fun _ _ h => ⟨(h.1.set (p := ⟨g8, 0, none⟩) l8 _).set (p := ⟨g8, 1, none⟩) l8 _, trivial⟩) <|
      fa_cons (fun _ _ h => h) <|
      fa_cons (fun _ _ h => h) <|
      fa_cons (fun _ _ h => h) <|
      fa_cons (fun _ _ h => h) <|
      fa_cons (fun _ _ h => h) <|
      fa_cons (fun _ _ h => h) <|
      fa_cons (fun _ _ h => h) <|
      fa_cons (fun _ _ h => (by obtain ⟨A, c, gs, h1, h2⟩ := h; exact ⟨A, c, gs, h1, (h2.oth b8 0 _).oth (b8.set_ 0 _) 1 _⟩)) <|
      fa_cons (fun _ _ h => (by obtain ⟨g, x, A, L, c, h1, h2, h3⟩ := h; have e4 := (Eq.symm e8).trans h1; injection e4 with e4; injection e4 with e4; injection e4 with e4; subst e4; exact ⟨g8, rate, A7, T, c7, h1, l8, (b8.set_ 0 _).set_ 1 _⟩)) <|
      fa_cons (fun hn => absurd (show (9 : Nat) ∈ ([7, 8, 9] : List Nat) from by decide) hn) <|
      fa_cons (fun _ _ h => h) <| fa_nil _) ?_
    exact fa_pick [10] (by kernel_rfl) <| fa_cons (fun _ => ⟨g8, A7, c7, gs7, e8, l8, (b8.set_ 0 _).set_ 1 _, (v7.oth b8 0 _).oth (b8.set_ 0 _) 1 _⟩) <| fa_nil _
  · -- 10: Op.assign (const (0:i64))
    intro Ls vs w Kk H hu hK
    replace hu : ∀ k ∈ ([] : List Nat), Ls k = true := hu
    have qbase : Gq w3 w ∧ True := H.up hu 0 rfl rfl
    obtain ⟨h0, -⟩ := qbase
    have hKK := Lib.hid hK
    clear hK H
    go_simp
    refine hKK.out _ _ (fun f _ _ _ h => h) ?_
    exact fa_pick [11] (by kernel_rfl) <| fa_cons (fun _ => rfl) <| fa_nil _
  · intro vs w H
    have qbase : Gq w3 w ∧ True := fa_at H 0 rfl
    obtain ⟨h0, -⟩ := qbase
    have f0 : vs 0 = .pointer (some ⟨w0.heap.size, 0, none⟩) := fa_at H 1 rfl
    have f1 : vs 1 = .int .i64 rate := fa_at H 2 rfl
    have f2 : vs 2 = .pointer (some ⟨w0.heap.size, 1, none⟩) := fa_at H 3 rfl
    have f3 : vs 3 = .slice (some ⟨sb, so, none⟩) T sc := fa_at H 4 rfl
    have f4 : vs 4 = .int .i64 (T : Int) := fa_at H 5 rfl
    have f5 : vs 5 = .agg #[.int .i64 rate, .slice (some ⟨sb, so, none⟩) T sc] := fa_at H 6 rfl
    have f6 : vs 6 = .int .i64 (n : Int) := fa_at H 7 rfl
    have qsto : ∃ g A c gs, vs 8 = .pointer (some ⟨g, 0, none⟩) ∧ w3.heap.size ≤ g ∧ Blk w g 24 [.int .i64 rate, .slice A T c] ∧ EmpF w3.heap.size w A T c n gs := fa_at H 10 rfl
    obtain ⟨g9, A9, c9, gs9, e9, l9, k9, v9⟩ := qsto
    have f10 : vs 10 = .int .i64 0 := fa_at H 11 rfl
    clear H
    simp only [Nat.zero_add, Nat.reduceAdd]
    have HG0 := Lib.hid (GI.start h0 l9 k9 v9 HT0.out)
    clear h0 l9 k9 v9
    simp only [f0, f1, f2, f3, f4, f5, f6, f10, e9]
    clear f0 f1 f2 f3 f4 f5 f6 f10 e9
    generalize vs 7 = z7
    generalize vs 9 = z9
    obtain ⟨ab, cur, rfl, HGI⟩ := HG0.out
    replace HGI := Lib.hid HGI
    clear HG0
    go_wp2_with fail
    go_loopw [10, 11] (fun mv tv wr => ∃ (a m : Nat) (O : List (List Int)), a ≤ T ∧ tv = .int .i64 (a : Int) ∧ mv = .int .i64 (m : Int) ∧ m ≤ a * n ∧ Hid (GI w3 wr g9 ab rate T c9 n cur gs9 O) ∧ Hid (Dn X O n (tq : Int) m a 0)) (fun _ tv _ => T - (intOf tv).toNat)
    case atStart => exact ⟨0, 0, _, by omega, rfl, rfl, by omega, HGI.out, fun _ b k hb => by omega⟩
    case round =>
      clear HGI HBD
      obtain ⟨a, m, O, ha, rfl, rfl, hm, HGI, HDN⟩ := hrel
      have d0 := HC0.out wr HGI.out.bel
      have d1 := HC1.out wr HGI.out.bel
      have hT1 := HT1.out
      by_cases hlt : a < T
      case neg =>
        have hd : decide (a < T) = false := by simpa using hlt
        have haT : a = T := by omega
        subst haT
        have d2 : wr.cell? ⟨g9, 0, none⟩ = _ := HGI.out.k9.cell 0
        have d3 : wr.cell? ⟨g9, 1, none⟩ = _ := HGI.out.k9.cell 1
        have kz := HKC.out wr HGI.out.bel
        have c0 : wr.cell? ⟨w0.heap.size + 2, 0, none⟩ = _ := kz.cell 0
        have c1 : wr.cell? ⟨w0.heap.size + 2, 1, none⟩ = _ := kz.cell 1
        have f0 := kz.frozen 0
        have f1 := kz.frozen 1
        simp only [List.getElem?_cons_zero, List.getElem?_cons_succ] at d2 d3 c0 c1
        obtain ⟨wz, hwz⟩ : ∃ wz, wz = (wr.setCell ⟨w0.heap.size + 2, 0, none⟩ (.int .i64 rate)).setCell ⟨w0.heap.size + 2, 1, none⟩ (.slice (some ⟨ab, 0, none⟩) a c9) := ⟨_, rfl⟩
        have k5 : Blk wz (w0.heap.size + 2) 24 [.int .i64 rate, .slice (some ⟨ab, 0, none⟩) a c9] := by rw [hwz]; exact (kz.set_ 0 _).set_ 1 _
        have k2 : wz.cell? ⟨w0.heap.size + 2, 0, none⟩ = _ := k5.cell 0
        have k3 : wz.cell? ⟨w0.heap.size + 2, 1, none⟩ = _ := k5.cell 1
        simp only [List.getElem?_cons_zero, List.getElem?_cons_succ] at k2 k3
        have oth : ∀ (g : Nat) (ty : TypeId) (cs : List Value), Blk wr g ty cs → ty ≠ 24 → Blk wz g ty cs := fun g ty cs hk hne => by
          rw [hwz]
          exact blk_oth (blk_oth hk (blk_ty hk kz hne) 0 _) (blk_ty hk kz hne) 1 _
        have HFI : Hid (∃ (y : Snd) (m' : Nat), (m : Int) = (m' : Int) ∧ y.v = .agg #[.int .i64 rate, .slice (some ⟨ab, 0, none⟩) a c9] ∧ Below w0.heap.size w0 wz ∧ YOk wz y ∧ (m' = 0 → y.rate = rate ∧ y.rows = mulT X tq ∧ NoClip X tq)) := by
          obtain ⟨-, q2, q3⟩ := gai_fin (rate := rate) (c := c9) (oth _ _ _ HGI.out.ka (by decide)) HGI.out.hcur (fun b hb => oth _ _ _ (HGI.out.kg b hb).2 (by decide)) HGI.out.on hT1 hn0
          refine ⟨_, m, rfl, q2, ?_, ⟨ab, c9, a, n, cur, gs9, O, rfl, oth _ _ _ HGI.out.ka (by decide), HGI.out.hcur, fun b hb => oth _ _ _ (HGI.out.kg b hb).2 (by decide), HGI.out.on, hT1, hn0⟩, fun hm0 => ?_⟩
          · rw [hwz]
            exact ((HB3.out.trans HGI.out.bel).set (p := ⟨w0.heap.size + 2, 0, none⟩) (show w0.heap.size ≤ w0.heap.size + 2 by omega) _).set (p := ⟨w0.heap.size + 2, 1, none⟩) (show w0.heap.size ≤ w0.heap.size + 2 by omega) _
          · subst hm0
            obtain ⟨r1, r2⟩ := gai_rows (by rw [HXL.out]) (fun b hb => by rw [HXV.out b (by omega)]; exact (HXN.out b (by omega)).1) HGI.out.on HDN.out
            exact ⟨rfl, by rw [q3]; exact r1, r2⟩
        have HWZ := Lib.hid hwz
        clear HGI HDN hwz oth k5 kz
        go_wp2_with fail
        rw [← HWZ.out]
        obtain ⟨y, m', e1, e2, e3⟩ := HFI.out
        exact bodyPost_ret (v := .tuple #[.agg #[.int .i64 rate, .slice (some ⟨ab, 0, none⟩) a c9], .int .i64 (m : Int), .int .i64 0]) (by simp [results, Tryd.results6, go_sem, k2, k3]) rfl ⟨y, m', by rw [e1]; exact congrArg (fun z => Ending.returned (.tuple #[z, .int .i64 (m' : Int), .int .i64 0])) e2.symm, e3⟩
      have hd : decide (a < T) = true := by simpa using hlt
      go_wp2_with fail
      go_loopw [10, 12] (fun mv iv wr => ∃ (i m : Nat) (O : List (List Int)), i ≤ n ∧ iv = .int .i64 (i : Int) ∧ mv = .int .i64 (m : Int) ∧ m ≤ a * n + i ∧ Hid (GI w3 wr g9 ab rate T c9 n cur gs9 O) ∧ Hid (Dn X O n (tq : Int) m a i)) (fun _ iv _ => n - (intOf iv).toNat)
      case atStart => exact ⟨0, m, O, by omega, rfl, rfl, by omega, HGI.out, HDN.out⟩
      case round =>
        clear HGI HDN d0 d1 hm
        obtain ⟨i, m, O, hi, rfl, rfl, hm, HGI, HDN⟩ := hrel
        have d0 := HC0.out wr HGI.out.bel
        have d1 := HC1.out wr HGI.out.bel
        go_wp2_with fail
        refine (HLN.out wr HGI.out.bel).mono ?_
        rintro e w6 ⟨rfl, hg6⟩
        have HGJ := Lib.hid (HGI.out.gq hg6)
        clear hg6 HGI d0 d1
        have han : a * n ≤ 1600000 := Nat.le_trans (Nat.mul_le_mul (show a ≤ 16 by omega) hn0) (by omega)
        by_cases hil : i < n
        case neg =>
          have hdi : decide (i < n) = false := by simpa using hil
          have hin : i = n := by omega
          subst hin
          have hw1 : IntKind.i64.wrap ((a : Int) + 1) = (a : Int) + 1 := IntWalk.i64_in _ (by omega)
          go_wp2_with fail
          go_roundw
          case rel => exact ⟨a + 1, m, O, by omega, by go_num, rfl, by rw [Nat.succ_mul]; omega, HGJ.out, HDN.out.next⟩
          case measure => simp [intOf]; omega
        have hdi : decide (i < n) = true := by simpa using hil
        obtain ⟨wd, hwd⟩ : ∃ wd, wd = w6 := ⟨_, rfl⟩
        subst hwd
        have haL : a < L.length := by omega
        obtain ⟨rb, ro, rA, hrb, hrc⟩ := (HXR.out a haL wd HGJ.out.bel).at_ (by simp [ic, (HXN.out a haL).1]; omega)
        have hx1 := HXN.out a haL
        have hxi : i < L[a].xs.length := by rw [hx1.1]; exact hil
        obtain ⟨v, hv⟩ : ∃ v, L[a].xs[i] = v := ⟨_, rfl⟩
        have hvr := hx1.2 v (by rw [← hv]; exact List.getElem_mem hxi)
        have HXI : Hid ((X.getD a []).getD i 0 = v) := by
          show _ = _
          rw [HXV.out a haL, List.getD_eq_getElem?_getD, List.getElem?_eq_getElem hxi, ← hv]; rfl
        have HD1 : Hid (∀ W, Gq wd W → W.cell? ⟨w0.heap.size, 1, none⟩ = some (.slice (some ⟨sb, so, none⟩) T sc)) := fun W hW => HC1.out W (HGJ.out.bel.trans hW)
        have HD2 : Hid (∀ W, Gq wd W → W.cell? ⟨sb, so + a, none⟩ = some (.slice (some ⟨rb, ro, none⟩) n L[a].c)) := fun W hW => by rw [← rA]; exact HXC.out a haL W (HGJ.out.bel.trans hW)
        have HD3 : Hid (∀ W, Gq wd W → W.cell? ⟨rb, ro + i, none⟩ = some (.int .i64 v)) := fun W hW => by
          rw [Below.cell hW (by exact hrb)]
          exact hrc i _ (by simp [ic, List.getElem?_map, List.getElem?_eq_getElem hxi, hv])
        have HD4 : Hid (∀ W, Gq wd W → W.cell? ⟨w0.heap.size + 1, 0, none⟩ = some (.string ds)) := fun W hW => HC4.out W (HGJ.out.bel.trans hW)
        have HD5 : Hid (∀ W, Gq wd W → W.cell? ⟨w0.heap.size + 1, 1, none⟩ = some (.string ⟨#[49]⟩)) := fun W hW => HC5.out W (HGJ.out.bel.trans hW)
        have HIN : Hid (∀ W, Gq wd W → Calls Tryd.prog 18 #[.int .i64 v] W (NumRes (mkRat v 1) W)) := fun W hW => intQ_any v W (by unfold inI64; omega) (HPW.out W (HGJ.out.bel.trans hW))
        have HL1 : Hid (RLim 2 (mkRat v 1)) := by
          have h2 : W32 ^ 2 = 18446744073709551616 := by decide
          obtain ⟨e1, e2⟩ := mk_int v
          unfold Hid RLim Lim
          rw [e1, e2, h2]; omega
        have ht := HT12.out
        have HL2 : Hid (RLim 2 (mkRat (tq : Int) 1)) := by
          have h2 : W32 ^ 2 = 18446744073709551616 := by decide
          obtain ⟨e1, e2⟩ := mk_int (tq : Int)
          unfold Hid RLim Lim
          rw [e1, e2, h2]; omega
        have hvt : -419430400 ≤ v * tq ∧ v * tq ≤ 419430400 := by
          have q1 : v * tq ≤ 8388608 * tq := Int.mul_le_mul_of_nonneg_right (by omega) (by omega)
          have q2 : -8388608 * (tq : Int) ≤ v * tq := Int.mul_le_mul_of_nonneg_right (by omega) (by omega)
          omega
        obtain ⟨mm, hmm1, hmm2, hmm3⟩ := clipZ_ok (v * tq)
        obtain ⟨r1, hr1⟩ : ∃ r1, (clipZ (v * tq)).1 = r1 := ⟨_, rfl⟩
        rw [hr1] at hmm3
        have HRO : Hid (∀ va W, Gq wd W → NumQ W va (mkRat v 1 * mkRat (tq : Int) 1) → Calls Tryd.prog 16 #[va] W fun e w' => e = .returned (.tuple #[.int .i64 r1, .int .i64 (mm : Int)]) ∧ Gq W w') := fun va W hW hq => by
          obtain ⟨e1, e2⟩ := near_int (v * tq)
          rw [mul_int] at hq
          have h2 : W32 ^ 2 = 18446744073709551616 := by decide
          obtain ⟨e3, e4⟩ := mk_int (v * tq)
          have := rounded_any va _ W hq 2 (by unfold RLim Lim; rw [e3, e4, h2]; omega) (by omega) (by rw [e2]; omega) (HPW.out W (HGJ.out.bel.trans hW))
          rw [e1, hr1, hmm2] at this
          exact this
        have HST := Lib.hid (HDN.out.step (by rw [HGJ.out.ol]; exact hlt) (HGJ.out.on a hlt) hil HXI.out hmm3)
        have HOW : Hid (HGJ = HGJ) := rfl
        clear HOW
        generalize L[a].c = rc at *
        clear hv hx1 hrb hrc rA hmm2 hmm3 hvr hr1 ht hvt HDN HXI
        have j0 : (0 : Int) ≤ (a : Int) := by omega
        have j1 : (a : Int) < (T : Int) := by omega
        have j2 : (0 : Int) ≤ (i : Int) := by omega
        have j3 : (i : Int) < (n : Int) := by omega
        have HBE : Hid (Gq wd wd.drew) := (Gq.refl _).drew
        have HOF2 : Hid (∀ W, Gq wd W → Calls Tryd.prog 19 #[.agg #[.string ds, .string ⟨#[49]⟩]] W (NumRes (mkRat (tq : Int) 1) W)) := fun W _ => HOF.out W
        go_upto_region 14 with (fail)
        refine wp_region_factsK _ (by kernel_rfl) (by kernel_rfl) [[], [0], [], [0, 1, 2], [0, 1, 2, 3], [], [0, 1, 2, 3, 4, 5], [0, 1, 2, 3, 4, 5, 6], [0, 1, 2, 3, 4, 5, 6, 7], [], [9], [0, 1, 2, 3, 4, 5, 6, 7, 8, 9, 10], [0, 1, 2, 3, 4, 5, 6, 7, 8, 9, 10, 11], [0, 1, 2, 3, 4, 5, 6, 7, 8, 9, 10, 11, 12], [0, 1, 2, 3, 4, 5, 6, 7, 8, 9, 10, 11, 12, 13], [0, 1, 2, 3, 4, 5, 6, 7, 8, 9, 10, 11, 12, 13], [0, 1, 2, 3, 4, 5, 6, 7, 8, 9, 10, 11, 12, 13, 14], [0, 1, 2, 3, 4, 5, 6, 7, 8, 9, 10, 11, 12, 13, 15]] (by kernel_rfl) [some 49, some 50, some 51, some 52, some 53, some 54, some 55, some 56, some 57, some 58, some 59, some 60, some 61, some 48, some 62, some 63, some 13, some 14] (by kernel_rfl) (fun vs => by simp only [putA, putL, if_true, Act.put, List.setIfInBounds_toArray, List.set_cons_zero, List.set_cons_succ]; rfl) (gaoF wd w0.heap.size sb so T sc n rb ro rc a i v tq r1 mm ds) (by kernel_rfl) ?_ ⟨?_, ?_, ?_, ?_, ?_, ?_, ?_, ?_, ?_, ?_, ?_, ?_, ?_, ?_, ?_, ?_, ?_, ?_, trivial⟩ ?_
        · exact fa_zero [0] (by kernel_rfl) <| fa_cons (⟨HBE.out, trivial⟩) <| fa_nil _
        · -- 0: Op.fieldAddr 24 t2 1
          intro Ls vs w Kk H hu hK
          replace hu : ∀ k ∈ ([] : List Nat), Ls k = true := hu
          have qbase : Gq wd w ∧ True := H.up hu 0 rfl rfl
          obtain ⟨h0, -⟩ := qbase
          have hKK := Lib.hid hK
          clear hK H
          go_simp
          refine hKK.out _ _ (fun f _ _ _ h => h) ?_
          exact fa_pick [1] (by kernel_rfl) <| fa_cons (fun _ => rfl) <| fa_nil _
        · -- 1: Op.load 22 t49
          intro Ls vs w Kk H hu hK
          replace hu : ∀ k ∈ ([0] : List Nat), Ls k = true := hu
          have qbase : Gq wd w ∧ True := H.up hu 0 rfl rfl
          obtain ⟨h0, -⟩ := qbase
          have f0 : vs 0 = .pointer (some ⟨w0.heap.size, 1, none⟩) := H.up hu 1 rfl rfl
          have d1 := HD1.out w h0
          have hKK := Lib.hid hK
          clear hK H
          go_simp
          refine hKK.out _ _ (fun f _ _ _ h => h) ?_
          exact fa_pick [2] (by kernel_rfl) <| fa_cons (fun _ => rfl) <| fa_nil _
        · -- 2: Op.move t11
          intro Ls vs w Kk H hu hK
          replace hu : ∀ k ∈ ([] : List Nat), Ls k = true := hu
          have qbase : Gq wd w ∧ True := H.up hu 0 rfl rfl
          obtain ⟨h0, -⟩ := qbase
          have hKK := Lib.hid hK
          clear hK H
          go_simp
          refine hKK.out _ _ (fun f _ _ _ h => h) ?_
          exact fa_pick [3] (by kernel_rfl) <| fa_cons (fun _ => rfl) <| fa_nil _
        · -- 3: Op.indexAddr 22 t50 t51
          intro Ls vs w Kk H hu hK
          replace hu : ∀ k ∈ ([0, 1, 2] : List Nat), Ls k = true := hu
          have qbase : Gq wd w ∧ True := H.up hu 0 rfl rfl
          obtain ⟨h0, -⟩ := qbase
          have f1 : vs 1 = .slice (some ⟨sb, so, none⟩) T sc := H.up hu 2 rfl rfl
          have f2 : vs 2 = .int .i64 (a : Int) := H.up hu 3 rfl rfl
          have hKK := Lib.hid hK
          clear hK H
          go_simp
          refine hKK.out _ _ (fun f _ _ _ h => h) ?_
          exact fa_pick [4] (by kernel_rfl) <| fa_cons (fun _ => rfl) <| fa_nil _
        · -- 4: Op.load 25 t52
          intro Ls vs w Kk H hu hK
          replace hu : ∀ k ∈ ([0, 1, 2, 3] : List Nat), Ls k = true := hu
          have qbase : Gq wd w ∧ True := H.up hu 0 rfl rfl
          obtain ⟨h0, -⟩ := qbase
          have f3 : vs 3 = .pointer (some ⟨sb, so + a, none⟩) := H.up hu 4 rfl rfl
          have d2 := HD2.out w h0
          have hKK := Lib.hid hK
          clear hK H
          go_simp
          refine hKK.out _ _ (fun f _ _ _ h => h) ?_
          exact fa_pick [5] (by kernel_rfl) <| fa_cons (fun _ => rfl) <| fa_nil _
        · -- 5: Op.move t12
          intro Ls vs w Kk H hu hK
          replace hu : ∀ k ∈ ([] : List Nat), Ls k = true := hu
          have qbase : Gq wd w ∧ True := H.up hu 0 rfl rfl
          obtain ⟨h0, -⟩ := qbase
          have hKK := Lib.hid hK
          clear hK H
          go_simp
          refine hKK.out _ _ (fun f _ _ _ h => h) ?_
          exact fa_pick [6] (by kernel_rfl) <| fa_cons (fun _ => rfl) <| fa_nil _
        · -- 6: Op.indexAddr 25 t53 t54
          intro Ls vs w Kk H hu hK
          replace hu : ∀ k ∈ ([0, 1, 2, 3, 4, 5] : List Nat), Ls k = true := hu
          have qbase : Gq wd w ∧ True := H.up hu 0 rfl rfl
          obtain ⟨h0, -⟩ := qbase
          have f4 : vs 4 = .slice (some ⟨rb, ro, none⟩) n rc := H.up hu 5 rfl rfl
          have f5 : vs 5 = .int .i64 (i : Int) := H.up hu 6 rfl rfl
          have hKK := Lib.hid hK
          clear hK H
          go_simp
          refine hKK.out _ _ (fun f _ _ _ h => h) ?_
          exact fa_pick [7] (by kernel_rfl) <| fa_cons (fun _ => rfl) <| fa_nil _
        · -- 7: Op.load 3 t55
          intro Ls vs w Kk H hu hK
          replace hu : ∀ k ∈ ([0, 1, 2, 3, 4, 5, 6] : List Nat), Ls k = true := hu
          have qbase : Gq wd w ∧ True := H.up hu 0 rfl rfl
          obtain ⟨h0, -⟩ := qbase
          have f6 : vs 6 = .pointer (some ⟨rb, ro + i, none⟩) := H.up hu 7 rfl rfl
          have d3 := HD3.out w h0
          have hKK := Lib.hid hK
          clear hK H
          go_simp
          refine hKK.out _ _ (fun f _ _ _ h => h) ?_
          exact fa_pick [8] (by kernel_rfl) <| fa_cons (fun _ => rfl) <| fa_nil _
        · -- 8: Op.call { value (Operand.func 18), args := #[t56], argTypes := #[3] }
          intro Ls vs w Kk H hu hK
          replace hu : ∀ k ∈ ([0, 1, 2, 3, 4, 5, 6, 7] : List Nat), Ls k = true := hu
          have qbase : Gq wd w ∧ True := H.up hu 0 rfl rfl
          obtain ⟨h0, -⟩ := qbase
          have f7 : vs 7 = .int .i64 v := H.up hu 8 rfl rfl
          have hKK := Lib.hid hK
          clear hK H
          go_simp
          refine (HIN.out w h0).mono ?_
          rintro e w' ⟨v, rfl, hv, hb⟩
          obtain ⟨X, N, f, Y, O, t, rfl, -, -⟩ := num_agg hv
          refine ⟨_, rfl, hKK.out _ _ (fun f hf _ _ h => gaoK wd w0.heap.size sb so T sc n rb ro rc a i v tq r1 mm ds f hf _ _ _ hb h) ?_⟩
          exact fa_pick [9] (by kernel_rfl) <| fa_cons (fun _ => ⟨_, X, N, f, Y, O, t, rfl, hv⟩) <| fa_nil _
        · -- 9: Op.load 33 t3
          intro Ls vs w Kk H hu hK
          replace hu : ∀ k ∈ ([] : List Nat), Ls k = true := hu
          have qbase : Gq wd w ∧ True := H.up hu 0 rfl rfl
          obtain ⟨h0, -⟩ := qbase
          have d4 := HD4.out w h0
          have d5 := HD5.out w h0
          have hKK := Lib.hid hK
          clear hK H
          go_simp
          refine hKK.out _ _ (fun f _ _ _ h => h) ?_
          exact fa_pick [10] (by kernel_rfl) <| fa_cons (fun _ => rfl) <| fa_nil _
        · -- 10: Op.call { value (Operand.func 19), args := #[t58], argTypes := #[33] }
          intro Ls vs w Kk H hu hK
          replace hu : ∀ k ∈ ([9] : List Nat), Ls k = true := hu
          have qbase : Gq wd w ∧ True := H.up hu 0 rfl rfl
          obtain ⟨h0, -⟩ := qbase
          have f9 : vs 9 = .agg #[.string ds, .string ⟨#[49]⟩] := H.up hu 10 rfl rfl
          have hKK := Lib.hid hK
          clear hK H
          go_simp
          refine (HOF2.out w h0).mono ?_
          rintro e w' ⟨v, rfl, hv, hb⟩
          obtain ⟨X, N, f, Y, O, t, rfl, -, -⟩ := num_agg hv
          refine ⟨_, rfl, hKK.out _ _ (fun f hf _ _ h => gaoK wd w0.heap.size sb so T sc n rb ro rc a i v tq r1 mm ds f hf _ _ _ hb h) ?_⟩
          exact fa_pick [11] (by kernel_rfl) <| fa_cons (fun _ => ⟨_, X, N, f, Y, O, t, rfl, hv⟩) <| fa_nil _
        · -- 11: Op.call { value (Operand.func 17), args := #[t57, t59], argTypes := #[48, 48] }
          intro Ls vs w Kk H hu hK
          replace hu : ∀ k ∈ ([0, 1, 2, 3, 4, 5, 6, 7, 8, 9, 10] : List Nat), Ls k = true := hu
          have qbase : Gq wd w ∧ True := H.up hu 0 rfl rfl
          obtain ⟨h0, -⟩ := qbase
          have qn8 : ∃ s X N f Y O t, vs 8 = .agg #[.bool s, .slice X N f, .slice Y O t] ∧ NumQ w (.agg #[.bool s, .slice X N f, .slice Y O t]) (mkRat v 1) := H.up hu 9 rfl rfl
          obtain ⟨sn8, Xn8, Nn8, fn8, Yn8, On8, tn8, en8, vn8⟩ := qn8
          have qn10 : ∃ s X N f Y O t, vs 10 = .agg #[.bool s, .slice X N f, .slice Y O t] ∧ NumQ w (.agg #[.bool s, .slice X N f, .slice Y O t]) (mkRat (tq : Int) 1) := H.up hu 11 rfl rfl
          obtain ⟨sn10, Xn10, Nn10, fn10, Yn10, On10, tn10, en10, vn10⟩ := qn10
          have hKK := Lib.hid hK
          clear hK H
          go_simp
          refine (timesQ_any _ _ _ _ w vn8 vn10 2 HL1.out HL2.out (by omega)).mono ?_
          rintro e w' ⟨v, rfl, hv, hb⟩
          obtain ⟨X, N, f, Y, O, t, rfl, -, -⟩ := num_agg hv
          refine ⟨_, rfl, hKK.out _ _ (fun f hf _ _ h => gaoK wd w0.heap.size sb so T sc n rb ro rc a i v tq r1 mm ds f hf _ _ _ hb h) ?_⟩
          exact fa_pick [12] (by kernel_rfl) <| fa_cons (fun _ => ⟨_, X, N, f, Y, O, t, rfl, hv⟩) <| fa_nil _
        · -- 12: Op.call { value (Operand.func 16), args := #[t60], argTypes := #[48] }
          intro Ls vs w Kk H hu hK
          replace hu : ∀ k ∈ ([0, 1, 2, 3, 4, 5, 6, 7, 8, 9, 10, 11] : List Nat), Ls k = true := hu
          have qbase : Gq wd w ∧ True := H.up hu 0 rfl rfl
          obtain ⟨h0, -⟩ := qbase
          have qn11 : ∃ s X N f Y O t, vs 11 = .agg #[.bool s, .slice X N f, .slice Y O t] ∧ NumQ w (.agg #[.bool s, .slice X N f, .slice Y O t]) (mkRat v 1 * mkRat (tq : Int) 1) := H.up hu 12 rfl rfl
          obtain ⟨sn11, Xn11, Nn11, fn11, Yn11, On11, tn11, en11, vn11⟩ := qn11
          have hKK := Lib.hid hK
          clear hK H
          go_simp
          refine (HRO.out _ w h0 vn11).mono ?_
          rintro e w' ⟨rfl, hb⟩
          refine ⟨_, rfl, hKK.out _ _ (fun f hf _ _ h => gaoK wd w0.heap.size sb so T sc n rb ro rc a i v tq r1 mm ds f hf _ _ _ hb h) ?_⟩
          exact fa_pick [13] (by kernel_rfl) <| fa_cons (fun _ => rfl) <| fa_nil _
        · -- 13: Op.move t61
          intro Ls vs w Kk H hu hK
          replace hu : ∀ k ∈ ([0, 1, 2, 3, 4, 5, 6, 7, 8, 9, 10, 11, 12] : List Nat), Ls k = true := hu
          have qbase : Gq wd w ∧ True := H.up hu 0 rfl rfl
          obtain ⟨h0, -⟩ := qbase
          have f12 : vs 12 = .tuple #[.int .i64 r1, .int .i64 (mm : Int)] := H.up hu 13 rfl rfl
          have hKK := Lib.hid hK
          clear hK H
          go_simp
          refine hKK.out _ _ (fun f _ _ _ h => h) ?_
          exact fa_pick [14] (by kernel_rfl) <| fa_cons (fun _ => rfl) <| fa_nil _
        · -- 14: Op.extract t48 0
          intro Ls vs w Kk H hu hK
          replace hu : ∀ k ∈ ([0, 1, 2, 3, 4, 5, 6, 7, 8, 9, 10, 11, 12, 13] : List Nat), Ls k = true := hu
          have qbase : Gq wd w ∧ True := H.up hu 0 rfl rfl
          obtain ⟨h0, -⟩ := qbase
          have f13 : vs 13 = .tuple #[.int .i64 r1, .int .i64 (mm : Int)] := H.up hu 14 rfl rfl
          have hKK := Lib.hid hK
          clear hK H
          go_simp
          refine hKK.out _ _ (fun f _ _ _ h => h) ?_
          exact fa_pick [15] (by kernel_rfl) <| fa_cons (fun _ => rfl) <| fa_nil _
        · -- 15: Op.extract t48 1
          intro Ls vs w Kk H hu hK
          replace hu : ∀ k ∈ ([0, 1, 2, 3, 4, 5, 6, 7, 8, 9, 10, 11, 12, 13] : List Nat), Ls k = true := hu
          have qbase : Gq wd w ∧ True := H.up hu 0 rfl rfl
          obtain ⟨h0, -⟩ := qbase
          have f13 : vs 13 = .tuple #[.int .i64 r1, .int .i64 (mm : Int)] := H.up hu 14 rfl rfl
          have hKK := Lib.hid hK
          clear hK H
          go_simp
          refine hKK.out _ _ (fun f _ _ _ h => h) ?_
          exact fa_pick [16] (by kernel_rfl) <| fa_cons (fun _ => rfl) <| fa_nil _
        · -- 16: Op.assign t62
          intro Ls vs w Kk H hu hK
          replace hu : ∀ k ∈ ([0, 1, 2, 3, 4, 5, 6, 7, 8, 9, 10, 11, 12, 13, 14] : List Nat), Ls k = true := hu
          have qbase : Gq wd w ∧ True := H.up hu 0 rfl rfl
          obtain ⟨h0, -⟩ := qbase
          have f14 : vs 14 = .int .i64 r1 := H.up hu 15 rfl rfl
          have hKK := Lib.hid hK
          clear hK H
          go_simp
          refine hKK.out _ _ (fun f _ _ _ h => h) ?_
          exact fa_pick [17] (by kernel_rfl) <| fa_cons (fun _ => rfl) <| fa_nil _
        · -- 17: Op.assign t63
          intro Ls vs w Kk H hu hK
          replace hu : ∀ k ∈ ([0, 1, 2, 3, 4, 5, 6, 7, 8, 9, 10, 11, 12, 13, 15] : List Nat), Ls k = true := hu
          have qbase : Gq wd w ∧ True := H.up hu 0 rfl rfl
          obtain ⟨h0, -⟩ := qbase
          have f15 : vs 15 = .int .i64 (mm : Int) := H.up hu 16 rfl rfl
          have hKK := Lib.hid hK
          clear hK H
          go_simp
          refine hKK.out _ _ (fun f _ _ _ h => h) ?_
          exact fa_pick [18] (by kernel_rfl) <| fa_cons (fun _ => rfl) <| fa_nil _
        · intro vs w H
          have qbase : Gq wd w ∧ True := fa_at H 0 rfl
          obtain ⟨h0, -⟩ := qbase
          have f0 : vs 0 = .pointer (some ⟨w0.heap.size, 1, none⟩) := fa_at H 1 rfl
          have f1 : vs 1 = .slice (some ⟨sb, so, none⟩) T sc := fa_at H 2 rfl
          have f2 : vs 2 = .int .i64 (a : Int) := fa_at H 3 rfl
          have f3 : vs 3 = .pointer (some ⟨sb, so + a, none⟩) := fa_at H 4 rfl
          have f4 : vs 4 = .slice (some ⟨rb, ro, none⟩) n rc := fa_at H 5 rfl
          have f5 : vs 5 = .int .i64 (i : Int) := fa_at H 6 rfl
          have f6 : vs 6 = .pointer (some ⟨rb, ro + i, none⟩) := fa_at H 7 rfl
          have f7 : vs 7 = .int .i64 v := fa_at H 8 rfl
          have f9 : vs 9 = .agg #[.string ds, .string ⟨#[49]⟩] := fa_at H 10 rfl
          have f12 : vs 12 = .tuple #[.int .i64 r1, .int .i64 (mm : Int)] := fa_at H 13 rfl
          have f13 : vs 13 = .tuple #[.int .i64 r1, .int .i64 (mm : Int)] := fa_at H 14 rfl
          have f14 : vs 14 = .int .i64 r1 := fa_at H 15 rfl
          have f15 : vs 15 = .int .i64 (mm : Int) := fa_at H 16 rfl
          have f16 : vs 16 = .int .i64 r1 := fa_at H 17 rfl
          have f17 : vs 17 = .int .i64 (mm : Int) := fa_at H 18 rfl
          clear H
          simp only [Nat.zero_add, Nat.reduceAdd]
          have HH : Hid (Gq wd w) := h0
          clear h0
          simp only [f0, f1, f2, f3, f4, f5, f6, f7, f9, f12, f13, f14, f15, f16, f17]
          clear f0 f1 f2 f3 f4 f5 f6 f7 f9 f12 f13 f14 f15 f16 f17
          generalize vs 8 = z8
          generalize vs 10 = z10
          generalize vs 11 = z11
          have HGK := Lib.hid (HGJ.out.gq HH.out)
          have d6 : w.cell? ⟨g9, 1, none⟩ = _ := HGK.out.k9.cell 1
          have d7 : w.cell? ⟨ab, a, none⟩ = _ := (HGK.out.ka.cell a).trans (HGK.out.hcur a hlt)
          have hk8 := (HGK.out.kg a hlt).2
          have ho8 := HGK.out.on a hlt
          have hio : i < (O.getD a []).length := by rw [ho8]; exact hil
          have d8 : w.cell? ⟨gs9.getD a 0, i, none⟩ = some (.int .i64 ((O.getD a [])[i])) := by rw [hk8.cell i]; simp [ic, List.getElem?_map]
          have f8 := hk8.frozen i
          simp only [List.getElem?_cons_zero, List.getElem?_cons_succ] at d6
          unfold trk at d7
          have HGS := Lib.hid (HGK.out.set_ hlt i r1)
          generalize (O.getD a [])[i] = o8 at d8
          generalize O.set a ((O.getD a []).set i r1) = O2 at *
          generalize gs9.getD a 0 = g8 at *
          clear hk8 ho8 hio HGK HGJ HH
          have hTc := HGS.out.hc
          have hw1 : IntKind.i64.wrap ((m : Int) + (mm : Int)) = (m : Int) + (mm : Int) := IntWalk.i64_in _ (by omega)
          have hw2 : IntKind.i64.wrap ((i : Int) + 1) = (i : Int) + 1 := IntWalk.i64_in _ (by omega)
          go_wp2_with fail
          go_roundw
          case rel => exact ⟨i + 1, m + mm, O2, by omega, by go_num, by go_num, by omega, HGS.out, HST.out⟩
          case measure => simp [intOf]; omega
end Go.Proofs.YtlmgdofhmgpljaaDoor
/- The contract of match.levels. -/
namespace Go.Proofs.YtlmgdofhmgpljaaDoor
open Go.RowKit Go.Dw
attribute [local go_sem ↓] Go.wp_at_zero Go.wp_at_succ

theorem info_int : (Tryd.prog.info? 3).map (fun i => (i.zero, i.size, i.bytes)) = some (some (.int .i64 0), 1, 8) := by kernel_rfl
/-- a row of m numbers of the call's own -/
def Num (w1 : World) (g m : Nat) (f : Nat → Int) (wr : World) : Prop := Blk wr g 3 (ic ((List.range m).map f)) ∧ Below g w1 wr
theorem Num.store {w1 wr : World} {g m : Nat} {f f' : Nat → Int} (h : Num w1 g m f wr) (j : Nat) (v : Int) (hf : ∀ k, k < m → f' k = if k = j then v else f k) : Num w1 g m f' (wr.setCell ⟨g, j, none⟩ (.int .i64 v)) := by
  refine ⟨?_, h.2.setCell (Nat.le_refl _) _⟩
  have h1 := h.1.set_ j (.int .i64 v)
  have e : (ic ((List.range m).map f)).set j (.int .i64 v) = ic ((List.range m).map f') := by
    unfold ic
    rw [← List.map_set, map_range_set, map_range_congr hf]
  rw [e] at h1
  exact h1
theorem Num.cell {w1 wr : World} {g m : Nat} {f : Nat → Int} (h : Num w1 g m f wr) {j : Nat} (hj : j < m) : wr.cell? ⟨g, j, none⟩ = some (.int .i64 (f j)) := by
  rw [h.1.cell j]; simp [ic, hj]
theorem Num.congr {w1 wr : World} {g m : Nat} {f f' : Nat → Int} (h : Num w1 g m f wr) (e : ∀ k, k < m → f k = f' k) : Num w1 g m f' wr := by
  unfold Num; rw [← map_range_congr e]; exact h
theorem zs_ic (m : Nat) : zs m (.int .i64 0) = ic ((List.range m).map fun _ => (0 : Int)) := by
  apply List.ext_getElem
  · simp [zs, ic]
  · intro i h1 h2; simp [zs, ic]
theorem colS_rng {f : Nat → Int} (hf : ∀ i, 0 ≤ f i ∧ f i ≤ 8388608) {P : Nat} (hP1 : 1 ≤ P) (hP2 : P ≤ 100000) (k i : Nat) : 0 ≤ colS f P k i ∧ colS f P k i ≤ 838860800000 := by
  rw [colS_eq f P k (by omega)]
  have := refS_rng f hf (k * P) (min (i - k * P) P)
  omega
theorem colS_full {f : Nat → Int} {P m k : Nat} (hP1 : 1 ≤ P) (hk : k < m) : colS f P k (m * P) = refS f (k * P) P := by
  rw [colS_eq f P k (by omega)]
  have h1 : (k + 1) * P ≤ m * P := Nat.mul_le_mul_right P hk
  rw [Nat.add_mul, Nat.one_mul] at h1
  rw [show min (m * P - k * P) P = P by omega]
set_option maxHeartbeats 2000000 in
theorem levels_any (x : Snd) (P : Nat) (w : World) (h : x.Ok w) (hs : SndOk x.rate x.rows x.n) (hP1 : 1 ≤ P) (hP2 : P ≤ 100000) :
    Calls Tryd.prog 10 #[x.v, .int .i64 (P : Int)] w fun e w' => ∃ A c, e = .returned (.slice A (x.n / P) c) ∧ Rd w' A (ic (lev x.rows P (x.n / P))) ∧ Below w.heap.size w w' := by
  have HRA := Lib.hid x.rows_at
  have HRL := Lib.hid x.rows_len
  have hb0 : Below w.heap.size w (w.alloc (.cells #[.int .i64 x.rate, x.p.v] 24)) := (Below.refl _ _).alloc (Nat.le_refl _) _
  have h1 := h.below hb0
  have HB0 := Lib.hid hb0
  have HNE : Hid (x.n = (x.rows.getD 0 []).length) := rfl
  have HOK := Lib.hid hs
  have HLV := Lib.hid (fun k t => levK_rng hs P k hP2 t)
  have HTR := Lib.hid (fun t => refS_rng (trA x.rows t) (trA_rng hs t))
  have hn0 : x.n ≤ 100000 := hs.2.2.2.2.1
  have hT0 : 0 < x.p.xs.length := by rw [← x.rows_len]; exact hs.2.2.1
  have hT1 : x.p.xs.length ≤ 16 := by rw [← x.rows_len]; exact hs.2.2.2.1
  have HLT : Hid (∀ k (hk : k < x.p.xs.length), x.p.xs[k].xs.length = x.n ∧ ∀ y ∈ x.p.xs[k].xs, -8388608 ≤ y ∧ y ≤ 8388607) := fun k hk => by
    have := hs.2.2.2.2.2 k (by rw [x.rows_len]; exact hk)
    have e : x.rows[k]'(by rw [x.rows_len]; exact hk) = x.p.xs[k].xs := by simp [Snd.rows]
    rw [e] at this
    exact this
  clear hb0 hs
  generalize x.n = n0 at *
  generalize x.rows = rows at *
  obtain ⟨rate, ⟨A, c, L⟩⟩ := x
  obtain ⟨hn, hrd, hrs⟩ := h1
  clear h
  simp only [Snd.v, Slc.v] at *
  have HRS := Lib.hid hrs
  clear hrs
  obtain ⟨b, off, rfl, hb, hc⟩ := hrd.at_ (by simp; omega)
  have HCE : Hid (∀ k (hk : k < L.length), (w.alloc (.cells #[.int .i64 rate, .slice (some ⟨b, off, none⟩) L.length c] 24)).cell? ⟨b, off + k, none⟩ = some (.slice L[k].a n0 L[k].c)) := fun k hk => by
    have := hc k (L[k].v) (by simp [hk])
    rw [this, ← (HLT.out k hk).1]; rfl
  have c0 := HCE.out 0 hT0
  rw [Nat.add_zero] at c0
  generalize L[0].a = a0 at c0
  generalize L[0].c = cc0 at c0
  clear hc
  obtain ⟨m, hm⟩ : ∃ m, n0 / P = m := ⟨_, rfl⟩
  have hmP : m * P ≤ n0 := by rw [← hm]; exact Nat.div_mul_le_self n0 P
  have hm1 : m ≤ n0 := by rw [← hm]; exact Nat.div_le_self n0 P
  have HM := Lib.hid hm
  rw [hm]
  obtain ⟨i0, hi0, hz00, hz01, hz02⟩ := info_parts info_int
  have hmk := run_mk (P := Tryd.prog) 25 3 i0 _ 8 Tryd.underlying25 hi0 hz00 hz01 hz02 rfl (m : Int) m rfl (by omega) (by omega)
  have hqq : Int.tdiv (n0 : Int) (P : Int) = (m : Int) := by rw [← hm]; rfl
  clear hm hi0 hz00 hz01 hz02
  have hP0 : ((P : Int) == 0) = false := by simp; omega
  go_enter Tryd.func10, Tryd.ntmps10
  go_wp2_with fail
  have hn1 : Num (w.alloc (.cells #[.int .i64 rate, .slice (some ⟨b, off, none⟩) L.length c] 24)) (w.heap.size + 1) m (fun k => levK rows P k 0) ((w.alloc (.cells #[.int .i64 rate, .slice (some ⟨b, off, none⟩) L.length c] 24)).alloc (.cells (zs m (.int .i64 0)).toArray 3)) := by
    refine ⟨?_, (Below.refl _ _).alloc (by simp) _⟩
    have := Blk.new (w.alloc (.cells #[.int .i64 rate, .slice (some ⟨b, off, none⟩) L.length c] 24)) 3 (zs m (.int .i64 0))
    rw [zs_ic] at this ⊢
    simpa [levK] using this
  have HN1 := Lib.hid hn1
  clear hn1 hmk hqq c0
  have hg1 : (w.alloc (.cells #[.int .i64 rate, .slice (some ⟨b, off, none⟩) L.length c] 24)).heap.size = w.heap.size + 1 := by simp
  have HG1 := Lib.hid hg1
  generalize w.alloc (.cells #[.int .i64 rate, .slice (some ⟨b, off, none⟩) L.length c] 24) = w1 at *
  clear hg1
  obtain ⟨g, hg⟩ : ∃ g, w.heap.size + 1 = g := ⟨_, rfl⟩
  rw [hg] at HN1 HG1
  rw [hg]
  clear hg
  obtain ⟨M, hM⟩ : ∃ M, m * P = M := ⟨_, rfl⟩
  have HMI : Hid ((m : Int) * (P : Int) = (M : Int)) := by show _ = _; rw [← hM]; simp
  have HMM := Lib.hid hM
  rw [hM] at hmP
  clear hM
  go_loopw [21] (fun tv wr => ∃ t : Nat, t ≤ L.length ∧ tv = .int .i64 (t : Int) ∧ Hid (Num w1 g m (fun k => levK rows P k t) wr)) (fun tv _ => L.length - (intOf tv).toNat)
  case atStart => exact ⟨0, Nat.zero_le _, rfl, HN1⟩
  case round =>
    clear HN1
    obtain ⟨t, ht, rfl, HN⟩ := hrel
    by_cases hlt : t < L.length
    case neg =>
      have hte : t = L.length := by omega
      have HRD : Hid (Rd wr (some ⟨g, 0, none⟩) (ic (lev rows P m))) := by
        have := (HN.out.1.rds (S := fun _ => True) trivial).rd
        rw [hte] at this
        show Rd _ _ _
        unfold lev
        rw [HRL.out]
        exact this
      have HBB : Hid (Below w.heap.size w wr) := HB0.out.trans ((HN.out.2.mono (by rw [← HG1.out]; exact HB0.out.size)))
      have hd0 : decide (t < L.length) = false := by simpa using hlt
      clear hte
      go_wp2_with fail
      go_ret
      exact ⟨_, _, rfl, HRD.out, HBB.out⟩
    have hd0 : decide (t < L.length) = true := by simpa using hlt
    have hbg : b < g := by rw [← HG1.out]; exact hb
    have hck : wr.cell? ⟨b, off + t, none⟩ = some (.slice L[t].a n0 L[t].c) := by rw [HN.out.2.cell (by exact hbg)]; exact HCE.out t hlt
    obtain ⟨_, hrdt, hcap⟩ := HRS.out L[t] (List.getElem_mem hlt)
    obtain ⟨hlen, hrng⟩ := HLT.out t hlt
    have e4 := HRA.out t hlt
    have e4' : rows.getD t [] = L[t].xs := e4
    have HTA : Hid (∀ i (hi : i < L[t].xs.length), trA rows t i = ab L[t].xs[i]) := fun i hi => by
      unfold trA; rw [e4', List.getD_eq_getElem?_getD, List.getElem?_eq_getElem hi, Option.getD_some]
    have hrng2 := HTR.out t
    have HRG := Lib.hid (fun k i => colS_rng (trA_rng HOK.out t) hP1 hP2 k i)
    generalize L[t] = s at *
    obtain ⟨a, cc, xs⟩ := s
    simp only at hck hrdt hlen hrng HTA hcap
    have HRNG := Lib.hid hrng
    have hMc : (M : Int) ≤ (cc : Int) := by omega
    have hMc0 : (0 : Int) ≤ (M : Int) := by omega
    have HLEN := Lib.hid hlen
    have hMn : M ≤ xs.length := by omega
    have hw0 : IntKind.i64.wrap ((m : Int) * (P : Int)) = (M : Int) := by rw [HMI.out]; exact IntWalk.i64_in _ (by omega)
    have hw0' : wrap64 ((m : Int) * (P : Int)) = (M : Int) := by rw [HMI.out]; exact IntWalk.wrap64_in _ (by omega)
    have HRX := Lib.hid hrdt
    clear e4 e4' hrng hrng2 hlen hrdt
    go_wp2_with fail
    go_loopw [32] (fun iv wr => ∃ i : Nat, i ≤ M ∧ iv = .int .i64 (i : Int) ∧ Hid (Num w1 g m (fun k => levK rows P k t + colS (trA rows t) P k i) wr)) (fun iv _ => M - (intOf iv).toNat)
    case atStart => exact ⟨0, Nat.zero_le _, rfl, HN.out.congr (fun k _ => by simp [colS])⟩
    case round =>
      clear HN hck hw0 hw0'
      obtain ⟨i, hi, rfl, HN⟩ := hrel
      by_cases hil : i < M
      case neg =>
        have hie : i = M := by omega
        have HN2 : Hid (Num w1 g m (fun k => levK rows P k (t + 1)) wr) := HN.out.congr (fun k hk => by
          rw [hie, ← HMM.out, colS_full hP1 hk, levK])
        have hd1 : decide (i < M) = false := by simpa using hil
        clear hie
        go_wp2_with fail
        go_roundw
        case rel => exact ⟨t + 1, by omega, by go_num, HN2⟩
        case measure => simp [intOf]; omega
      have hd1 : decide (i < M) = true := by simpa using hil
      have hix : i < xs.length := by omega
      obtain ⟨b2, off2, rfl, hb2, hc2⟩ := HRX.out.at_ (by simp [ic_length]; omega)
      have hbg2 : b2 < g := by rw [← HG1.out]; exact hb2
      have hcj : wr.cell? ⟨b2, off2 + i, none⟩ = some (.int .i64 xs[i]) := by rw [HN.out.2.cell (by exact hbg2)]; exact hc2 i _ (ic_at xs i hix)
      clear hc2
      obtain ⟨q, hq⟩ : ∃ q, i / P = q := ⟨_, rfl⟩
      have hqm : q < m := by
        rw [← hq, Nat.div_lt_iff_lt_mul (by omega)]
        rw [HMM.out]; exact hil
      have hqq : Int.tdiv (i : Int) (P : Int) = (q : Int) := by rw [← hq]; rfl
      have hcq := HN.out.cell hqm
      have hfz := HN.out.1.frozen q
      have hv := HTA.out i hix
      have hy := HRNG.out xs[i] (List.getElem_mem hix)
      obtain ⟨hy1, hy2⟩ := hy
      have hlv := HLV.out q t
      have hcl := HRG.out q i
      have HST : Hid (∀ v, v = levK rows P q t + colS (trA rows t) P q i + ab xs[i] → Num w1 g m (fun k => levK rows P k t + colS (trA rows t) P k (i + 1)) (wr.setCell ⟨g, q, none⟩ (.int .i64 v))) := fun v hv2 => by
        refine HN.out.store q v (fun k hk => ?_)
        rw [colS, hv2, hv]
        by_cases he : k = q
        · subst he; rw [if_pos rfl, if_pos hq]; omega
        · rw [if_neg he, if_neg (by rw [hq]; exact fun h => he h.symm), Int.add_zero]
      try simp only at hcq
      generalize xs[i] = y at *
      obtain ⟨u, hu⟩ : ∃ u, levK rows P q t + colS (trA rows t) P q i = u := ⟨_, rfl⟩
      rw [hu] at hcq HST
      have hu1 : 0 ≤ u := by omega
      have hu2 : u ≤ 20000000000000 := by omega
      have jq0 : (0 : Int) ≤ (q : Int) := by omega
      have jq1 : (q : Int) < (m : Int) := by omega
      have ji0 : (0 : Int) ≤ (i : Int) := by omega
      have ji1 : (i : Int) < (M : Int) := by omega
      have hP0 : ((P : Int) == 0) = false := by simp; omega
      clear hv hlv hcl hu hq
      have HN' := HN
      clear HN
      by_cases hneg : y < 0
      · have hmx : max y (-y) = -y := by omega
        have hab : Hid (ab y = -y) := by show _ = _; unfold ab; rw [if_pos hneg]
        go_wp2_with fail
        go_roundw
        case rel => exact ⟨i + 1, by omega, by go_num, HST.out _ (by rw [hab.out])⟩
        case measure => simp [intOf]; omega
      · have hmx : max y (-y) = y := by omega
        have hab : Hid (ab y = y) := by show _ = _; unfold ab; rw [if_neg hneg]
        go_wp2_with fail
        go_roundw
        case rel => exact ⟨i + 1, by omega, by go_num, HST.out _ (by rw [hab.out])⟩
        case measure => simp [intOf]; omega
end Go.Proofs.YtlmgdofhmgpljaaDoor
/- The contracts of match.checkPart, Levels, Marks. -/
namespace Go.Proofs.YtlmgdofhmgpljaaDoor
open Go.RowKit Go.Dw
attribute [local go_sem ↓] Go.wp_at_zero Go.wp_at_succ

def prtF (rate : Int) (T : List (List Int)) (part : Int) : Int := if chkS rate T ≠ 0 then chkS rate T else if 1 ≤ part ∧ part ≤ 100000 then 0 else 1
set_option maxHeartbeats 1000000 in
theorem checkPart_any (x : Snd) (part : Int) (w : World) (h : x.Ok w) :
    Calls Tryd.prog 9 #[x.v, .int .i64 part] w fun e w' => e = .returned (.int .i64 (prtF x.rate x.rows part)) ∧ Below w.heap.size w w' := by
  have hb0 : Below w.heap.size w (w.alloc (.cells #[.int .i64 x.rate, x.p.v] 24)) := (Below.refl _ _).alloc (Nat.le_refl _) _
  have HCK := Lib.hid (sndCheck_any x _ (h.below hb0))
  have HB0 := Lib.hid hb0
  have HE : Hid (prtF x.rate x.rows part = if chkS x.rate x.rows ≠ 0 then chkS x.rate x.rows else if 1 ≤ part ∧ part ≤ 100000 then 0 else 1) := rfl
  clear h hb0
  generalize prtF x.rate x.rows part = r at *
  generalize chkS x.rate x.rows = f at *
  simp only [Snd.v, Slc.v] at *
  by_cases hz : f = 0
  case neg =>
    have hzb : (f != 0) = true := by simpa using hz
    have HR : Hid (r = f) := by show _ = _; rw [HE.out, if_pos hz]
    clear hz
    go_enter Tryd.func9, Tryd.ntmps9
    go_wp2_with fail
    refine HCK.out.mono ?_
    rintro e w1 ⟨rfl, hb1⟩
    have HB1 := Lib.hid (HB0.out.trans (hb1.mono HB0.out.size))
    clear hb1
    go_wp2_with fail
    go_ret
    exact ⟨ret_int HR.out.symm, HB1.out⟩
  have hzb : (f != 0) = false := by simpa using hz
  have HE2 : Hid (r = if 1 ≤ part ∧ part ≤ 100000 then 0 else 1) := by show _ = _; rw [HE.out, if_neg (fun hh => hh hz)]
  clear hz HE
  rcases (show part < 1 ∨ (¬ part < 1 ∧ 100000 < part) ∨ (¬ part < 1 ∧ ¬ 100000 < part) by omega) with h3 | h3 | h3
  · have HR : Hid (r = 1) := by show _ = _; rw [HE2.out, if_neg (by omega)]
    go_enter Tryd.func9, Tryd.ntmps9
    go_wp2_with fail
    refine HCK.out.mono ?_
    rintro e w1 ⟨rfl, hb1⟩
    have HB1 := Lib.hid (HB0.out.trans (hb1.mono HB0.out.size))
    clear hb1
    go_wp2_with fail
    go_ret
    exact ⟨ret_int HR.out.symm, HB1.out⟩
  · have HR : Hid (r = 1) := by show _ = _; rw [HE2.out, if_neg (by omega)]
    go_enter Tryd.func9, Tryd.ntmps9
    go_wp2_with fail
    refine HCK.out.mono ?_
    rintro e w1 ⟨rfl, hb1⟩
    have HB1 := Lib.hid (HB0.out.trans (hb1.mono HB0.out.size))
    clear hb1
    go_wp2_with fail
    go_ret
    exact ⟨ret_int HR.out.symm, HB1.out⟩
  · have HR : Hid (r = 0) := by show _ = _; rw [HE2.out, if_pos (by omega)]
    go_enter Tryd.func9, Tryd.ntmps9
    go_wp2_with fail
    refine HCK.out.mono ?_
    rintro e w1 ⟨rfl, hb1⟩
    have HB1 := Lib.hid (HB0.out.trans (hb1.mono HB0.out.size))
    clear hb1
    go_wp2_with fail
    go_ret
    exact ⟨ret_int HR.out.symm, HB1.out⟩
/-- a slice of numbers and a fault -/
def IntsPost (w : World) (r : List Int × Int) (e : Ending) (w' : World) : Prop :=
  ∃ A c, e = .returned (.tuple #[.slice A r.1.length c, .int .i64 r.2]) ∧ Rd w' A (ic r.1) ∧ Below w.heap.size w w'
theorem intsPost_none {w w' : World} {f : Int} {r : List Int × Int} (hr : r = ([], f)) (hb : Below w.heap.size w w') : IntsPost w r (.returned (.tuple #[.slice none 0 0, .int .i64 f])) w' := by
  subst hr; exact ⟨none, 0, rfl, .inl rfl, hb⟩
theorem levF_bad {rate : Int} {T : List (List Int)} {part : Int} (h : prtF rate T part ≠ 0) : levF rate T part = ([], prtF rate T part) := by
  unfold levF prtF at *
  by_cases h1 : chkS rate T ≠ 0
  · rw [if_pos h1, if_pos h1]
  · rw [if_neg h1] at h ⊢
    rw [if_neg h1]
    by_cases h2 : 1 ≤ part ∧ part ≤ 100000
    · rw [if_pos h2] at h; exact absurd rfl h
    · rw [if_neg h2, if_neg h2]
theorem levF_ok {rate : Int} {T : List (List Int)} {part : Int} (h : prtF rate T part = 0) : chkS rate T = 0 ∧ 1 ≤ part ∧ part ≤ 100000 ∧ levF rate T part = (lev T part.toNat ((T.getD 0 []).length / part.toNat), 0) := by
  unfold levF prtF at *
  by_cases h1 : chkS rate T ≠ 0
  · rw [if_pos h1] at h; exact absurd h h1
  · rw [if_neg h1] at h
    by_cases h2 : 1 ≤ part ∧ part ≤ 100000
    · rw [if_neg h1, if_pos h2]
      exact ⟨Decidable.not_not.1 h1, h2.1, h2.2, rfl⟩
    · rw [if_neg h2] at h; omega
end Go.Proofs.YtlmgdofhmgpljaaDoor
/- The contract of match.Marks. -/
namespace Go.Proofs.YtlmgdofhmgpljaaDoor
open Go.RowKit Go.Dw
attribute [local go_sem ↓] Go.wp_at_zero Go.wp_at_succ

theorem or_all : ∀ i : Fin 8, ∀ m : Fin 256, m.val < 2 ^ i.val → bits .or .i64 (m.val : Int) ((2 ^ i.val : Nat) : Int) = ((m.val + 2 ^ i.val : Nat) : Int) := by decide +kernel
theorem or_bit {i m : Nat} (hi : i < 8) (hm : m < 2 ^ i) : bits .or .i64 (m : Int) ((2 ^ i : Nat) : Int) = ((m + 2 ^ i : Nat) : Int) := by
  have h8 : 2 ^ i ≤ 2 ^ 7 := Nat.pow_le_pow_right (by omega) (by omega)
  exact or_all ⟨i, hi⟩ ⟨m, by omega⟩ hm
theorem wrap_all : ∀ i : Fin 8, wrap64 ((2 : Int) ^ i.val) = ((2 ^ i.val : Nat) : Int) ∧ IntKind.i64.wrap ((2 : Int) ^ i.val) = ((2 ^ i.val : Nat) : Int) := by decide +kernel
theorem bit_wrap {i : Nat} (hi : i < 8) : wrap64 ((2 : Int) ^ i) = ((2 ^ i : Nat) : Int) ∧ IntKind.i64.wrap ((2 : Int) ^ i) = ((2 ^ i : Nat) : Int) := wrap_all ⟨i, hi⟩
theorem mrkF_bad {rate : Int} {T : List (List Int)} {part f : Int} (h : levF rate T part = ([], f)) (hf : f ≠ 0) : mrkF rate T part = ([], f) := by
  unfold mrkF; rw [h]; simp [hf]
theorem mrkF_ok {rate : Int} {T : List (List Int)} {part : Int} {l : List Int} (h : levF rate T part = (l, 0)) : mrkF rate T part = if 500 < l.length - 8 then ([], 2) else (mksN l (l.length - 8), 0) := by
  unfold mrkF; rw [h]; rfl
theorem ic_one (a : List Int) (x : Int) : ic (a ++ [x]) = ic a ++ [.int .i64 x] := by simp [ic]
set_option maxHeartbeats 2000000 in
theorem Marks_any (x : Snd) (part : Int) (w : World) (h : x.Ok w) :
    Calls Tryd.prog 4 #[x.v, .int .i64 part] w (IntsPost w (mrkF x.rate x.rows part)) := by
  have hb0 : Below w.heap.size w (w.alloc (.cells #[.int .i64 x.rate, x.p.v] 24)) := (Below.refl _ _).alloc (Nat.le_refl _) _
  have HCK := Lib.hid (checkPart_any x part _ (h.below hb0))
  have HB0 := Lib.hid hb0
  have HNE : Hid (x.n = (x.rows.getD 0 []).length) := rfl
  by_cases hz : prtF x.rate x.rows part = 0
  case neg =>
    have hzb : (prtF x.rate x.rows part != 0) = true := by simpa using hz
    have HR := Lib.hid (mrkF_bad (levF_bad hz) hz)
    clear hz h hb0
    simp only [Snd.v, Slc.v] at *
    go_enter Tryd.func4, Tryd.ntmps4
    go_wp2_with fail
    refine HCK.out.mono ?_
    rintro e w1 ⟨rfl, hb1⟩
    have HB1 := Lib.hid (HB0.out.trans (hb1.mono HB0.out.size))
    clear hb1
    go_wp2_with fail
    go_ret2
    exact intsPost_none HR.out HB1.out
  obtain ⟨hs, hp1, hp2, hr⟩ := levF_ok hz
  have hso := chkS_zero hs
  obtain ⟨P, rfl⟩ := Int.eq_ofNat_of_zero_le (show 0 ≤ part by omega)
  simp only [Int.toNat_natCast] at hr
  rw [← HNE.out] at hr
  have HR := Lib.hid (mrkF_ok hr)
  have HLV := Lib.hid (fun (W : World) (hW : Below (w.alloc (.cells #[.int .i64 x.rate, x.p.v] 24)).heap.size (w.alloc (.cells #[.int .i64 x.rate, x.p.v] 24)) W) => levels_any x P W ((h.below hb0).below hW) hso (by omega) (by omega))
  have hc0 : (w.alloc (.cells #[.int .i64 x.rate, x.p.v] 24)).cell? ⟨w.heap.size, 0, none⟩ = some (.int .i64 x.rate) := new_cell (cs := [_, _]) rfl rfl
  have hc1 : (w.alloc (.cells #[.int .i64 x.rate, x.p.v] 24)).cell? ⟨w.heap.size, 1, none⟩ = some x.p.v := new_cell (cs := [_, _]) rfl rfl
  have hws : w.heap.size < (w.alloc (.cells #[.int .i64 x.rate, x.p.v] 24)).heap.size := by simp
  rw [hz] at HCK
  have hll := lev_length x.rows P (x.n / P)
  have hm : x.n / P ≤ 100000 := Nat.le_trans (Nat.div_le_self _ _) hso.2.2.2.2.1
  obtain ⟨ii, hii, hzi0, hzi1, hzi2⟩ := info_parts info_int
  have HII := Lib.hid (And.intro hii (And.intro hzi0 (And.intro hzi1 hzi2)))
  clear hz hs hso hr h hb0 hii hzi0 hzi1 hzi2
  generalize lev x.rows P (x.n / P) = l at *
  rw [← hll] at hm HLV
  clear hll
  simp only [Snd.v, Slc.v] at *
  go_enter Tryd.func4, Tryd.ntmps4
  go_wp2_with fail
  refine HCK.out.mono ?_
  generalize w.alloc (.cells #[.int .i64 x.rate, .slice x.p.a x.p.xs.length x.p.c] 24) = w0 at *
  rintro e w1 ⟨rfl, hb1⟩
  have k0 : w1.cell? ⟨w.heap.size, 0, none⟩ = some (.int .i64 x.rate) := by rw [hb1.cell (by exact hws)]; exact hc0
  have k1 : w1.cell? ⟨w.heap.size, 1, none⟩ = some (.slice x.p.a x.p.xs.length x.p.c) := by rw [hb1.cell (by exact hws)]; exact hc1
  have HB1 := Lib.hid hb1
  clear hb1 hc0 hc1
  go_wp2_with fail
  refine (HLV.out _ HB1.out).mono ?_
  rintro e w2 ⟨A2, c2, rfl, hr2, hb2⟩
  have HR2 := Lib.hid hr2
  have HB2 := Lib.hid (HB0.out.trans ((HB1.out.trans (hb2.mono HB1.out.size)).mono HB0.out.size))
  clear hr2 hb2 k0 k1
  by_cases hbig : 508 < l.length
  · have HRR : Hid (mrkF x.rate x.rows (P : Int) = ([], 2)) := by show _ = _; rw [HR.out, if_pos (by omega)]
    have hd0 : decide ((500 : Int) < (l.length : Int) - 8) = true := by simp; omega
    go_wp2_with fail
    go_ret2
    exact intsPost_none HRR.out HB2.out
  have HRR : Hid (mrkF x.rate x.rows (P : Int) = (mksN l (l.length - 8), 0)) := by show _ = _; rw [HR.out, if_neg (by omega)]
  have hd0 : decide ((500 : Int) < (l.length : Int) - 8) = false := by simp; omega
  go_wp2_with fail
  go_loopw [8, 9] (fun ov kv wr => ∃ k : Nat, k ≤ l.length - 8 ∧ kv = .int .i64 (k : Int) ∧ Hid (wr.ownsRow w2.heap.size 3 1 ov k (ic (mksN l k))) ∧ Hid (Below w2.heap.size w2 wr)) (fun _ kv _ => l.length - 8 - (intOf kv).toNat)
  case atStart => exact ⟨0, by omega, rfl, ⟨rfl, .inl ⟨rfl, rfl⟩⟩, Below.refl _ _⟩
  case round =>
    obtain ⟨k, hk, rfl, HOWN, HB⟩ := hrel
    obtain ⟨A3, c3, rfl⟩ := slice_of_own HOWN.out
    by_cases hlt : k < l.length - 8
    case neg =>
      have hke : k = l.length - 8 := by omega
      have hd1 : decide ((k : Int) + 8 < (l.length : Int)) = false := by simp; omega
      have HRD := Lib.hid (Rd.of_own HOWN.out)
      have HKE := Lib.hid hke
      clear hke
      go_wp2_with fail
      go_ret2
      exact ⟨A3, c3, by rw [HRR.out, ← HKE.out, mksN_length]; rfl, by rw [HRR.out, ← HKE.out]; exact HRD.out, HB2.out.trans (HB.out.mono HB2.out.size)⟩
    have hd1 : decide ((k : Int) + 8 < (l.length : Int)) = true := by simp; omega
    obtain ⟨wo, hwo⟩ : ∃ wo, wo = wr := ⟨_, rfl⟩
    subst hwo
    go_wp2_with fail
    go_loopw [10, 32] (fun mv iv wr => ∃ i m : Nat, i ≤ 8 ∧ iv = .int .i64 (i : Int) ∧ mv = .int .i64 (m : Int) ∧ Hid (m = mkB l k i) ∧ ∃ q, wr = wo.drewN q) (fun _ iv _ => 8 - (intOf iv).toNat)
    case atStart => exact ⟨0, 0, by omega, rfl, rfl, rfl, 0, rfl⟩
    case round =>
      obtain ⟨i, m, hi, rfl, rfl, HM, q, rfl⟩ := hrel
      by_cases hi8 : i < 8
      case neg =>
        have hie : i = 8 := by omega
        have HM8 : Hid (m = mkB l k 8) := by show _ = _; rw [HM.out, hie]
        have hm8 := mkB_lt l k 8
        have hm9 : m < 256 := by have := HM8.out; omega
        subst hie
        have hd2 : decide ((8 : Int) < 8) = false := by decide
        clear hm8
        go_wp2_with (at_builtin; (refine wpList_append_own _ rfl _ _ 25 rfl w2.heap.size 3 ii _ 1 8 Tryd.underlying25 HII.out.1 HII.out.2.1 HII.out.2.2.1 HII.out.2.2.2 rfl (by decide) _ _ _ rfl (own_drewN HOWN.out q |>.alloc _) ⟨wo.heap.size, 0, none⟩ 1 1 [.int .i64 (m : Int)] (by rfl) (by rfl) (World.news_of_block (cs := #[.int .i64 (m : Int)]) (t := 3) (fr := (0, 0)) (by exact heap_alloc_new (wo.drewN q) _)) (by simp [Value.oneCell']) (by unfold maxLen; omega) (by omega) (by simp; have := HB.out.size; exact Nat.le_succ_of_le this) ?_); intro v1 w5 hown5 hgrow5 _)
        have hB5 : Hid (Below w2.heap.size w2 w5) := below_app' (below_drewN HB.out q) HB.out.size (own_drewN HOWN.out q) hgrow5
        have hO5 : Hid (w5.ownsRow w2.heap.size 3 1 v1 (k + 1) (ic (mksN l (k + 1)))) := by
          show World.ownsRow _ _ _ _ _ _ _
          rw [mksN_succ, ic_one, ← HM8.out]
          exact hown5
        clear hown5 hgrow5
        go_wp2_with fail
        go_roundw
        case rel => exact ⟨k + 1, by omega, by go_num, hO5, hB5⟩
        case measure => simp [intOf]; omega
      obtain ⟨b, off, rfl, hb, hc⟩ := HR2.out.at_ (by rw [ic_length]; omega)
      have c1 : wo.cell? ⟨b, off + (k + i), none⟩ = some (.int .i64 l[k + i]) := by rw [HB.out.cell (by exact hb)]; exact hc (k + i) _ (ic_at l (k + i) (by omega))
      have c2' : wo.cell? ⟨b, off + (k + i + 1), none⟩ = some (.int .i64 l[k + i + 1]) := by rw [HB.out.cell (by exact hb)]; exact hc (k + i + 1) _ (ic_at l (k + i + 1) (by omega))
      have hml := mkB_lt l k i
      have HMS : Hid (mkB l k (i + 1) = m + if l[k + i] < l[k + i + 1] then 2 ^ i else 0) := by
        show _ = _
        rw [mkB, ← HM.out, List.getD_eq_getElem?_getD, List.getD_eq_getElem?_getD, List.getElem?_eq_getElem (show k + i < l.length by omega), List.getElem?_eq_getElem (show k + i + 1 < l.length by omega), Option.getD_some, Option.getD_some]
      have hi8' : decide (i < 8) = true := by simpa using hi8
      have hw0 : IntKind.i64.wrap ((k : Int) + (i : Int)) = (k : Int) + (i : Int) := IntWalk.i64_in _ (by omega)
      have hw1 : IntKind.i64.wrap ((k : Int) + (i : Int) + 1) = (k : Int) + (i : Int) + 1 := IntWalk.i64_in _ (by omega)
      have j0 : (0 : Int) ≤ (k : Int) + (i : Int) := by omega
      have j1 : (k : Int) + (i : Int) < (l.length : Int) := by omega
      have j2 : (0 : Int) ≤ (k : Int) + (i : Int) + 1 := by omega
      have j3 : (k : Int) + (i : Int) + 1 < (l.length : Int) := by omega
      have j4 : ((k : Int) + (i : Int)).toNat = k + i := by omega
      have j5 : ((k : Int) + (i : Int) + 1).toNat = k + i + 1 := by omega
      rw [← HM.out] at hml
      have hp8 : 2 ^ i ≤ 128 := (show 2 ^ i ≤ 2 ^ 7 from Nat.pow_le_pow_right (by omega) (by omega))
      have hor := or_bit hi8 hml
      obtain ⟨B, hB⟩ : ∃ B, 2 ^ i = B := ⟨_, rfl⟩
      rw [hB] at hor hml hp8 HMS
      have hsh := (bit_wrap hi8).1
      have hsh' := (bit_wrap hi8).2
      rw [hB] at hsh hsh'
      clear hB hc
      generalize l[k + i] = y1 at *
      generalize l[k + i + 1] = y2 at *
      by_cases hy : y1 < y2
      · have hyb : decide (y1 < y2) = true := by simpa using hy
        rw [if_pos hy] at HMS
        go_wp2_with fail
        go_quiet (fail)
        clear hw0 hw1 j4 j5
        go_wp2_with fail
        go_roundw
        case rel => exact ⟨i + 1, m + B, by omega, by go_num, by first | rfl | (rw [hor]), HMS.out.symm, _, rfl⟩
        case measure => simp [intOf]; omega
      · have hyb : decide (y1 < y2) = false := by simpa using hy
        rw [if_neg hy] at HMS
        go_wp2_with fail
        go_quiet (fail)
        clear hw0 hw1 j4 j5
        go_wp2_with fail
        go_roundw
        case rel => exact ⟨i + 1, m, by omega, by go_num, rfl, HMS.out.symm, _, rfl⟩
        case measure => simp [intOf]; omega
end Go.Proofs.YtlmgdofhmgpljaaDoor
/- The contract of slices.Equal at []int. -/
namespace Go.Proofs.YtlmgdofhmgpljaaDoor
open Go.RowKit Go.Dw

theorem eq_of_take {α : Type} {xs ys : List α} (hl : xs.length = ys.length) (h : xs.take xs.length = ys.take xs.length) : xs = ys := by
  rw [List.take_length, hl, List.take_length] at h; exact h
theorem take_step {α : Type} {xs ys : List α} {k : Nat} (h1 : k < xs.length) (h2 : k < ys.length) (h : xs.take k = ys.take k) (he : xs[k] = ys[k]) : xs.take (k + 1) = ys.take (k + 1) := by
  rw [List.take_succ_eq_append_getElem h1, List.take_succ_eq_append_getElem h2, h, he]

theorem ne_of_getElem {α : Type} {xs ys : List α} {k : Nat} (h1 : k < xs.length) (h2 : k < ys.length) (he : ¬ xs[k] = ys[k]) : xs ≠ ys := by
  rintro rfl; exact he rfl

set_option maxHeartbeats 400000 in
theorem equal_any (A B : Option Addr) (c d : Nat) (xs ys : List Int) (w : World) (ha : Rd w A (ic xs)) (hb : Rd w B (ic ys)) (hn : xs.length ≤ 9223372036854775807) :
    Calls Tryd.prog 8 #[.slice A xs.length c, .slice B ys.length d] w fun e w' => e = .returned (.bool (decide (xs = ys))) ∧ ∃ n, w' = w.drewN n := by
  by_cases hl : xs.length = ys.length
  · have hl1 : ((xs.length : Int) != (ys.length : Int)) = false := by simp; omega
    have HL := Lib.hid hl
    have hle : xs.length ≤ ys.length := by omega
    clear hl
    go_enter Tryd.func8, Tryd.ntmps8
    go_wp2
    go_loopw [13] (fun i wr => ∃ k : Nat, k ≤ xs.length ∧ i = .int .i64 k ∧ Hid (xs.take k = ys.take k) ∧ ∃ n, wr = w.drewN n) (fun i _ => xs.length - (intOf i).toNat)
    case atStart => exact ⟨0, Nat.zero_le _, rfl, by simp [Hid], 0, rfl⟩
    case round =>
      obtain ⟨k, hk, rfl, hall, n, rfl⟩ := hrel
      by_cases hlt : k < xs.length
      · obtain ⟨b, off, rfl, hbb, hc⟩ := ha.at_ (by simp [ic_length]; omega)
        obtain ⟨b2, off2, rfl, hbb2, hc2⟩ := hb.at_ (by simp [ic_length]; omega)
        have hck := hc k _ (ic_at xs k hlt)
        have hck2 := hc2 k _ (ic_at ys k (by omega))
        have hlt2 : k < ys.length := by omega
        have Hst := Lib.hid (@take_step _ xs ys k hlt hlt2)
        clear hc hc2 ha hb
        by_cases he : xs[k] = ys[k]
        · have he1 : (xs[k] != ys[k]) = false := by simp [he]
          have He := Lib.hid he
          clear he
          go_wp2
          go_quiet (fail)
          go_wp2
          go_roundw
          case rel => exact ⟨k + 1, by omega, by go_num, Hst.out hall.out He.out, _, rfl⟩
          case measure => simp [intOf]; omega
        · have he1 : (xs[k] != ys[k]) = true := by simp [he]
          have He := Lib.hid he
          clear he
          go_wp2
          go_quiet (fail)
          go_wp2
          go_ret
          exact ⟨ret_bool (by have := ne_of_getElem hlt hlt2 He.out; simp [this]), _, World.drewN_drewN _ _ _⟩
      · go_wp2
        go_ret
        exact ⟨ret_bool (by have h1 := hall.out; have : k = xs.length := by omega
                            subst this; have := eq_of_take HL.out h1; simp [this]), _, rfl⟩
  · have hl1 : ((xs.length : Int) != (ys.length : Int)) = true := by simp; omega
    have HL := Lib.hid hl
    clear hl
    go_enter Tryd.func8, Tryd.ntmps8
    go_wp2
    go_ret
    exact ⟨ret_bool (by have : xs ≠ ys := fun e => HL.out (by rw [e]); simp [this]), 0, rfl⟩
end Go.Proofs.YtlmgdofhmgpljaaDoor
/- How the arguments of the laws of chapter 4 read. -/
namespace Go.Proofs.YtlmgdofhmgpljaaDoor
open Go.RowKit Go.Dw

theorem decInts {H : Type} {enc : TypeId × Value → H} {w : World} :
    Dec enc Tryd.prog w 25 (fun l : Slc Int => [l.v]) (fun l => l.xs.length ≤ maxLen ∧ Rd w l.a (l.xs.flatMap fun n => [Value.int .i64 n]) ∧ ∀ n ∈ l.xs, inI64 n) :=
  Dec.slice 1 Tryd.underlying25 (by kernel_rfl) (fun _ => rfl) (by omega) (Dec.int Tryd.underlying3)
theorem decIntsC {H : Type} {enc : TypeId × Value → H} {w : World} :
    Dec enc Tryd.prog w 25 (fun l : Slc Int => [l.v]) (fun l => (l.xs.length ≤ maxLen ∧ Rd w l.a (l.xs.flatMap fun n => [Value.int .i64 n]) ∧ ∀ n ∈ l.xs, inI64 n) ∧ l.xs.length ≤ l.c ∧ l.c ≤ maxLen) :=
  Dec.sliceC 1 Tryd.underlying25 (by kernel_rfl) (fun _ => rfl) (by omega) (Dec.int Tryd.underlying3)
end Go.Proofs.YtlmgdofhmgpljaaDoor
/- How a sound that came in reads. -/
namespace Go.Proofs.YtlmgdofhmgpljaaDoor
open Go.RowKit Go.Dw

theorem decSound {H : Type} {enc : TypeId × Value → H} {w : World} :
    Dec enc Tryd.prog w 24 Snd.cells (fun x => x.Ok w) :=
  (Dec.struct (tot := 2) (fl := [(3, 0, 1), (22, 1, 1)]) Tryd.underlying24 (by kernel_rfl) (by kernel_rfl)
    (DecS.cons (Dec.int Tryd.underlying3) (DecS.cons (tot := 0) (Dec.slice 1 Tryd.underlying22 (by kernel_rfl) (fun _ => rfl) (by omega) decIntsC) DecS.nil))).map
    (fun p => (⟨p.1, p.2.1⟩ : Snd)) (fun _ => rfl) (fun p h => by
      obtain ⟨_, ⟨h2, h3, h4⟩, _⟩ := h
      refine ⟨by simpa [maxLen] using h2, ?_, fun s hs => ?_⟩
      · show Rd w p.2.1.a (p.2.1.xs.map Slc.v)
        have : p.2.1.xs.flatMap (fun l => [l.v]) = p.2.1.xs.map Slc.v := by
          generalize p.2.1.xs = l
          induction l with
          | nil => rfl
          | cons a t ih => rw [List.flatMap_cons, ih]; rfl
        rw [← this]; exact h3
      · obtain ⟨⟨q1, q2, _⟩, q3, _⟩ := h4 s hs
        rw [ic_flat] at q2
        exact ⟨by simpa [maxLen] using q1, q2, q3⟩)
end Go.Proofs.YtlmgdofhmgpljaaDoor
/- The tables out of a row's list. -/
namespace Go.Proofs.YtlmgdofhmgpljaaDoor
open Go.RowKit Go.Dw

theorem laid_tail {P : Program} {w : World} {n : String} {d : DataW Unit} {r : List (String × DataW Unit)} {ps : List MemPlace} (h : DataW.LaidVars P w ((n, d) :: r) ps) : ∃ qs, DataW.LaidVars P w r qs := by
  obtain ⟨_, _, _, _, _, q, _, _, _, _, h, _⟩ := h
  exact ⟨q, h⟩
theorem tab_head {P : Program} {W : World} {name : String} {k : IntKind} {zs : List Int} {rest : List (String × DataW Unit)} {g : Nat} {t e : TypeId} {n : Nat} {ps : List MemPlace}
    (hg : P.globalNamed name = some g) (hty : (P.globals[g]?).map (·.type) = some t) (ht : P.underlying t = some (.array n e)) (he : P.underlying e = some (.int k)) (hce : P.cellsOf e = 1) (hct : P.cellsOf t = n)
    (h : DataW.LaidVars P W ((name, Lib.tabData k zs) :: rest) ps) : Lib.TabIs P W name k zs := by
  obtain ⟨g', t', cs, fuel, p, q, hg', ht', hvar, hd, _, _⟩ := h
  obtain rfl := Option.some.inj (hg.symm.trans hg')
  obtain rfl := Option.some.inj (hty.symm.trans ht')
  unfold Lib.TabIs
  rw [hvar, ← Lib.cells_of_tab ht he hce hct hd]
end Go.Proofs.YtlmgdofhmgpljaaDoor
/- Generated (gen/gal.py): the walk of MatchMarksKeepWithGain. -/
namespace Go.Proofs.YtlmgdofhmgpljaaDoor
open Go.RowKit Go.Dw
attribute [local go_sem ↓] Go.wp_at_zero Go.wp_at_succ
attribute [local go_sem] Go.Dw.Oper.tame

theorem mrkF_len1 {rate : Int} {T : List (List Int)} {part : Int} : (mrkF rate T part).1.length ≤ 500 := by
  unfold mrkF
  split
  · simp
  · split
    · simp
    · simp only [mksN_length]; omega
theorem mrkF_nil {rate : Int} {T : List (List Int)} {part : Int} (h : (mrkF rate T part).2 ≠ 0) : (mrkF rate T part).1 = [] := by
  unfold mrkF at h ⊢
  split
  · rfl
  · rename_i h1
    rw [if_neg h1] at h
    split
    · rfl
    · rename_i h2
      rw [if_neg h2] at h
      exact absurd rfl h
theorem mrkF_chk {rate : Int} {T : List (List Int)} {part : Int} (h : (mrkF rate T part).2 = 0) : chkS rate T = 0 := by
  by_cases h1 : chkS rate T = 0
  · exact h1
  · have e : levF rate T part = ([], chkS rate T) := by unfold levF; rw [if_pos h1]
    rw [mrkF_bad e h1] at h
    exact absurd h h1
def tp (k : Nat) (v : Value) : Value := match v with | .tuple a => a.getD k undef | _ => undef
def GF (W : World) (X : List (List Int)) (rate r : Int) (B : Option Addr) (L c m : Nat) : Prop :=
  ∃ y : Snd, y.rate = r ∧ y.p.a = B ∧ y.p.xs.length = L ∧ y.p.c = c ∧ YOk W y ∧ (m = 0 → ∃ t : Int, 1 ≤ t ∧ t ≤ 50 ∧ y.rate = rate ∧ y.rows = mulT X t ∧ NoClip X t)
theorem GF.gq {w w' : World} {X : List (List Int)} {rate r : Int} {B : Option Addr} {L c m : Nat} (h : GF w X rate r B L c m) (hg : Gq w w') : GF w' X rate r B L c m := by
  obtain ⟨y, h1, h2, h3, h4, h5, h6⟩ := h
  exact ⟨y, h1, h2, h3, h4, h5.gq hg, h6⟩
theorem GF.oth {w : World} {X : List (List Int)} {rate r : Int} {B : Option Addr} {L c m : Nat} (h : GF w X rate r B L c m) {g : Nat} {cs : List Value} (hk : Blk w g 24 cs) (i : Nat) (v : Value) : GF (w.setCell ⟨g, i, none⟩ v) X rate r B L c m := by
  obtain ⟨y, h1, h2, h3, h4, h5, h6⟩ := h
  exact ⟨y, h1, h2, h3, h4, h5.oth hk i v, h6⟩
def galF (w3 : World) (rate : Int) (X : List (List Int)) (SA : Option Addr) (T sc : Nat) (nn : Int) : List Fact := [
  ⟨[], fun _ W => Gq w3 W ∧ True⟩,
  ⟨[0], fun vs _ => vs 0 = .agg #[.int .i64 rate, .slice SA T sc]⟩,
  ⟨[1], fun vs _ => vs 1 = .int .i64 nn⟩,
  ⟨[2], fun vs _ => ∃ t : Nat, 1 ≤ t ∧ t ≤ 50 ∧ vs 2 = .agg #[.string ⟨(Lib.decDigits t).toArray⟩, .string ⟨#[49]⟩]⟩,
  ⟨[3], fun vs W => ∃ (r : Int) (B : Option Addr) (L c m : Nat), vs 3 = .tuple #[.agg #[.int .i64 r, .slice B L c], .int .i64 (m : Int), .int .i64 0] ∧ GF W X rate r B L c m⟩,
  ⟨[3, 4], fun vs _ => vs 4 = vs 3⟩,
  ⟨[3, 5], fun vs _ => vs 5 = tp 0 (vs 3)⟩,
  ⟨[3, 6], fun vs _ => vs 6 = tp 1 (vs 3)⟩,
  ⟨[3, 7], fun vs _ => vs 7 = tp 2 (vs 3)⟩,
  ⟨[8], fun vs W => ∃ g x A L c, vs 8 = .pointer (some ⟨g, 0, none⟩) ∧ w3.heap.size ≤ g ∧ Blk W g 24 [.int .i64 x, .slice A L c]⟩,
  ⟨[3, 8, 9], fun vs W => ∃ (g : Nat) (r : Int) (B : Option Addr) (L c m : Nat), vs 8 = .pointer (some ⟨g, 0, none⟩) ∧ vs 3 = .tuple #[.agg #[.int .i64 r, .slice B L c], .int .i64 (m : Int), .int .i64 0] ∧ w3.heap.size ≤ g ∧ Blk W g 24 [.int .i64 r, .slice B L c] ∧ GF W X rate r B L c m⟩,
  ⟨[3, 10], fun vs _ => vs 10 = tp 1 (vs 3)⟩,
  ⟨[3, 11], fun vs _ => vs 11 = tp 2 (vs 3)⟩]
theorem galK (w3 : World) (rate : Int) (X : List (List Int)) (SA : Option Addr) (T sc : Nat) (nn : Int) : ∀ f ∈ galF w3 rate X SA T sc nn, ∀ vs w w', Gq w w' → f.says vs w → f.says vs w' :=
  fa_cons (fun _ _ _ hg h => ⟨h.1.trans hg, trivial⟩) <|
  fa_cons (fun _ _ _ _ h => h) <|
  fa_cons (fun _ _ _ _ h => h) <|
  fa_cons (fun _ _ _ _ h => h) <|
  fa_cons (fun _ _ _ hg h => (by obtain ⟨r, B, L, c, m, h1, h2⟩ := h; exact ⟨r, B, L, c, m, h1, h2.gq hg⟩)) <|
  fa_cons (fun _ _ _ _ h => h) <|
  fa_cons (fun _ _ _ _ h => h) <|
  fa_cons (fun _ _ _ _ h => h) <|
  fa_cons (fun _ _ _ _ h => h) <|
  fa_cons (fun _ _ _ hg h => (by obtain ⟨g, x, A, L, c, h1, h2, h3⟩ := h; exact ⟨g, x, A, L, c, h1, h2, blk_gqr h3 hg⟩)) <|
  fa_cons (fun _ _ _ hg h => (by obtain ⟨g, r, B, L, c, m, h1, h2, h3, h4, h5⟩ := h; exact ⟨g, r, B, L, c, m, h1, h2, h3, blk_gqr h4 hg, h5.gq hg⟩)) <|
  fa_cons (fun _ _ _ _ h => h) <|
  fa_cons (fun _ _ _ _ h => h) <|
  fa_nil _
set_option maxRecDepth 100000 in
set_option maxHeartbeats 16000000 in
theorem gain_law (x : Snd) (part nn : Int) (w : World) (h : x.Ok w) (_ : inI64 part) (_ : inI64 nn) (hp : HasPow w) :
    Calls Tryd.prog 3 #[.agg x.cells.toArray, .int .i64 part, .int .i64 nn] w fun e w' => e = .returned (.bool true) ∧ Below w.heap.size w w' := by
  obtain ⟨w1, hw1⟩ : ∃ w1, w1 = w.alloc (.cells #[.int .i64 x.rate, x.p.v] 24) := ⟨_, rfl⟩
  have hb1 : Gq w w1 := by rw [hw1]; exact (Gq.refl _).alloc _
  have HB1 := Lib.hid hb1
  have kA : Blk w1 w.heap.size 24 [.int .i64 x.rate, x.p.v] := by rw [hw1]; exact Blk.new w _ _
  have h1 := h.below hb1
  have HPW : Hid (∀ W, Gq w1 W → HasPow W) := fun W hW => (hp.below hb1).below hW
  have HOK : Hid (∀ W, Gq w1 W → x.Ok W) := fun W hW => h1.below hW
  have HM : Hid (Calls Tryd.prog 4 #[x.v, .int .i64 part] w1 (IntsPost w1 (mrkF x.rate x.rows part))) := Marks_any x part w1 h1
  have HLE : Hid ((mrkF x.rate x.rows part).1.length ≤ 500) := mrkF_len1
  have HTM : Hid (∀ W, Gq w1 W → Calls Tryd.prog 7 #[.int .i64 nn] W fun e w' => ∃ t : Nat, 1 ≤ t ∧ t ≤ 50 ∧ e = .returned (.agg #[.string ⟨(Lib.decDigits t).toArray⟩, .string ⟨#[49]⟩]) ∧ Gq W w') := fun W hW => timesT_any nn W (HPW.out W hW)
  have HC0' : Hid (∀ W, Gq w1 W → W.cell? ⟨w.heap.size, 0, none⟩ = some (.int .i64 x.rate)) := fun W hW => (blk_gqr kA hW).cell 0
  have HC1' : Hid (∀ W, Gq w1 W → W.cell? ⟨w.heap.size, 1, none⟩ = some (.slice x.p.a x.p.xs.length x.p.c)) := fun W hW => (blk_gqr kA hW).cell 1
  have HGN0 : Hid (chkS x.rate x.rows = 0 → ∀ t W, Gq w1 W → 1 ≤ t → t ≤ 50 → Calls Tryd.prog 6 #[x.v, .agg #[.string ⟨(Lib.decDigits t).toArray⟩, .string ⟨#[49]⟩]] W fun e W' => ∃ (r : Int) (B : Option Addr) (L c m : Nat), e = .returned (.tuple #[.agg #[.int .i64 r, .slice B L c], .int .i64 (m : Int), .int .i64 0]) ∧ Gq W W' ∧ GF W' x.rows x.rate r B L c m) := fun hz t W hW h1 h2 =>
    (gain_any x t W (HOK.out W hW) hz h1 h2 (HPW.out W hW)).mono fun e W' ⟨y, m, q1, q2, q3, q4⟩ => ⟨y.rate, y.p.a, y.p.xs.length, y.p.c, m, q1, q2, y, rfl, rfl, rfl, rfl, q3, fun hm => ⟨t, by omega, by omega, q4 hm⟩⟩
  have HNL : Hid ((mrkF x.rate x.rows part).2 ≠ 0 → (mrkF x.rate x.rows part).1 = []) := mrkF_nil
  have HCH : Hid ((mrkF x.rate x.rows part).2 = 0 → chkS x.rate x.rows = 0) := mrkF_chk
  clear h h1 hp kA hb1 HOK HPW
  obtain ⟨r, hr⟩ : ∃ r, mrkF x.rate x.rows part = r := ⟨_, rfl⟩
  have HRR := Lib.hid hr
  rw [hr] at HM HLE HNL HCH
  clear hr
  generalize x.rows = X at *
  obtain ⟨rate, ⟨SA, sc, xs⟩⟩ := x
  simp only [Snd.v, Snd.cells, Slc.v] at *
  generalize xs.length = T at *
  have HW1 := Lib.hid hw1
  clear hw1
  obtain ⟨w0, hw0⟩ : ∃ w0, w0 = w := ⟨_, rfl⟩
  subst hw0
  have d0 := HC0'.out w1 (Gq.refl _)
  have d1 := HC1'.out w1 (Gq.refl _)
  go_enter Tryd.func3, Tryd.ntmps3
  go_upto_region 1 with (fail)
  rw [← HW1.out]
  go_wp2_with fail
  refine HM.out.mono ?_
  rintro e w4 ⟨A1, c1, rfl, hr4, hg4⟩
  have HG4 : Hid (Gq w1 w4) := hg4
  have HR4 := Lib.hid hr4
  clear hr4 hg4 d0 d1
  by_cases hf : r.2 = 0
  case neg =>
    have hfd : (r.2 != 0) = true := by simpa using hf
    have hl0 : r.1 = [] := HNL.out hf
    obtain ⟨l, f⟩ := r
    have hl1 : l = [] := hl0
    subst hl1
    simp only at hfd
    clear hl0
    go_wp2_with fail
    refine (awake4 _).mono ?_
    rintro e w7 ⟨rfl, hb7⟩
    have HB7 := Lib.hid (HB1.out.trans (HG4.out.trans hb7))
    clear hb7
    go_wp2_with fail
    go_ret
    exact ⟨rfl, HB7.out⟩
  have HGN' := Lib.hid (HGN0.out (HCH.out hf))
  have HF0 : Hid ((mrkF rate X part).2 = 0) := by rw [HRR.out]; exact hf
  have hfd : (r.2 != 0) = false := by simpa using hf
  obtain ⟨w3, hw3⟩ : ∃ w3, w3 = w4 := ⟨_, rfl⟩
  subst hw3
  have HB3 : Hid (Gq w0 w3) := HB1.out.trans HG4.out
  have HC0 : Hid (∀ W, Gq w3 W → W.cell? ⟨w0.heap.size, 0, none⟩ = some (.int .i64 rate)) := fun W hW => HC0'.out W (HG4.out.trans hW)
  have HC1 : Hid (∀ W, Gq w3 W → W.cell? ⟨w0.heap.size, 1, none⟩ = some (.slice SA T sc)) := fun W hW => HC1'.out W (HG4.out.trans hW)
  have HTM := Lib.hid (fun W (hW : Gq w3 W) => HTM.out W (HG4.out.trans hW))
  have HGN := Lib.hid (fun t W (hW : Gq w3 W) => HGN'.out t W (HG4.out.trans hW))
  have HBD : Hid (Gq w3 w3.drew) := (Gq.refl _).drew
  clear hf HGN' HGN0 HC0' HC1' HM HW1
  go_upto_region 4 with (fail)
  refine wp_region_factsK _ (by kernel_rfl) (by kernel_rfl) [[], [], [1], [0, 1, 2], [0, 1, 2, 3], [0, 1, 2, 3, 4], [0, 1, 2, 3, 4], [0, 1, 2, 3, 4], [], [0, 1, 2, 3, 4, 5, 8], [0, 1, 2, 3, 4, 6], [0, 1, 2, 3, 4, 7]] (by kernel_rfl) [some 27, some 28, some 29, some 30, some 26, some 31, some 32, some 33, some 9, none, some 10, some 8] (by kernel_rfl) (fun vs => by simp only [putA, putL, if_true, Act.put, List.setIfInBounds_toArray, List.set_cons_zero, List.set_cons_succ]; rfl) (galF w3 rate X SA T sc nn) (by kernel_rfl) ?_ ⟨?_, ?_, ?_, ?_, ?_, ?_, ?_, ?_, ?_, ?_, ?_, ?_, trivial⟩ ?_
  · exact fa_zero [0] (by kernel_rfl) <| fa_cons (⟨HBD.out, trivial⟩) <| fa_nil _
  · -- 0: Op.load 24 t3
    intro Ls vs w Kk H hu hK
    replace hu : ∀ k ∈ ([] : List Nat), Ls k = true := hu
    have qbase : Gq w3 w ∧ True := H.up hu 0 rfl rfl
    obtain ⟨h0, -⟩ := qbase
    have d0 := HC0.out w h0
    have d1 := HC1.out w h0
    have hKK := Lib.hid hK
    clear hK H
    go_simp
    refine hKK.out _ _ (fun f _ _ _ h => h) ?_
    exact fa_pick [1] (by kernel_rfl) <| fa_cons (fun _ => rfl) <| fa_nil _
  · -- 1: Op.move t2
    intro Ls vs w Kk H hu hK
    replace hu : ∀ k ∈ ([] : List Nat), Ls k = true := hu
    have qbase : Gq w3 w ∧ True := H.up hu 0 rfl rfl
    obtain ⟨h0, -⟩ := qbase
    have hKK := Lib.hid hK
    clear hK H
    go_simp
    refine hKK.out _ _ (fun f _ _ _ h => h) ?_
    exact fa_pick [2] (by kernel_rfl) <| fa_cons (fun _ => rfl) <| fa_nil _
  · -- 2: Op.call { value (Operand.func 7), args := #[t28], argTypes := #[3] }
    intro Ls vs w Kk H hu hK
    replace hu : ∀ k ∈ ([1] : List Nat), Ls k = true := hu
    have qbase : Gq w3 w ∧ True := H.up hu 0 rfl rfl
    obtain ⟨h0, -⟩ := qbase
    have f1 : vs 1 = .int .i64 nn := H.up hu 2 rfl rfl
    have hKK := Lib.hid hK
    clear hK H
    go_simp
    refine (HTM.out w h0).mono ?_
    rintro e w' ⟨t, h1, h2, rfl, hb⟩
    refine ⟨_, rfl, hKK.out _ _ (fun f hf _ _ h => galK w3 rate X SA T sc nn f hf _ _ _ hb h) ?_⟩
    exact fa_pick [3] (by kernel_rfl) <| fa_cons (fun _ => ⟨t, h1, h2, rfl⟩) <| fa_nil _
  · -- 3: Op.call { value (Operand.func 6), args := #[t27, t29], argTypes := #[24, 33] }
    intro Ls vs w Kk H hu hK
    replace hu : ∀ k ∈ ([0, 1, 2] : List Nat), Ls k = true := hu
    have qbase : Gq w3 w ∧ True := H.up hu 0 rfl rfl
    obtain ⟨h0, -⟩ := qbase
    have f0 : vs 0 = .agg #[.int .i64 rate, .slice SA T sc] := H.up hu 1 rfl rfl
    have qtim : ∃ t : Nat, 1 ≤ t ∧ t ≤ 50 ∧ vs 2 = .agg #[.string ⟨(Lib.decDigits t).toArray⟩, .string ⟨#[49]⟩] := H.up hu 3 rfl rfl
    obtain ⟨t2, g2, l2, e2⟩ := qtim
    have hKK := Lib.hid hK
    clear hK H
    go_simp
    refine (HGN.out t2 w h0 g2 l2).mono ?_
    rintro e w' ⟨r, B, L, c, m, rfl, hb, hv⟩
    refine ⟨_, rfl, hKK.out _ _ (fun f hf _ _ h => galK w3 rate X SA T sc nn f hf _ _ _ hb h) ?_⟩
    exact fa_pick [4, 5, 6, 7, 8, 10, 11, 12] (by kernel_rfl) <| fa_cons (fun _ => ⟨r, B, L, c, m, rfl, hv⟩) <|
        fa_cons (fun hL => absurd (show (3 : Nat) ∈ ([0, 1, 2, 3] : List Nat) from by decide) (hL 4 (show (4 : Nat) ∈ ([3, 4] : List Nat) from by decide) (show (4 : Nat) ≠ 3 from by decide)).2) <|
        fa_cons (fun hL => absurd (show (3 : Nat) ∈ ([0, 1, 2, 3, 4] : List Nat) from by decide) (hL 5 (show (5 : Nat) ∈ ([3, 5] : List Nat) from by decide) (show (5 : Nat) ≠ 3 from by decide)).2) <|
        fa_cons (fun hL => absurd (show (3 : Nat) ∈ ([0, 1, 2, 3, 4] : List Nat) from by decide) (hL 6 (show (6 : Nat) ∈ ([3, 6] : List Nat) from by decide) (show (6 : Nat) ≠ 3 from by decide)).2) <|
        fa_cons (fun hL => absurd (show (3 : Nat) ∈ ([0, 1, 2, 3, 4] : List Nat) from by decide) (hL 7 (show (7 : Nat) ∈ ([3, 7] : List Nat) from by decide) (show (7 : Nat) ≠ 3 from by decide)).2) <|
        fa_cons (fun hL => absurd (show (3 : Nat) ∈ ([0, 1, 2, 3, 4, 5, 8] : List Nat) from by decide) (hL 9 (show (9 : Nat) ∈ ([3, 8, 9] : List Nat) from by decide) (show (9 : Nat) ≠ 3 from by decide)).2) <|
        fa_cons (fun hL => absurd (show (3 : Nat) ∈ ([0, 1, 2, 3, 4, 6] : List Nat) from by decide) (hL 10 (show (10 : Nat) ∈ ([3, 10] : List Nat) from by decide) (show (10 : Nat) ≠ 3 from by decide)).2) <|
        fa_cons (fun hL => absurd (show (3 : Nat) ∈ ([0, 1, 2, 3, 4, 7] : List Nat) from by decide) (hL 11 (show (11 : Nat) ∈ ([3, 11] : List Nat) from by decide) (show (11 : Nat) ≠ 3 from by decide)).2) <| fa_nil _
  · -- 4: Op.move t30
    intro Ls vs w Kk H hu hK
    replace hu : ∀ k ∈ ([0, 1, 2, 3] : List Nat), Ls k = true := hu
    have qbase : Gq w3 w ∧ True := H.up hu 0 rfl rfl
    obtain ⟨h0, -⟩ := qbase
    have qgan : ∃ (r : Int) (B : Option Addr) (L c m : Nat), vs 3 = .tuple #[.agg #[.int .i64 r, .slice B L c], .int .i64 (m : Int), .int .i64 0] ∧ GF w X rate r B L c m := H.up hu 4 rfl rfl
    obtain ⟨r3, B3, L3, c3, m3, e3, v3⟩ := qgan
    have hKK := Lib.hid hK
    clear hK H
    go_simp
    refine hKK.out _ _ (fun f _ _ _ h => h) ?_
    exact fa_pick [5] (by kernel_rfl) <| fa_cons (fun _ => (Eq.symm e3)) <| fa_nil _
  · -- 5: Op.extract t26 0
    intro Ls vs w Kk H hu hK
    replace hu : ∀ k ∈ ([0, 1, 2, 3, 4] : List Nat), Ls k = true := hu
    have qbase : Gq w3 w ∧ True := H.up hu 0 rfl rfl
    obtain ⟨h0, -⟩ := qbase
    have qgan : ∃ (r : Int) (B : Option Addr) (L c m : Nat), vs 3 = .tuple #[.agg #[.int .i64 r, .slice B L c], .int .i64 (m : Int), .int .i64 0] ∧ GF w X rate r B L c m := H.up hu 4 rfl rfl
    obtain ⟨r3, B3, L3, c3, m3, e3, v3⟩ := qgan
    have q4 : vs 4 = vs 3 := H.up hu 5 rfl rfl
    have f4 := q4.trans e3
    clear q4
    have hKK := Lib.hid hK
    clear hK H
    go_simp
    refine hKK.out _ _ (fun f _ _ _ h => h) ?_
    exact fa_pick [6] (by kernel_rfl) <| fa_cons (fun _ => (congrArg (tp 0) e3).symm) <| fa_nil _
  · -- 6: Op.extract t26 1
    intro Ls vs w Kk H hu hK
    replace hu : ∀ k ∈ ([0, 1, 2, 3, 4] : List Nat), Ls k = true := hu
    have qbase : Gq w3 w ∧ True := H.up hu 0 rfl rfl
    obtain ⟨h0, -⟩ := qbase
    have qgan : ∃ (r : Int) (B : Option Addr) (L c m : Nat), vs 3 = .tuple #[.agg #[.int .i64 r, .slice B L c], .int .i64 (m : Int), .int .i64 0] ∧ GF w X rate r B L c m := H.up hu 4 rfl rfl
    obtain ⟨r3, B3, L3, c3, m3, e3, v3⟩ := qgan
    have q4 : vs 4 = vs 3 := H.up hu 5 rfl rfl
    have f4 := q4.trans e3
    clear q4
    have hKK := Lib.hid hK
    clear hK H
    go_simp
    refine hKK.out _ _ (fun f _ _ _ h => h) ?_
    exact fa_pick [7] (by kernel_rfl) <| fa_cons (fun _ => (congrArg (tp 1) e3).symm) <| fa_nil _
  · -- 7: Op.extract t26 2
    intro Ls vs w Kk H hu hK
    replace hu : ∀ k ∈ ([0, 1, 2, 3, 4] : List Nat), Ls k = true := hu
    have qbase : Gq w3 w ∧ True := H.up hu 0 rfl rfl
    obtain ⟨h0, -⟩ := qbase
    have qgan : ∃ (r : Int) (B : Option Addr) (L c m : Nat), vs 3 = .tuple #[.agg #[.int .i64 r, .slice B L c], .int .i64 (m : Int), .int .i64 0] ∧ GF w X rate r B L c m := H.up hu 4 rfl rfl
    obtain ⟨r3, B3, L3, c3, m3, e3, v3⟩ := qgan
    have q4 : vs 4 = vs 3 := H.up hu 5 rfl rfl
    have f4 := q4.trans e3
    clear q4
    have hKK := Lib.hid hK
    clear hK H
    go_simp
    refine hKK.out _ _ (fun f _ _ _ h => h) ?_
    exact fa_pick [8] (by kernel_rfl) <| fa_cons (fun _ => (congrArg (tp 2) e3).symm) <| fa_nil _
  · -- 8: Op.alloc 24
    intro Ls vs w Kk H hu hK
    replace hu : ∀ k ∈ ([] : List Nat), Ls k = true := hu
    have qbase : Gq w3 w ∧ True := H.up hu 0 rfl rfl
    obtain ⟨h0, -⟩ := qbase
    have hKK := Lib.hid hK
    clear hK H
    go_simp
    refine hKK.out _ _ (fun f hf _ _ h => galK w3 rate X SA T sc nn f hf _ _ _ (Gq.alloc (Gq.refl _) _) h) ?_
    exact fa_pick [9, 10] (by kernel_rfl) <| fa_cons (fun _ => ⟨_, 0, none, 0, 0, rfl, Below.size h0, Blk.new _ _ _⟩) <|
        fa_cons (fun hL => absurd (show (8 : Nat) ∈ ([0, 1, 2, 3, 4, 5, 8] : List Nat) from by decide) (hL 9 (show (9 : Nat) ∈ ([3, 8, 9] : List Nat) from by decide) (show (9 : Nat) ≠ 8 from by decide)).2) <| fa_nil _
  · -- 9: Op.store 24 t9 t31
    intro Ls vs w Kk H hu hK
    replace hu : ∀ k ∈ ([0, 1, 2, 3, 4, 5, 8] : List Nat), Ls k = true := hu
    have qbase : Gq w3 w ∧ True := H.up hu 0 rfl rfl
    obtain ⟨h0, -⟩ := qbase
    have qgan : ∃ (r : Int) (B : Option Addr) (L c m : Nat), vs 3 = .tuple #[.agg #[.int .i64 r, .slice B L c], .int .i64 (m : Int), .int .i64 0] ∧ GF w X rate r B L c m := H.up hu 4 rfl rfl
    obtain ⟨r3, B3, L3, c3, m3, e3, v3⟩ := qgan
    have q5 : vs 5 = tp 0 (vs 3) := H.up hu 6 rfl rfl
    have qbx : ∃ g x A L c, vs 8 = .pointer (some ⟨g, 0, none⟩) ∧ w3.heap.size ≤ g ∧ Blk w g 24 [.int .i64 x, .slice A L c] := H.up hu 9 rfl rfl
    obtain ⟨g8, x8, A8, L8, c8, e8, l8, b8⟩ := qbx
    have f5 : vs 5 = .agg #[.int .i64 r3, .slice B3 L3 c3] := q5.trans (congrArg (tp 0) e3)
    clear q5
    have d0 := b8.cell 0
    have d1 := b8.cell 1
    simp only [List.getElem?_cons_zero, List.getElem?_cons_succ] at d0 d1
    have k0 := b8.frozen 0
    have k1 := b8.frozen 1
    have hKK := Lib.hid hK
    clear hK H
    go_simp
    refine hKK.out _ _ (fa_cons (fun _ _ h => ⟨(h.1.set (p := ⟨g8, 0, none⟩) l8 _).set (p := ⟨g8, 1, none⟩) l8 _, trivial⟩) <|
      fa_cons (fun _ _ h => h) <|
      fa_cons (fun _ _ h => h) <|
      fa_cons (fun _ _ h => h) <|
      fa_cons (fun _ _ h => (by obtain ⟨r, B, L, c, m, h1, h2⟩ := h; exact ⟨r, B, L, c, m, h1, (h2.oth b8 0 _).oth (b8.set_ 0 _) 1 _⟩)) <|
      fa_cons (fun _ _ h => h) <|
      fa_cons (fun _ _ h => h) <|
      fa_cons (fun _ _ h => h) <|
      fa_cons (fun _ _ h => h) <|
      fa_cons (fun _ _ h => (by obtain ⟨g, x, A, L, c, h1, h2, h3⟩ := h; have e4 := (Eq.symm e8).trans h1; injection e4 with e4; injection e4 with e4; injection e4 with e4; subst e4; exact ⟨g8, r3, B3, L3, c3, h1, l8, (b8.set_ 0 _).set_ 1 _⟩)) <|
      fa_cons (fun hn => absurd (show (9 : Nat) ∈ ([3, 8, 9] : List Nat) from by decide) hn) <|
      fa_cons (fun _ _ h => h) <|
      fa_cons (fun _ _ h => h) <| fa_nil _) ?_
    exact fa_pick [10] (by kernel_rfl) <| fa_cons (fun _ => ⟨g8, r3, B3, L3, c3, m3, e8, e3, l8, (b8.set_ 0 _).set_ 1 _, (v3.oth b8 0 _).oth (b8.set_ 0 _) 1 _⟩) <| fa_nil _
  · -- 10: Op.assign t32
    intro Ls vs w Kk H hu hK
    replace hu : ∀ k ∈ ([0, 1, 2, 3, 4, 6] : List Nat), Ls k = true := hu
    have qbase : Gq w3 w ∧ True := H.up hu 0 rfl rfl
    obtain ⟨h0, -⟩ := qbase
    have qgan : ∃ (r : Int) (B : Option Addr) (L c m : Nat), vs 3 = .tuple #[.agg #[.int .i64 r, .slice B L c], .int .i64 (m : Int), .int .i64 0] ∧ GF w X rate r B L c m := H.up hu 4 rfl rfl
    obtain ⟨r3, B3, L3, c3, m3, e3, v3⟩ := qgan
    have q6 : vs 6 = tp 1 (vs 3) := H.up hu 7 rfl rfl
    have f6 := q6.trans (congrArg (tp 1) e3)
    clear q6
    replace f6 : vs 6 = .int .i64 (m3 : Int) := f6
    have hKK := Lib.hid hK
    clear hK H
    go_simp
    refine hKK.out _ _ (fun f _ _ _ h => h) ?_
    exact fa_pick [11] (by kernel_rfl) <| fa_cons (fun _ => (congrArg (tp 1) e3).symm) <| fa_nil _
  · -- 11: Op.assign t33
    intro Ls vs w Kk H hu hK
    replace hu : ∀ k ∈ ([0, 1, 2, 3, 4, 7] : List Nat), Ls k = true := hu
    have qbase : Gq w3 w ∧ True := H.up hu 0 rfl rfl
    obtain ⟨h0, -⟩ := qbase
    have qgan : ∃ (r : Int) (B : Option Addr) (L c m : Nat), vs 3 = .tuple #[.agg #[.int .i64 r, .slice B L c], .int .i64 (m : Int), .int .i64 0] ∧ GF w X rate r B L c m := H.up hu 4 rfl rfl
    obtain ⟨r3, B3, L3, c3, m3, e3, v3⟩ := qgan
    have q7 : vs 7 = tp 2 (vs 3) := H.up hu 8 rfl rfl
    have f7 := q7.trans (congrArg (tp 2) e3)
    clear q7
    replace f7 : vs 7 = .int .i64 0 := f7
    have hKK := Lib.hid hK
    clear hK H
    go_simp
    refine hKK.out _ _ (fun f _ _ _ h => h) ?_
    exact fa_pick [12] (by kernel_rfl) <| fa_cons (fun _ => (congrArg (tp 2) e3).symm) <| fa_nil _
  · intro vs w H
    have qbase : Gq w3 w ∧ True := fa_at H 0 rfl
    obtain ⟨h0, -⟩ := qbase
    have f0 : vs 0 = .agg #[.int .i64 rate, .slice SA T sc] := fa_at H 1 rfl
    have f1 : vs 1 = .int .i64 nn := fa_at H 2 rfl
    have q4 : vs 4 = vs 3 := fa_at H 5 rfl
    have q5 : vs 5 = tp 0 (vs 3) := fa_at H 6 rfl
    have q6 : vs 6 = tp 1 (vs 3) := fa_at H 7 rfl
    have q7 : vs 7 = tp 2 (vs 3) := fa_at H 8 rfl
    have qsto : ∃ (g : Nat) (r : Int) (B : Option Addr) (L c m : Nat), vs 8 = .pointer (some ⟨g, 0, none⟩) ∧ vs 3 = .tuple #[.agg #[.int .i64 r, .slice B L c], .int .i64 (m : Int), .int .i64 0] ∧ w3.heap.size ≤ g ∧ Blk w g 24 [.int .i64 r, .slice B L c] ∧ GF w X rate r B L c m := fa_at H 10 rfl
    obtain ⟨g9, r9, B9, L9, c9, m9, e9, q9, l9, k9, v9⟩ := qsto
    have q10 : vs 10 = tp 1 (vs 3) := fa_at H 11 rfl
    have q11 : vs 11 = tp 2 (vs 3) := fa_at H 12 rfl
    clear H
    simp only [Nat.zero_add, Nat.reduceAdd]
    have HV9 := Lib.hid v9
    have HG9 : Hid (Gq w3 w) := h0
    have f4 := q4.trans q9
    have f5 : vs 5 = .agg #[.int .i64 r9, .slice B9 L9 c9] := q5.trans (congrArg (tp 0) q9)
    have f6 : vs 6 = .int .i64 (m9 : Int) := q6.trans (congrArg (tp 1) q9)
    have f7 : vs 7 = .int .i64 0 := q7.trans (congrArg (tp 2) q9)
    have f10 : vs 10 = .int .i64 (m9 : Int) := q10.trans (congrArg (tp 1) q9)
    have f11 : vs 11 = .int .i64 0 := q11.trans (congrArg (tp 2) q9)
    have d0 : w.cell? ⟨g9, 0, none⟩ = _ := k9.cell 0
    have d1 : w.cell? ⟨g9, 1, none⟩ = _ := k9.cell 1
    simp only [List.getElem?_cons_zero, List.getElem?_cons_succ] at d0 d1
    clear q4 q5 q6 q7 q10 q11 v9 k9 h0
    simp only [f0, f1, q9, f4, f5, f6, f7, e9, f10, f11]
    clear f0 f1 q9 f4 f5 f6 f7 e9 f10 f11
    generalize vs 2 = z2
    generalize vs 9 = z9
    by_cases hm : m9 = 0
    case neg =>
      have hmd : decide (0 < m9) = true := by simpa using Nat.pos_of_ne_zero hm
      go_wp2_with fail
      refine (awake4 _).mono ?_
      rintro e w7 ⟨rfl, hb7⟩
      have HB7 := Lib.hid (HB3.out.trans (HG9.out.trans hb7))
      clear hb7 d0 d1
      go_wp2_with fail
      go_ret
      exact ⟨rfl, HB7.out⟩
    have HMK : Hid (Calls Tryd.prog 4 #[.agg #[.int .i64 r9, .slice B9 L9 c9], .int .i64 part] w (IntsPost w r)) := by
      obtain ⟨y, e1, e2, e3, e4, hy, hyp⟩ := HV9.out
      obtain ⟨t, ht1, ht2, hy1, hy2, hy3⟩ := hyp hm
      have HMK := Marks_any y part w hy.ok
      rw [show mrkF y.rate y.rows part = r by rw [hy1, hy2, mrkF_mul (by omega) HF0.out hy3]; exact HRR.out] at HMK
      simp only [Snd.v, Slc.v] at HMK
      rw [e1, e2, e3, e4] at HMK
      exact HMK
    subst hm
    have hmd : decide ((0 : Nat) < 0) = false := by decide
    have HRE := Lib.hid (HR4.out.below HG9.out)
    clear HV9 HR4
    go_wp2_with fail
    refine HMK.out.mono ?_
    rintro e w7 ⟨A7, c7, rfl, hr7, hb7⟩
    have HE := Lib.hid (equal_any A1 A7 c1 c7 r.1 r.1 w7 (HRE.out.below hb7) hr7 (by have := HLE.out; omega))
    rw [decide_eq_true rfl] at HE
    have HB7 := Lib.hid (HB3.out.trans (HG9.out.trans hb7))
    clear hr7 hb7 d0 d1
    have hr2 := HF0.out
    rw [HRR.out] at hr2
    obtain ⟨l, f⟩ := r
    have hf0 : f = 0 := hr2
    subst hf0
    simp only at HE
    go_wp2_with fail
    refine HE.out.mono ?_
    rintro e w8 ⟨rfl, nq, hw8⟩
    have hb8 := below_drewN HB7.out nq
    rw [← hw8] at hb8
    have HB8 : Hid (Gq w w8 ∨ True) := .inr trivial
    have HB8 := Lib.hid hb8
    clear hw8 hb8
    go_wp2_with fail
    refine (awake4 _).mono ?_
    rintro e w9 ⟨rfl, hb9⟩
    have HB9 := Lib.hid (Gq.trans HB8.out hb9)
    clear hb9
    go_wp2_with fail
    go_ret
    exact ⟨rfl, HB9.out⟩
end Go.Proofs.YtlmgdofhmgpljaaDoor
