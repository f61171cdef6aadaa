/- Several texts laid into one: An element is taken out of a row of the call's own, in place; edit.shift: clips of the call's own are moved in place and put in order; clear(s) on a slice of one element of several cells; slices.Delete at clips, one element; slices.Equal at []api.Point whatever both are, and edit.equal; slices.IndexFunc at clips with step's own predicate: the first that is equal; The contract of edit.step; The contract of edit.Apply; -/
import Derived.Test.YteaghgbpcpileaaGreatDoorApdZ
import Derived.Deep.Upon
import Derived.Test.YteaghgbpcpileaaGreatDoorStpZ
import Derived.Test.YteaghgbpcpileaaGreatDoorBase
import Derived.Lib.SliceRun
import Derived.Deep.RegionLaw
import Derived.Test.YteaghgbpcpileaaGreatDoorSmcZ
import Derived.Test.YteaghgbpcpileaaGreatDoorOrdZ
import Derived.Test.YteaghgbpcpileaaGreatDoorStwZ
import Derived.Test.YteaghgbpcpileaaGreatDoorCliZ
import Derived.Test.YteaghgbpcpileaaGreatDoorMisZ
/- An element is taken out of a row of the call's own, in place. -/
namespace Go.Dw
open Go.RowKit

theorem blk_setCells {g : Nat} {t : TypeId} : ∀ (vs : List Value) (o : Nat) (w : World) (cs : List Value), Blk w g t cs → o + vs.length ≤ cs.length → Blk (w.setCells g o vs) g t (cs.take o ++ vs ++ cs.drop (o + vs.length))
  | [], o, w, cs, h, _ => by simpa [World.setCells] using h
  | v :: vs, o, w, cs, h, hl => by
    simp only [List.length_cons] at hl
    have h1 := blk_setCells vs (o + 1) (w.setCell ⟨g, o, none⟩ v) (cs.set o v) (h.set_ o v) (by rw [List.length_set]; omega)
    have e : (cs.set o v).take (o + 1) ++ vs ++ (cs.set o v).drop (o + 1 + vs.length) = cs.take o ++ v :: vs ++ cs.drop (o + (v :: vs).length) := by
      rw [List.drop_set_of_lt (by omega), List.length_cons, show o + 1 + vs.length = o + (vs.length + 1) by omega]
      have : (cs.set o v).take (o + 1) = cs.take o ++ [v] := by
        rw [List.take_add_one, List.take_set_of_le (Nat.le_refl o)]
        simp [List.getElem?_set_self (show o < cs.length by omega)]
      rw [this]; simp
    rw [e] at h1
    exact h1
theorem own_delete {w : World} {B g n c size k : Nat} {e : TypeId} {xs : List Value} (h : w.ownsRow B e size (.slice (some ⟨g, 0, none⟩) n c) n xs) (hk : k < n) (zs : List Value) (hz : zs.length = size) :
    ((w.drew.setCells g (k * size) (xs.drop ((k + 1) * size))).setCells g ((n - 1) * size) zs).ownsRow B e size (.slice (some ⟨g, 0, none⟩) (n - 1) c) (n - 1) (xs.take (k * size) ++ xs.drop ((k + 1) * size)) := by
  obtain ⟨h1, h2 | ⟨g', cap, cur, hv, hb, hg, hn, hm, hs, ht⟩⟩ := h
  · cases h2.1
  · injection hv with e1 e2 e3
    injection e1 with e1; injection e1 with e1
    subst e1; subst e3
    have hB : Blk w.drew g e cur.toList := by show w.heap[g]? = _; rw [hg]
    obtain ⟨m, rfl⟩ : ∃ m, n = k + 1 + m := ⟨n - (k + 1), by omega⟩
    have e1 : (k + 1 + m) * size = (k + 1) * size + m * size := Nat.add_mul _ _ _
    have e2 : (k + 1) * size = k * size + size := by rw [Nat.add_mul, Nat.one_mul]
    have e3 : (k + 1 + m - 1) * size = k * size + m * size := by rw [show k + 1 + m - 1 = k + m by omega, Nat.add_mul]
    have hcl : cur.toList.length = c * size := by rw [Array.length_toList]; exact hs
    have hcn : (k + 1 + m) * size ≤ c * size := Nat.mul_le_mul_right _ hn
    have hdl : (xs.drop ((k + 1) * size)).length = m * size := by rw [List.length_drop, h1]; omega
    have B1 := blk_setCells (xs.drop ((k + 1) * size)) (k * size) w.drew cur.toList hB (by rw [hdl]; omega)
    obtain ⟨c1, hc1⟩ : ∃ c1, cur.toList.take (k * size) ++ xs.drop ((k + 1) * size) ++ cur.toList.drop (k * size + (xs.drop ((k + 1) * size)).length) = c1 := ⟨_, rfl⟩
    rw [hc1] at B1
    have hc1l : c1.length = c * size := by
      rw [← hc1, List.length_append, List.length_append, hdl, List.length_take, List.length_drop, hcl]; omega
    have B2 := blk_setCells zs ((k + 1 + m - 1) * size) _ c1 B1 (by rw [hz, e3]; omega)
    have hx : xs.take (k * size) = cur.toList.take (k * size) := by rw [← ht, List.take_take, Nat.min_eq_left (by omega)]
    refine ⟨?_, .inr ⟨g, c, _, rfl, hb, B2, by omega, hm, ?_, ?_⟩⟩
    · rw [List.length_append, hdl, List.length_take, h1, e3]; omega
    · rw [List.size_toArray, List.length_append, List.length_append, List.length_take, List.length_drop, hc1l, hz, e3]; omega
    · rw [List.append_assoc, List.take_append_of_le_length (by rw [List.length_take, hc1l, e3]; omega), List.take_take, Nat.min_self, hx, ← hc1, List.take_append_of_le_length (by rw [List.length_append, List.length_take, hcl, hdl, e3]; omega)]
      rw [List.take_of_length_le (by rw [List.length_append, List.length_take, hcl, hdl, e3]; omega)]
theorem setCells_size (w : World) (g o : Nat) (vs : List Value) : (w.setCells g o vs).heap.size = w.heap.size := size_setCells' g vs o w
where size_setCells' (b : Nat) : ∀ (vs : List Value) (o : Nat) (w : World), (w.setCells b o vs).heap.size = w.heap.size
  | [], _, _ => rfl
  | v :: vs, o, w => (size_setCells' b vs (o + 1) _).trans (by simp [World.setCell])
theorem below_setC {B g : Nat} {w0 w : World} (hg : B ≤ g) : ∀ (vs : List Value) (o : Nat) (w : World), Below B w0 w → Below B w0 (w.setCells g o vs)
  | [], _, _, h => h
  | v :: vs, o, _, h => below_setC (w := w) hg vs (o + 1) _ (h.setCell (p := ⟨g, o, none⟩) hg v)
theorem kp_setC {T T' : TypeId} {w : World} {g o : Nat} {cur : Array Value} {fr : Nat × Nat} (hg : w.heap[g]? = some (.cells cur T' fr)) (hne : T' ≠ T) (vs : List Value) : KpT T w (w.setCells g o vs) :=
  ⟨by rw [setCells_size]; exact Nat.le_refl _, fun i cs fr' hi => World.heap_setCells_other w g o vs (Array.getElem?_eq_some_iff.1 hi).1 (fun e => by
    subst e; rw [hg] at hi; injection hi with hi; injection hi with _ hi; exact hne hi)⟩
end Go.Dw
/- edit.shift: clips of the call's own are moved in place and put in order. -/
namespace Go.Proofs.YteaghgbpcpileaaGreatDoor
open Go.RowKit Go.Dw

def shM (a b : Int) (c : CliM) : CliM := if a ≤ c.at_ then ⟨c.m, c.ch, c.fr, c.tr, c.at_ + b, c.ln, c.e⟩ else c
theorem shM_x (a b : Int) (c : CliM) : (shM a b c).x = shfC a b c.x := by
  unfold shM shfC
  by_cases h : a ≤ c.at_
  · rw [if_pos h, if_pos (show a ≤ c.x.at_ from h)]; rfl
  · rw [if_neg h, if_neg (show ¬ a ≤ c.x.at_ from h)]
theorem cliT_sh {w : World} {c : CliM} (h : CliT w c) {a b : Int} (hi : a ≤ c.at_ → inI64 (c.at_ + b)) : CliT w (shM a b c) := by
  unfold shM
  split
  · rename_i h1; exact ⟨⟨h.1.m, h.1.ch, h.1.fr, h.1.tr, hi h1, h.1.ln, h.1.el, h.1.er, h.1.eo⟩, h.2⟩
  · exact h
theorem flat_setAt (z : Int) : ∀ (M : List CliM) (k : Nat) (hk : k < M.length), (M.flatMap CliM.cs).set (k * 7 + 4) (.int .i64 z) = (M.set k ⟨M[k].m, M[k].ch, M[k].fr, M[k].tr, z, M[k].ln, M[k].e⟩).flatMap CliM.cs
  | x :: M, 0, _ => by
    rw [List.flatMap_cons, List.set_cons_zero, List.flatMap_cons, List.set_append_left _ _ (by show 0 * 7 + 4 < 7; omega)]; rfl
  | x :: M, k + 1, hk => by
    simp only [List.length_cons] at hk
    rw [List.flatMap_cons, List.set_cons_succ, List.flatMap_cons, List.set_append_right _ _ (by show 7 ≤ _; omega), show (k + 1) * 7 + 4 - x.cs.length = k * 7 + 4 by show (k + 1) * 7 + 4 - 7 = _; omega, flat_setAt z M k (by omega)]
    rfl
theorem own_cell {w : World} {B g n c size : Nat} {e : TypeId} {xs : List Value} (h : w.ownsRow B e size (.slice (some ⟨g, 0, none⟩) n c) n xs) (j : Nat) (u : Value) : (w.setCell ⟨g, j, none⟩ u).ownsRow B e size (.slice (some ⟨g, 0, none⟩) n c) n (xs.set j u) := by
  obtain ⟨h1, h2 | ⟨g', cap, cur, hv, hb, hg, hn, hm, hs, ht⟩⟩ := h
  · cases h2.1
  · injection hv with e1 e2 e3
    injection e1 with e1; injection e1 with e1
    subst e1; subst e3
    have hB : Blk w g e cur.toList := by show w.heap[g]? = _; rw [hg]
    have hB1 := hB.set_ j u
    refine ⟨by rw [List.length_set]; exact h1, .inr ⟨g, c, _, rfl, hb, hB1, hn, hm, ?_, ?_⟩⟩
    · rw [List.size_toArray, List.length_set, Array.length_toList]; exact hs
    · rw [List.take_set, ht]
theorem own_frozen {w : World} {B g n c size : Nat} {e : TypeId} {xs : List Value} (h : w.ownsRow B e size (.slice (some ⟨g, 0, none⟩) n c) n xs) (j : Nat) : w.frozen? ⟨g, j, none⟩ = false ∧ B ≤ g ∧ ∃ cs fr, w.heap[g]? = some (.cells cs e fr) := by
  obtain ⟨h1, h2 | ⟨g', cap, cur, hv, hb, hg, hn, hm, hs, ht⟩⟩ := h
  · cases h2.1
  · injection hv with e1 e2 e3
    injection e1 with e1; injection e1 with e1
    subst e1
    have hB : Blk w g e cur.toList := by show w.heap[g]? = _; rw [hg]
    exact ⟨hB.frozen j, hb, _, _, hg⟩
set_option maxRecDepth 100000 in
set_option maxHeartbeats 4000000 in
theorem shift_any (B : Nat) (A : Option Addr) (n c : Nat) (L : List CliM) (a b : Int) (w : World) (hown : w.ownsRow B 39 7 (.slice A n c) n (L.flatMap CliM.cs)) (hl : L.length = n) (hn : n < 1000000000) (hb : ∀ y ∈ L, a ≤ y.at_ → inI64 (y.at_ + b)) :
    Calls Tryz.prog 40 #[.slice A n c, .int .i64 a, .int .i64 b] w fun e w' => e = .returned (.slice A n c) ∧ OrdR w B B A n c (L.map (shM a b)) w' := by
  have HOW := Lib.hid hown
  have HBD := Lib.hid hb
  clear hown hb
  go_enter Tryz.func40, Tryz.ntmps40
  go_wp2_with fail
  go_loopw [10] (fun i wr => ∃ k : Nat, k ≤ n ∧ i = .int .i64 (k : Int) ∧ Hid (wr.ownsRow B 39 7 (.slice A n c) n (((L.take k).map (shM a b) ++ L.drop k).flatMap CliM.cs)) ∧ Hid (∀ T, T ≠ 39 → KpT T w wr) ∧ Hid (Below B w wr)) (fun i _ => n - (intOf i).toNat)
  case atStart => exact ⟨0, Nat.zero_le _, rfl, Lib.hid (by simpa using HOW.out), fun _ _ => KpT.refl _ _, Below.refl _ _⟩
  case round =>
    obtain ⟨k, hk, rfl, HO, HK, HB⟩ := hrel
    by_cases hlt : k < n
    case neg =>
      have hd : decide (k < n) = false := by simpa using hlt
      have HO2 : Hid (wr.ownsRow B 39 7 (.slice A n c) n ((L.map (shM a b)).flatMap CliM.cs)) := by
        have := HO.out
        rwa [List.take_of_length_le (by omega), List.drop_eq_nil_of_le (by omega), List.append_nil] at this
      have HORD := Lib.hid (ordered_any B B A n c (L.map (shM a b)) wr (Nat.le_refl _) HO2.out (by rw [List.length_map]; exact hl) hn)
      clear hl hn hlt
      go_wp2_with fail
      refine HORD.out.mono ?_
      rintro e w2 ⟨rfl, ho, hkp, hbl⟩
      have HR : Hid (OrdR w B B A n c (L.map (shM a b)) w2) := ⟨ho, fun T hT => (HK.out T hT).trans (hkp T hT), HB.out.trans hbl⟩
      clear ho hkp hbl
      go_wp2_with fail
      go_ret
      exact ⟨rfl, HR.out⟩
    have hd : decide (k < n) = true := by simpa using hlt
    have hkl : k < L.length := by omega
    obtain ⟨M, hM⟩ : ∃ M, (L.take k).map (shM a b) ++ L.drop k = M := ⟨_, rfl⟩
    have hMl : M.length = n := by rw [← hM, List.length_append, List.length_map, List.length_take, List.length_drop]; omega
    have hMk : M[k]'(by omega) = L[k] := by
      simp only [← hM]
      rw [List.getElem_append_right (by simp; omega)]
      simp [List.length_take, Nat.min_eq_left (Nat.le_of_lt hkl)]
    rw [hM] at HO
    have HR2 := Lib.hid (Rd.of_own HO.out)
    obtain ⟨g, off, hA, hbb, hc⟩ := cli_at HR2.out (by omega)
    obtain ⟨g2, q2, hA2⟩ := slice_of_own HO.out
    obtain ⟨d0, d1, d2, d3, d4, d5, d6⟩ := hc k (by omega)
    have hoff : A = some ⟨g, 0, none⟩ ∧ off = 0 := by
      rcases HO.out.2 with h | ⟨g', cap, cur, hv, _⟩
      · omega
      · injection hv with e1 _ _
        rw [e1] at hA; injection hA with hA; injection hA with h1 h2
        exact ⟨by rw [e1, h1], h2.symm⟩
    obtain ⟨rfl, rfl⟩ := hoff
    clear hA hA2 hc
    obtain ⟨hfz, hBg, hblk⟩ := own_frozen HO.out (k * 7 + 4)
    have HNX : Hid ((L.take (k + 1)).map (shM a b) ++ L.drop (k + 1) = (L.take k).map (shM a b) ++ shM a b L[k] :: L.drop (k + 1)) := by
      show _ = _
      rw [List.take_succ_eq_append_getElem hkl, List.map_append, List.append_assoc]; rfl
    have HMM : Hid (M = (L.take k).map (shM a b) ++ L[k] :: L.drop (k + 1)) := by
      show _ = _
      rw [← hM, List.drop_eq_getElem_cons hkl]
    have hPl : ((L.take k).map (shM a b)).length = k := by rw [List.length_map, List.length_take]; omega
    have HSET : Hid (∀ y, M.set k y = (L.take k).map (shM a b) ++ y :: L.drop (k + 1)) := fun y => by
      rw [HMM.out, List.set_append_right _ _ (by omega), hPl, Nat.sub_self, List.set_cons_zero]
    rw [hMk, Nat.zero_add] at d4
    have hin := HBD.out L[k] (List.getElem_mem hkl)
    have HFL := Lib.hid (fun z => flat_setAt z M k (by omega))
    rw [hMk] at HFL
    by_cases hle : a ≤ L[k].at_
    case neg =>
      have e4 : decide (a ≤ L[k].at_) = false := decide_eq_false hle
      have HO2 : Hid (wr.ownsRow B 39 7 (.slice (some ⟨g, 0, none⟩) n c) n (((L.take (k + 1)).map (shM a b) ++ L.drop (k + 1)).flatMap CliM.cs)) := by
        have := HO.out
        rw [HNX.out, show shM a b L[k] = L[k] from by unfold shM; rw [if_neg hle], ← HMM.out]; exact this
      clear hM hMl hMk HNX HMM hPl HSET hin HFL hle d0 d1 d2 d3 d5 d6
      generalize L[k].at_ = za at *
      go_wp2_with fail
      go_roundw
      case rel => exact ⟨k + 1, by omega, by go_num, HO2.out, HK.out, HB.out⟩
      case measure => simp [intOf]; omega
    have e4 : decide (a ≤ L[k].at_) = true := decide_eq_true hle
    obtain ⟨z, hz⟩ : ∃ z, L[k].at_ + b = z := ⟨_, rfl⟩
    have W1 : IntKind.i64.wrap (L[k].at_ + b) = z := by rw [hz]; have := hin hle; rw [hz] at this; unfold inI64 at this; exact IntWalk.i64_in _ (by omega)
    have HO2 : Hid ((wr.setCell ⟨g, k * 7 + 4, none⟩ (.int .i64 z)).ownsRow B 39 7 (.slice (some ⟨g, 0, none⟩) n c) n (((L.take (k + 1)).map (shM a b) ++ L.drop (k + 1)).flatMap CliM.cs)) := by
      have h1 := own_cell HO.out (k * 7 + 4) (.int .i64 z)
      rw [HFL.out z, HSET.out] at h1
      rw [HNX.out, show shM a b L[k] = ⟨L[k].m, L[k].ch, L[k].fr, L[k].tr, z, L[k].ln, L[k].e⟩ from by unfold shM; rw [if_pos hle, hz]]
      exact h1
    have HK2 : Hid (∀ T, T ≠ 39 → KpT T w (wr.setCell ⟨g, k * 7 + 4, none⟩ (.int .i64 z))) := fun T hT => (HK.out T hT).setCell hblk (fun e => hT e.symm)
    have HB2 : Hid (Below B w (wr.setCell ⟨g, k * 7 + 4, none⟩ (.int .i64 z))) := HB.out.setCell (p := ⟨g, _, none⟩) hBg _
    obtain ⟨W2, hW2⟩ : ∃ W2, W2 = wr.setCell ⟨g, k * 7 + 4, none⟩ (.int .i64 z) := ⟨_, rfl⟩
    rw [← hW2] at HO2 HK2 HB2
    have HW2 := Lib.hid hW2
    clear hM hMl hMk HNX HMM hPl HSET hin HFL hle hz hW2 d0 d1 d2 d3 d5 d6 hblk hBg
    generalize L[k].at_ = za at *
    go_wp2_with fail
    rw [← HW2.out]
    go_wp2_with fail
    go_roundw
    case rel => exact ⟨k + 1, by omega, by go_num, HO2.out, HK2.out, HB2.out⟩
    case measure => simp [intOf]; omega
end Go.Proofs.YteaghgbpcpileaaGreatDoor
/- clear(s) on a slice of one element of several cells. -/
namespace Go.Dw

theorem run_clear_one {P : Program} (w : World) (t e ty : TypeId) (z : Value) (ht : P.underlying t = some (.slice e)) (hv : (zeroValue e).run P w = .ok z w) (zs : List Value) (hz : z.cells = zs.toArray) (h1 : ∀ v ∈ zs, v.oneCell' = true) (b o c : Nat)
    (hc : ∀ j, j < zs.length → (w.cell? ⟨b, o + j, none⟩).isSome = true) (hf : ∀ j, j < zs.length → w.frozen? ⟨b, o + j, none⟩ = false) :
    (Builtin.clear_ #[t] ty #[.slice (some ⟨b, o, none⟩) 1 c]).run P w = .ok (.tuple #[]) (w.setCells b o zs) := by
  have hzc : (Builtin.zeroCells z.cells 1).toList = zs := by
    rw [hz]
    apply List.ext_getElem
    · simp [Builtin.zeroCells]
    · intro i h1 h2
      simp [Builtin.zeroCells, Nat.mod_eq_of_lt h2, List.getElem?_eq_getElem h2]
  have hst := run_storeCells_cells (P := P) b o zs 0 w (by simpa using hc) (by simpa using hf) h1
  simp only [Nat.add_zero] at hst
  simp [Builtin.clear_, run_underlying ht, hv, hzc, hst]
end Go.Dw
/- slices.Delete at clips, one element. -/
namespace Go.Proofs.YteaghgbpcpileaaGreatDoor
open Go.RowKit Go.Dw

def zCl : List Value := [.string ⟨#[]⟩, .int .i64 0, .int .i64 0, .int .i64 0, .int .i64 0, .int .i64 0, .slice none 0 0]
theorem zeroCl (w : World) : (zeroValue 39).run Tryz.prog w = .ok (.agg #[.string ⟨#[]⟩, .int .i64 0, .int .i64 0, .int .i64 0, .int .i64 0, .int .i64 0, .slice none 0 0]) w := Tryz.zeroValue39 w
set_option maxRecDepth 100000 in
set_option maxHeartbeats 4000000 in
theorem delete_any (B g n c k : Nat) (L : List CliM) (w : World) (hown : w.ownsRow B 39 7 (.slice (some ⟨g, 0, none⟩) n c) n (L.flatMap CliM.cs)) (hl : L.length = n) (hk : k < n) (hn : n ≤ 1000000000) :
    Calls Tryz.prog 50 #[.slice (some ⟨g, 0, none⟩) n c, .int .i64 (k : Int), .int .i64 ((k : Int) + 1)] w fun e w' => e = .returned (.slice (some ⟨g, 0, none⟩) (n - 1) c) ∧ w'.ownsRow B 39 7 (.slice (some ⟨g, 0, none⟩) (n - 1) c) (n - 1) ((L.take k ++ L.drop (k + 1)).flatMap CliM.cs) ∧ (∀ T, T ≠ 39 → KpT T w w') ∧ Below B w w' := by
  obtain ⟨ii, hii, hzi0, hzi1, hzi2⟩ := info_parts infoClO
  have hOwn := hown
  obtain ⟨hx0, hx | ⟨g', cap, cur, hv, hgb, hgg, hnc, hcm, hcs, hct⟩⟩ := hown
  · cases hx.1
  injection hv with e1 _ e3
  injection e1 with e1; injection e1 with e1
  subst e1; subst e3
  have hfl : ∀ (M : List CliM), (M.flatMap CliM.cs).length = M.length * 7 := flat_len CliM.cs 7 (fun _ => rfl)
  have htk : ∀ (M : List CliM) (j : Nat), (M.take j).flatMap CliM.cs = (M.flatMap CliM.cs).take (j * 7) := fun M j => by
    induction M generalizing j with
    | nil => simp
    | cons x M ih =>
      cases j with
      | zero => simp
      | succ j => rw [List.take_succ_cons, List.flatMap_cons, List.flatMap_cons, ih, Nat.add_mul, Nat.one_mul, Nat.add_comm (j * 7) 7, List.take_add, List.take_left' (by rfl), List.drop_left' (by rfl)]
  have hdp : ∀ (M : List CliM) (j : Nat), (M.drop j).flatMap CliM.cs = (M.flatMap CliM.cs).drop (j * 7) := fun M j => by
    induction M generalizing j with
    | nil => simp
    | cons x M ih =>
      cases j with
      | zero => simp
      | succ j => rw [List.drop_succ_cons, List.flatMap_cons, ih, Nat.add_mul, Nat.one_mul, Nat.add_comm (j * 7) 7, ← List.drop_drop, List.drop_left' (by rfl)]
  obtain ⟨X, hX⟩ : ∃ X, L.flatMap CliM.cs = X := ⟨_, rfl⟩
  have hXl : X.length = n * 7 := by rw [← hX, hfl, hl]
  have hoX : ∀ v ∈ X, v.oneCell' = true := fun v hv => by
    rw [← hX] at hv
    obtain ⟨y, _, hy⟩ := List.mem_flatMap.1 hv
    simp [CliM.cs] at hy
    rcases hy with rfl | rfl | rfl | rfl | rfl | rfl | rfl <;> rfl
  rw [hX] at hOwn hct
  obtain ⟨news, hnews⟩ : ∃ news, news = X.drop ((k + 1) * 7) := ⟨_, rfl⟩
  have hnl : news.length = (n - (k + 1)) * 7 := by rw [hnews, List.length_drop, hXl]; omega
  have hcell : ∀ (W : World), W.heap[g]? = w.heap[g]? → ∀ j, W.cell? ⟨g, j, none⟩ = cur[j]? := fun W hW j => by
    simp only [World.cell?, hW, hgg]
    rfl
  have hcx : ∀ j u, X[j]? = some u → cur[j]? = some u := fun j u hu => by
    have hj : j < n * 7 := by have := (List.getElem?_eq_some_iff.1 hu).1; omega
    rw [← hct, List.getElem?_take, if_pos hj, Array.getElem?_toList] at hu
    exact hu
  have hfz : ∀ (W : World), W.heap[g]? = w.heap[g]? → ∀ j, W.frozen? ⟨g, j, none⟩ = false := fun W hW j => by
    simp [World.frozen?, hW, hgg]
  obtain ⟨A, hA, hsrc⟩ : ∃ A : Addr, (if c = k + 1 then some (⟨g, 0, none⟩ : Addr) else some ⟨g, (k + 1) * 7, none⟩) = some A ∧ Hid (∀ t u, news[t]? = some u → w.drew.cell? (A.add t) = some u) := by
    by_cases h : c = k + 1
    · refine ⟨⟨g, 0, none⟩, by simp [h], fun t u hu => ?_⟩
      have h0 : news.length = 0 := by rw [hnl]; omega
      rw [List.length_eq_zero_iff.1 h0] at hu
      simp at hu
    · refine ⟨⟨g, (k + 1) * 7, none⟩, by simp [h], fun t u hu => ?_⟩
      rw [Addr.add_lit, hcell w.drew rfl]
      refine hcx _ _ ?_
      rw [hnews, List.getElem?_drop] at hu
      exact hu
  have s1 : Hid (news.length = (n - (k + 1)) * 7) := hnl
  have s2 : Hid (∀ u ∈ news, u.oneCell' = true) := fun u hu => hoX u (by rw [hnews] at hu; exact List.mem_of_mem_drop hu)
  have s3 : Hid (∀ t, t < news.length → (w.drew.cell? ⟨g, 0 + k * 7 + t, none⟩).isSome = true ∧ w.drew.frozen? ⟨g, 0 + k * 7 + t, none⟩ = false) := fun t ht => by
    refine ⟨?_, hfz w.drew rfl _⟩
    rw [hcell w.drew rfl, Array.getElem?_eq_getElem (by rw [hcs]; have := Nat.mul_le_mul_right 7 hnc; omega)]; rfl
  obtain ⟨W1, hW1⟩ : ∃ W1, W1 = w.drew.setCells g (0 + k * 7) news := ⟨_, rfl⟩
  have hB0 : Blk w.drew g 39 cur.toList := by show w.heap[g]? = _; rw [hgg]
  obtain ⟨c1, hB1, hl1⟩ : ∃ c1, Blk W1 g 39 c1 ∧ c1.length = c * 7 := by
    refine ⟨cur.toList.take (0 + k * 7) ++ news ++ cur.toList.drop (0 + k * 7 + news.length), ?_, ?_⟩
    · rw [hW1]; exact blk_setCells news (0 + k * 7) w.drew cur.toList hB0 (by rw [hnl, Array.length_toList, hcs]; have := Nat.mul_le_mul_right 7 hnc; omega)
    · rw [List.length_append, List.length_append, List.length_take, List.length_drop, hnl, Array.length_toList, hcs]; have := Nat.mul_le_mul_right 7 hnc; omega
  obtain ⟨W2, hW2⟩ : ∃ W2, W2 = W1.setCells g ((k + (n - (k + 1))) * 7) zCl := ⟨_, rfl⟩
  have hcl : ∀ ty cc, (Builtin.clear_ #[22] ty #[.slice (some ⟨g, (n - 1) * 7, none⟩) (n - (n - 1)) cc]).run Tryz.prog W1 = .ok (.tuple #[]) W2 := fun ty cc => by
    rw [hW2, show n - (n - 1) = 1 by omega, show n - 1 = k + (n - (k + 1)) by omega]
    refine run_clear_one W1 22 39 ty _ Tryz.underlying22 (zeroCl W1) zCl rfl (fun v hv => by simp [zCl] at hv; rcases hv with rfl | rfl | rfl <;> rfl) g _ cc (fun j hj => ?_) (fun j hj => hB1.frozen _)
    have hj7 : j < 7 := hj
    rw [hB1.cell, List.getElem?_eq_getElem (by rw [hl1]; have := Nat.mul_le_mul_right 7 hnc; omega)]; rfl
  have HFIN : Hid (W2.ownsRow B 39 7 (.slice (some ⟨g, 0, none⟩) (n - 1) c) (n - 1) ((L.take k ++ L.drop (k + 1)).flatMap CliM.cs) ∧ (∀ T, T ≠ 39 → KpT T w W2) ∧ Below B w W2) := by
    have h1 := own_delete hOwn hk zCl rfl
    rw [show (n - 1) * 7 = (k + (n - (k + 1))) * 7 by congr 1; omega, ← hnews, show w.drew.setCells g (k * 7) news = W1 by rw [hW1, Nat.zero_add], ← hW2] at h1
    refine ⟨?_, fun T hT => ?_, ?_⟩
    · rw [List.flatMap_append, htk, hdp, hX, ← hnews]; exact h1
    · refine (KpT.refl T w).drew.trans ?_
      have k1 : KpT T w.drew W1 := by rw [hW1]; exact kp_setC (T' := 39) hB0 (fun e => hT e.symm) _
      refine k1.trans ?_
      rw [hW2]; exact kp_setC (T' := 39) hB1 (fun e => hT e.symm) _
    · rw [hW2]
      refine below_setC (w := w) hgb _ _ _ ?_
      rw [hW1]
      exact below_setC (w := w) hgb _ _ _ (Below.refl B w).drew
  have hW : Hid (W1 = w.drew.setCells g (0 + k * 7) news) := hW1
  have hkc : k ≤ c := by omega
  have hkc1 : k + 1 ≤ c := by omega
  have hne : ((k : Int) == (k : Int) + 1) = false := by simp; omega
  have hb1 : (0 : Int) ≤ (k : Int) + 1 := by omega
  have hb2 : (k : Int) + 1 ≤ (n : Int) := by omega
  have hlen : k + (n - (k + 1)) = n - 1 := by omega
  clear hW1 hW2 hB0 hB1 hl1 hcell hcx hfz hnews hnl hoX hXl hX hOwn hct hcs hfl htk hdp hgg hx0
  go_enter Tryz.func50, Tryz.ntmps50
  go_wp2_with fail
  go_region_law (refine step_append_room rfl (.tmp 22) (.tmp 25) 22 rfl 39 ii 7 Tryz.underlying22 hii hzi1 g 0 k c (by simp [Act.eval, Act.put]) A (n - (k + 1)) (c - (k + 1)) news (by simp [Act.eval, Act.put]) s1.out hsrc.out s2.out (by omega) s3.out ?_; rw [← hW.out])
  go_wp2_with fail
  go_ret
  exact ⟨rfl, HFIN.out⟩
end Go.Proofs.YteaghgbpcpileaaGreatDoor
/- slices.Equal at []api.Point whatever both are, and edit.equal. -/
namespace Go.Proofs.YteaghgbpcpileaaGreatDoor
open Go.RowKit Go.Dw

set_option maxRecDepth 100000 in
set_option maxHeartbeats 2000000 in
theorem equalPnB_any (A B : Option Addr) (c d : Nat) (xs ys : List Pnt) (q : Bool) (hq : q = true ↔ xs = ys) (w : World) (ha : Rd w A (xs.flatMap Pnt.cs)) (hb : Rd w B (ys.flatMap Pnt.cs)) (hn : xs.length ≤ 9223372036854775807) :
    Calls Tryz.prog 70 #[.slice A xs.length c, .slice B ys.length d] w fun e w' => e = .returned (.bool q) ∧ Gq w w' := by
  have HQ := Lib.hid hq
  have HA := Lib.hid ha
  have HB := Lib.hid hb
  clear hq ha hb
  by_cases hl : xs.length = ys.length
  case neg =>
    have HE : Hid (q = false) := by
      show _ = _
      rw [Bool.eq_false_iff]; exact fun h => hl (by rw [HQ.out.1 h])
    have hl1 : ((xs.length : Int) != (ys.length : Int)) = true := by simp; omega
    clear hl
    go_enter Tryz.func70, Tryz.ntmps70
    go_wp2_with fail
    go_ret
    exact ⟨ret_bool HE.out.symm, Below.refl _ _⟩
  have hl1 : ((xs.length : Int) != (ys.length : Int)) = false := by simp; omega
  have HL : Hid (xs.length = ys.length) := hl
  clear hl
  go_enter Tryz.func70, Tryz.ntmps70
  go_wp2_with fail
  go_loopw [13] (fun i wr => ∃ k : Nat, k ≤ xs.length ∧ i = .int .i64 (k : Int) ∧ Hid (xs.take k = ys.take k) ∧ Hid (Gq w wr)) (fun i _ => xs.length - (intOf i).toNat)
  case atStart => exact ⟨0, Nat.zero_le _, rfl, rfl, Below.refl _ _⟩
  case round =>
    obtain ⟨k, hk, rfl, HT, HG⟩ := hrel
    by_cases hlt : k < xs.length
    case neg =>
      have hd : decide (k < xs.length) = false := by simpa using hlt
      have HE : Hid (q = true) := HQ.out.2 (by
        have := HT.out
        rwa [List.take_of_length_le (by omega), List.take_of_length_le (by have := HL.out; omega)] at this)
      go_wp2_with fail
      go_ret
      exact ⟨ret_bool HE.out.symm, HG.out⟩
    have hd : decide (k < xs.length) = true := by simpa using hlt
    have hlt2 : k < ys.length := by have := HL.out; omega
    obtain ⟨b, off, hA, hbb, hc⟩ := pnt_at (HA.out.below HG.out) (by omega)
    obtain rfl : A = some ⟨b, off, none⟩ := hA
    obtain ⟨b2, off2, hA2, hbb2, hc2⟩ := pnt_at (HB.out.below HG.out) (by omega)
    obtain rfl : B = some ⟨b2, off2, none⟩ := hA2
    obtain ⟨p0, p1, p2⟩ := hc k hlt
    obtain ⟨q0, q1, q2⟩ := hc2 k hlt2
    obtain ⟨eq, heq⟩ : ∃ eq : Bool, eq = true ↔ xs[k].at_ = ys[k].at_ ∧ xs[k].n = ys[k].n ∧ xs[k].d = ys[k].d := by
      refine ⟨decide (xs[k].at_ = ys[k].at_) && decide (xs[k].n = ys[k].n) && decide (xs[k].d = ys[k].d), ?_⟩
      simp [and_assoc]
    have hne := runNeP _ _ _ _ _ _ eq heq
    have HNE : Hid (eq = false → q = false) := fun h => by
      rw [Bool.eq_false_iff]
      intro hq
      have e := HQ.out.1 hq
      have : eq = true := heq.2 (by
        have e2 : xs[k] = ys[k] := by simp only [e]
        rw [e2]; exact ⟨rfl, rfl, rfl⟩)
      rw [h] at this; cases this
    have HEQ : Hid (eq = true → xs.take (k + 1) = ys.take (k + 1)) := fun h => by
      obtain ⟨h1, h2, h3⟩ := heq.1 h
      have : xs[k] = ys[k] := by
        generalize xs[k] = u at *
        generalize ys[k] = v at *
        cases u; cases v; simp only at h1 h2 h3; subst h1 h2 h3; rfl
      rw [List.take_succ_eq_append_getElem hlt, List.take_succ_eq_append_getElem hlt2, HT.out, this]
    have hik : (0 : Int) ≤ (k : Int) := by omega
    have hik1 : (k : Int) < (xs.length : Int) := by omega
    have hik2 : (k : Int) < (ys.length : Int) := by omega
    clear heq hc hc2
    generalize xs[k] = u at *
    generalize ys[k] = v at *
    cases eq with
    | false =>
      have HE := Lib.hid (HNE.out rfl)
      go_wp2_with fail
      go_quiet (fail)
      go_wp2
      go_ret
      exact ⟨ret_bool HE.out.symm, below_drewN HG.out _⟩
    | true =>
      have HE := Lib.hid (HEQ.out rfl)
      go_wp2_with fail
      go_quiet (fail)
      go_wp2
      go_roundw
      case rel => exact ⟨k + 1, by omega, by go_num, HE, below_drewN HG.out _⟩
      case measure => simp [intOf]; omega
set_option maxRecDepth 100000 in
set_option maxHeartbeats 4000000 in
theorem equalCl_any (x y : CliM) (w : World) (hx : CliOk w x) (hy : CliOk w y) :
    Calls Tryz.prog 49 #[x.v, y.v] w fun e w' => e = .returned (.bool (decide (x.x = y.x))) ∧ Gq w w' := by
  obtain ⟨r, hr⟩ : ∃ r, cmpK x.x y.x = r := ⟨_, rfl⟩
  obtain ⟨q, hq⟩ : ∃ q : Bool, decide (x.x = y.x) = q := ⟨_, rfl⟩
  rw [hq]
  have HQ1 : Hid (r ≠ 0 → q = false) := fun h => by
    rw [← hq]; exact decide_eq_false (fun e => h (by rw [← hr, e, cmpK_refl]))
  have HQ2 : Hid (r = 0 → (q = true ↔ x.e.xs = y.e.xs)) := fun h => by
    rw [← hq, decide_eq_true_iff]
    exact ⟨fun e => congrArg Cli.e e, fun e => cli_eq (by rw [hr]; exact h) e⟩
  have HC : Hid (∀ W, Calls Tryz.prog 36 #[x.v, y.v] W fun e w' => e = .returned (.int .i64 r) ∧ Gr W w') := fun W => by rw [← hr]; exact compare_gr x y W
  have HX : Hid (∀ W, Gq w W → Rd W x.e.a (x.e.xs.flatMap Pnt.cs)) := fun W hW => hx.er.below hW
  have HY : Hid (∀ W, Gq w W → Rd W y.e.a (y.e.xs.flatMap Pnt.cs)) := fun W hW => hy.er.below hW
  have HN : Hid (x.e.xs.length ≤ 9223372036854775807) := hx.el
  clear hr hq hx hy
  obtain ⟨xm, xc, xf, xt, xa, xl, ⟨xA, xk, xe⟩⟩ := x
  obtain ⟨ym, yc, yf, yt, ya, yl, ⟨yA, yk, ye⟩⟩ := y
  simp only at HQ2 HX HY HN
  unfold CliM.v at HC ⊢
  simp only [Slc.v] at HC ⊢
  obtain ⟨wa, hwa⟩ : ∃ wa, wa = w.alloc (.cells #[.string xm, .int .i64 xc, .int .i64 xf, .int .i64 xt, .int .i64 xa, .int .i64 xl, .slice xA xe.length xk] 39) := ⟨_, rfl⟩
  obtain ⟨w1, hw1⟩ : ∃ w1, w1 = wa.alloc (.cells #[.string ym, .int .i64 yc, .int .i64 yf, .int .i64 yt, .int .i64 ya, .int .i64 yl, .slice yA ye.length yk] 39) := ⟨_, rfl⟩
  have hza : wa.heap.size = w.heap.size + 1 := by rw [hwa]; simp
  have hga : Gq w wa := by rw [hwa]; exact (Gq.refl _).alloc _
  have hgb : Gq wa w1 := by rw [hw1]; exact (Gq.refl _).alloc _
  have HG1 : Hid (Gq w w1) := hga.trans hgb
  have HKA : Hid (Blk w1 w.heap.size 39 [.string xm, .int .i64 xc, .int .i64 xf, .int .i64 xt, .int .i64 xa, .int .i64 xl, .slice xA xe.length xk]) := by
    refine blkq (?_ : Blk wa w.heap.size _ _) hgb; rw [hwa]; exact Blk.new w _ _
  have HKB : Hid (Blk w1 (w.heap.size + 1) 39 [.string ym, .int .i64 yc, .int .i64 yf, .int .i64 yt, .int .i64 ya, .int .i64 yl, .slice yA ye.length yk]) := by
    rw [hw1, ← hza]; exact Blk.new wa _ _
  have HS : Hid (∀ W, Gq w1 W → (W.cell? ⟨w.heap.size, 0, none⟩ = some (.string xm) ∧ W.cell? ⟨w.heap.size, 1, none⟩ = some (.int .i64 xc) ∧ W.cell? ⟨w.heap.size, 2, none⟩ = some (.int .i64 xf) ∧ W.cell? ⟨w.heap.size, 3, none⟩ = some (.int .i64 xt) ∧ W.cell? ⟨w.heap.size, 4, none⟩ = some (.int .i64 xa) ∧ W.cell? ⟨w.heap.size, 5, none⟩ = some (.int .i64 xl) ∧ W.cell? ⟨w.heap.size, 6, none⟩ = some (.slice xA xe.length xk)) ∧ (W.cell? ⟨w.heap.size + 1, 0, none⟩ = some (.string ym) ∧ W.cell? ⟨w.heap.size + 1, 1, none⟩ = some (.int .i64 yc) ∧ W.cell? ⟨w.heap.size + 1, 2, none⟩ = some (.int .i64 yf) ∧ W.cell? ⟨w.heap.size + 1, 3, none⟩ = some (.int .i64 yt) ∧ W.cell? ⟨w.heap.size + 1, 4, none⟩ = some (.int .i64 ya) ∧ W.cell? ⟨w.heap.size + 1, 5, none⟩ = some (.int .i64 yl) ∧ W.cell? ⟨w.heap.size + 1, 6, none⟩ = some (.slice yA ye.length yk))) := fun W hW => by
    have k1 := blkq HKA.out hW
    have k2 := blkq HKB.out hW
    exact ⟨⟨k1.cell 0, k1.cell 1, k1.cell 2, k1.cell 3, k1.cell 4, k1.cell 5, k1.cell 6⟩, k2.cell 0, k2.cell 1, k2.cell 2, k2.cell 3, k2.cell 4, k2.cell 5, k2.cell 6⟩
  rw [hwa] at hw1
  have HW1 := Lib.hid hw1
  obtain ⟨⟨a0, a1, a2, a3, a4, a5, a6⟩, b0, b1, b2, b3, b4, b5, b6⟩ := HS.out w1 (Gq.refl _)
  have HC1 := Lib.hid (HC.out w1)
  clear hwa hw1 hza hga hgb HC
  go_enter Tryz.func49, Tryz.ntmps49
  go_upto_region 1 with (fail)
  rw [← HW1.out]
  go_wp2_with fail
  refine HC1.out.mono ?_
  rintro e w2 ⟨rfl, hg2⟩
  have HG2 : Hid (Gq w1 w2) := Grw.below hg2
  have HGW : Hid (Gq w w2) := HG1.out.trans HG2.out
  clear hg2 a0 a1 a2 a3 a4 a5 a6 b0 b1 b2 b3 b4 b5 b6 HC1
  obtain ⟨⟨-, -, -, -, -, -, a6⟩, -, -, -, -, -, -, b6⟩ := HS.out w2 HG2.out
  by_cases h0 : r = 0
  case neg =>
    have HE := Lib.hid (HQ1.out h0)
    have hd : (r == 0) = false := by simpa using h0
    clear h0
    go_wp2_with fail
    go_ret
    exact ⟨ret_bool HE.out.symm, HGW.out⟩
  have hd : (r == 0) = true := by simp [h0]
  have HEQ := Lib.hid (equalPnB_any xA yA xk yk xe ye q (HQ2.out h0) w2 (HX.out w2 HGW.out) (HY.out w2 HGW.out) HN.out)
  clear h0
  go_wp2_with fail
  refine HEQ.out.mono ?_
  rintro e w3 ⟨rfl, hg3⟩
  have HG3 : Hid (Gq w w3) := HGW.out.trans hg3
  clear hg3
  go_wp2_with fail
  go_ret
  exact ⟨rfl, HG3.out⟩
end Go.Proofs.YteaghgbpcpileaaGreatDoor
/- slices.IndexFunc at clips with step's own predicate: the first that is equal. -/
namespace Go.Proofs.YteaghgbpcpileaaGreatDoor
open Go.RowKit Go.Dw

/-- the predicate: equal to the clip in a box -/
theorem pred_any (x y : CliM) (g : Nat) (w : World) (hx : CliOk w x) (hy : CliOk w y) (hg : Blk w g 39 x.cs) :
    Calls Tryz.prog 48 #[y.v, .pointer (some ⟨g, 0, none⟩)] w fun e w' => e = .returned (.bool (decide (x.x = y.x))) ∧ Gq w w' := by
  obtain ⟨q, hq⟩ : ∃ q : Bool, decide (x.x = y.x) = q := ⟨_, rfl⟩
  have HE : Hid (∀ W, Gq w W → Calls Tryz.prog 49 #[x.v, y.v] W fun e w' => e = .returned (.bool q) ∧ Gq W w') := fun W hW => by rw [← hq]; exact equalCl_any x y W (hx.below hW) (hy.below hW)
  rw [hq]
  have HK := Lib.hid hg
  clear hq hx hy hg
  obtain ⟨xm, xc, xf, xt, xa, xl, ⟨xA, xk, xe⟩⟩ := x
  obtain ⟨ym, yc, yf, yt, ya, yl, ⟨yA, yk, ye⟩⟩ := y
  unfold CliM.v at HE ⊢
  unfold CliM.cs at HK
  simp only [Slc.v] at HE HK ⊢
  generalize (xe.length : Nat) = xn at *
  generalize (ye.length : Nat) = yn at *
  obtain ⟨w1, hw1⟩ : ∃ w1, w1 = w.alloc (.cells #[.string ym, .int .i64 yc, .int .i64 yf, .int .i64 yt, .int .i64 ya, .int .i64 yl, .slice yA yn yk] 39) := ⟨_, rfl⟩
  have HG1 : Hid (Gq w w1) := by rw [hw1]; exact (Gq.refl _).alloc _
  have HKB : Hid (Blk w1 w.heap.size 39 [.string ym, .int .i64 yc, .int .i64 yf, .int .i64 yt, .int .i64 ya, .int .i64 yl, .slice yA yn yk]) := by
    rw [hw1]; exact Blk.new w _ _
  have HKA := Lib.hid (blkq HK.out HG1.out)
  have HW1 := Lib.hid hw1
  clear hw1
  have a0 : w1.cell? ⟨g, 0, none⟩ = some (.string xm) := HKA.out.cell 0
  have a1 : w1.cell? ⟨g, 1, none⟩ = some (.int .i64 xc) := HKA.out.cell 1
  have a2 : w1.cell? ⟨g, 2, none⟩ = some (.int .i64 xf) := HKA.out.cell 2
  have a3 : w1.cell? ⟨g, 3, none⟩ = some (.int .i64 xt) := HKA.out.cell 3
  have a4 : w1.cell? ⟨g, 4, none⟩ = some (.int .i64 xa) := HKA.out.cell 4
  have a5 : w1.cell? ⟨g, 5, none⟩ = some (.int .i64 xl) := HKA.out.cell 5
  have a6 : w1.cell? ⟨g, 6, none⟩ = some (.slice xA xn xk) := HKA.out.cell 6
  have b0 : w1.cell? ⟨w.heap.size, 0, none⟩ = some (.string ym) := HKB.out.cell 0
  have b1 : w1.cell? ⟨w.heap.size, 1, none⟩ = some (.int .i64 yc) := HKB.out.cell 1
  have b2 : w1.cell? ⟨w.heap.size, 2, none⟩ = some (.int .i64 yf) := HKB.out.cell 2
  have b3 : w1.cell? ⟨w.heap.size, 3, none⟩ = some (.int .i64 yt) := HKB.out.cell 3
  have b4 : w1.cell? ⟨w.heap.size, 4, none⟩ = some (.int .i64 ya) := HKB.out.cell 4
  have b5 : w1.cell? ⟨w.heap.size, 5, none⟩ = some (.int .i64 yl) := HKB.out.cell 5
  have b6 : w1.cell? ⟨w.heap.size, 6, none⟩ = some (.slice yA yn yk) := HKB.out.cell 6
  have HC := Lib.hid (HE.out w1 HG1.out)
  go_enter Tryz.func48, Tryz.ntmps48
  go_upto_region 1 with (fail)
  rw [← HW1.out]
  go_wp2_with fail
  refine HC.out.mono ?_
  rintro e w2 ⟨rfl, hg2⟩
  have HG2 : Hid (Gq w w2) := HG1.out.trans hg2
  clear hg2 a0 a1 a2 a3 a4 a5 a6 b0 b1 b2 b3 b4 b5 b6
  go_wp2_with fail
  go_ret
  exact ⟨rfl, HG2.out⟩
set_option maxRecDepth 100000 in
set_option maxHeartbeats 4000000 in
theorem index_any (x : CliM) (g : Nat) (A : Option Addr) (c : Nat) (L : List CliM) (w : World) (hx : CliOk w x) (hg : Blk w g 39 x.cs) (hL : Rd w A (L.flatMap CliM.cs)) (ho : ∀ y ∈ L, CliOk w y) (hn : L.length ≤ 9223372036854775807) :
    Calls Tryz.prog 47 #[.slice A L.length c, .func (.func 48) #[] #[.pointer (some ⟨g, 0, none⟩)]] w fun e w' => Gq w w' ∧ ((e = .returned (.int .i64 (-1)) ∧ ∀ y ∈ L, y.x ≠ x.x) ∨ ∃ k, ∃ hk : k < L.length, e = .returned (.int .i64 (k : Int)) ∧ L[k].x = x.x ∧ ∀ j (hj : j < k), L[j].x ≠ x.x) := by
  have HP : Hid (∀ W, Gq w W → ∀ y ∈ L, Calls Tryz.prog 48 #[y.v, .pointer (some ⟨g, 0, none⟩)] W fun e w' => e = .returned (.bool (decide (x.x = y.x))) ∧ Gq W w') := fun W hW y hy => pred_any x y g W (hx.below hW) ((ho y hy).below hW) (blkq hg hW)
  have HR := Lib.hid hL
  clear hx hg hL ho
  go_enter Tryz.func47, Tryz.ntmps47
  go_wp2_with fail
  go_loopw [8] (fun i wr => ∃ k : Nat, k ≤ L.length ∧ i = .int .i64 (k : Int) ∧ Hid (∀ j (hj : j < k) (hl : j < L.length), L[j].x ≠ x.x) ∧ Hid (Gq w wr)) (fun i _ => L.length - (intOf i).toNat)
  case atStart => exact ⟨0, Nat.zero_le _, rfl, fun j hj => absurd hj (Nat.not_lt_zero _), Below.refl _ _⟩
  case round =>
    obtain ⟨k, hk, rfl, HN, HG⟩ := hrel
    by_cases hlt : k < L.length
    case neg =>
      have hd : decide (k < L.length) = false := by simpa using hlt
      have HE : Hid (∀ y ∈ L, y.x ≠ x.x) := fun y hy => by
        obtain ⟨j, hj, rfl⟩ := List.getElem_of_mem hy
        exact HN.out j (by omega) hj
      go_wp2_with fail
      go_ret
      exact ⟨HG.out, .inl ⟨rfl, HE.out⟩⟩
    have hd : decide (k < L.length) = true := by simpa using hlt
    obtain ⟨b, off, rfl, hb, hc⟩ := cli_at (HR.out.below HG.out) (by omega)
    obtain ⟨d0, d1, d2, d3, d4, d5, d6⟩ := hc k hlt
    obtain ⟨q, hq⟩ : ∃ q : Bool, decide (x.x = L[k].x) = q := ⟨_, rfl⟩
    have HC := Lib.hid (HP.out wr HG.out L[k] (List.getElem_mem hlt))
    rw [hq] at HC
    have HT : Hid (q = true → L[k].x = x.x) := fun h => by rw [← hq] at h; exact (of_decide_eq_true h).symm
    have HF : Hid (q = false → ∀ j (hj : j < k + 1) (hl : j < L.length), L[j].x ≠ x.x) := fun h j hj hl e => by
      by_cases hjk : j = k
      · subst hjk; rw [← hq] at h; exact of_decide_eq_false h e.symm
      · exact HN.out j (by omega) hl e
    have HTT : Hid (q = true → ∃ k', ∃ hk : k' < L.length, Ending.returned (.int .i64 (k : Int)) = .returned (.int .i64 (k' : Int)) ∧ L[k'].x = x.x ∧ ∀ j (hj : j < k'), L[j].x ≠ x.x) := fun h => ⟨k, hlt, rfl, HT.out h, fun j hj => HN.out j hj (by omega)⟩
    unfold CliM.v at HC
    simp only [Slc.v] at HC
    clear hc hq HT
    generalize L[k] = y at *
    obtain ⟨ym, yc, yf, yt, ya, yl, ⟨yA, yk, ye⟩⟩ := y
    simp only at d0 d1 d2 d3 d4 d5 d6 HC
    generalize (ye.length : Nat) = yn at *
    go_wp2_with fail
    refine HC.out.mono ?_
    rintro e w2 ⟨rfl, hg2⟩
    have HG2 : Hid (Gq w w2) := HG.out.trans hg2
    clear hg2 d0 d1 d2 d3 d4 d5 d6
    cases q with
    | true =>
      have HE := Lib.hid (HTT.out rfl)
      go_wp2_with fail
      go_ret
      exact ⟨HG2.out, .inr HE.out⟩
    | false =>
      have HE := Lib.hid (HF.out rfl)
      go_wp2_with fail
      go_roundw
      case rel => exact ⟨k + 1, by omega, by go_num, HE.out, HG2.out⟩
      case measure => simp [intOf]; omega
end Go.Proofs.YteaghgbpcpileaaGreatDoor
/- The contract of edit.step. -/
namespace Go.Proofs.YteaghgbpcpileaaGreatDoor
open Go.RowKit Go.Dw
attribute [local go_sem ↓] Go.wp_at_zero Go.wp_at_succ

/-- clips behind a step, as a result: a row of the call's own -/
def StpR (w : World) (B : Nat) (r : List Cli × Int) (e : Ending) (w' : World) : Prop :=
  Below B w w' ∧ ∃ A n c, e = .returned (.tuple #[.slice A n c, .int .i64 r.2]) ∧ (r.2 = 0 → ∃ ys : List CliM, ys.map CliM.x = r.1 ∧ ys.length = n ∧ w'.ownsRow B 39 7 (.slice A n c) n (ys.flatMap CliM.cs) ∧ ∀ y ∈ ys, CliT w' y)
theorem stpR_bad {w w' : World} {B : Nat} {r : List Cli × Int} {f : Int} (hr : r = ([], f)) (hf : f ≠ 0) (hb : Below B w w') : StpR w B r (.returned (.tuple #[.slice none 0 0, .int .i64 f])) w' := by
  subst hr; exact ⟨hb, none, 0, 0, rfl, fun h => absurd h hf⟩
theorem remsF_snoc {α : Type} (f : α → Cli) : ∀ (cs : List Cli) (c : Cli) (l : List α), remsF f (cs ++ [c]) l = (match remsF f cs l with | some m => remF f c m | none => none)
  | [], c, l => by
    show remsF f [c] l = remF f c l
    rw [remsF]; cases remF f c l <;> rfl
  | d :: cs, c, l => by
    rw [List.cons_append, remsF, remsF]
    cases remF f d l with
    | none => rfl
    | some m => exact remsF_snoc f cs c m
theorem remsF_cut {α : Type} (f : α → Cli) : ∀ (cs ds : List Cli) (l : List α), remsF f cs l = none → remsF f (cs ++ ds) l = none
  | [], _, _, h => by cases h
  | c :: cs, ds, l, h => by
    rw [remsF] at h
    rw [List.cons_append, remsF]
    cases hm : remF f c l with
    | none => rfl
    | some m => rw [hm] at h; exact remsF_cut f cs ds m h
theorem cli_oneS (l : List CliM) : ∀ u ∈ l.flatMap CliM.cs, u.oneCell' = true := fun u hu => by
  obtain ⟨y, _, hy⟩ := List.mem_flatMap.1 hu
  simp [CliM.cs] at hy
  rcases hy with rfl | rfl | rfl | rfl | rfl | rfl | rfl <;> rfl
/-- the first part of step: ahead of the kinds -/
theorem stepL_bad {l : List Cli} {s : Stp} (h : stpF s ≠ 0) : stepL l s = ([], stpF s) := by unfold stepL; rw [if_pos h]
theorem stepL_1 {l : List Cli} {s : Stp} (h : stpF s = 0) (hk : s.kd = 1) : stepL l s = (srtC (l ++ s.cs), 0) := by unfold stepL; rw [if_neg (fun k => k h), if_pos hk]
theorem stepL_2 {l m : List Cli} {s : Stp} (h : stpF s = 0) (hk : s.kd = 2) (hm : remsF id s.cs l = some m) : stepL l s = (m, 0) := by unfold stepL; rw [if_neg (fun k => k h), if_neg (by omega), if_pos hk]; simp only [hm]
theorem stepL_2n {l : List Cli} {s : Stp} (h : stpF s = 0) (hk : s.kd = 2) (hm : remsF id s.cs l = none) : stepL l s = ([], 9) := by unfold stepL; rw [if_neg (fun k => k h), if_neg (by omega), if_pos hk]; simp only [hm]
theorem stepL_3r {l : List Cli} {s : Stp} (h : stpF s = 0) (h1 : s.kd ≠ 1) (h2 : s.kd ≠ 2) (hr : rngF s ≠ 0) : stepL l s = ([], rngF s) := by
  unfold stepL; rw [if_neg (fun k => k h), if_neg h1, if_neg h2, if_pos hr]
  have : rngF s = 1 := by unfold rngF at hr ⊢; split <;> simp_all
  rw [this]
theorem stepL_3c {l : List Cli} {s : Stp} (h : stpF s = 0) (h1 : s.kd ≠ 1) (h2 : s.kd ≠ 2) (hr : rngF s = 0) (hc : l.any (clsh s) = true) : stepL l s = ([], 12) := by
  unfold stepL; rw [if_neg (fun k => k h), if_neg h1, if_neg h2, if_neg (fun k => k hr), if_pos hc]
theorem stepL_3 {l : List Cli} {s : Stp} (h : stpF s = 0) (h1 : s.kd ≠ 1) (h2 : s.kd ≠ 2) (hr : rngF s = 0) (hc : l.any (clsh s) = false) : stepL l s = (srtC (l.map (shfC s.at_ s.by_)), 0) := by
  unfold stepL; rw [if_neg (fun k => k h), if_neg h1, if_neg h2, if_neg (fun k => k hr), if_neg (by rw [hc]; decide)]
set_option maxRecDepth 100000 in
set_option maxHeartbeats 16000000 in
theorem stepEd_any (B : Nat) (A : Option Addr) (n c : Nat) (L : List CliM) (s : StpM) (w : World) (hB : B ≤ w.heap.size) (hown : w.ownsRow B 39 7 (.slice A n c) n (L.flatMap CliM.cs)) (hl : L.length = n) (hn : n ≤ 300) (hT : ∀ y ∈ L, CliT w y) (hat : ∀ y ∈ L, 0 ≤ y.at_ ∧ y.at_ ≤ 100000) (hs : ∀ W, Below B w W → StpB 1048576 W s) :
    Calls Tryz.prog 30 #[.slice A n c, s.v] w (StpR w B (stepL (L.map CliM.x) s.x)) := by
  obtain ⟨ii, hii, hzi0, hzi1, hzi2⟩ := info_parts infoClO
  have HII : Hid (Tryz.prog.info? 39 = some ii ∧ ii.zero = some _ ∧ ii.size = 7 ∧ ii.bytes = 80) := ⟨hii, hzi0, hzi1, hzi2⟩
  clear hii hzi0 hzi1 hzi2
  obtain ⟨S, hS⟩ : ∃ S, s = S := ⟨_, rfl⟩
  obtain ⟨r, hr⟩ : ∃ r, stepL (L.map CliM.x) S.x = r := ⟨_, rfl⟩
  have HRR := Lib.hid hr
  rw [hS] at hs ⊢
  rw [hr]
  have HSS := Lib.hid hs
  have HOW := Lib.hid hown
  have HTT := Lib.hid hT
  have HAT := Lib.hid hat
  have HBZ : Hid (B ≤ w.heap.size) := hB
  have HLN : Hid (L.length = n ∧ n ≤ 300) := ⟨hl, hn⟩
  clear hown hT hat hs hl hn hr
  obtain ⟨sk, ⟨sA, sc, sx⟩, sa, sb⟩ := s
  obtain ⟨sn, hsn⟩ : ∃ sn : Nat, sx.length = sn := ⟨_, rfl⟩
  have hsv : S.v = .agg #[.int .i64 sk, .slice sA sn sc, .int .i64 sa, .int .i64 sb] := by rw [← hS, ← hsn]; rfl
  rw [hsv]
  have HSX : Hid (S.kd = sk ∧ S.cs = ⟨sA, sc, sx⟩ ∧ S.at_ = sa ∧ S.by_ = sb ∧ sx.length = sn) := by rw [← hS]; exact ⟨rfl, rfl, rfl, rfl, hsn⟩
  have HF : Hid (stpN sk sn sa sb = stpF S.x) := by
    have h := stpN_x S
    have h2 := HSX.out
    rw [h2.1, h2.2.2.1, h2.2.2.2.1, h2.2.1] at h
    rw [show (⟨sA, sc, sx⟩ : Slc CliM).xs.length = sn from hsn] at h
    exact h
  have HG : Hid (rngN sa sb = rngF S.x) := by rw [← HSX.out.2.2.1, ← HSX.out.2.2.2.1]; exact rngN_x S
  clear hS hsn hsv
  obtain ⟨f, hf⟩ : ∃ f, stpN sk sn sa sb = f := ⟨_, rfl⟩
  obtain ⟨w1, hw1⟩ : ∃ w1, w1 = w.alloc (.cells #[.int .i64 sk, .slice sA sn sc, .int .i64 sa, .int .i64 sb] 60) := ⟨_, rfl⟩
  have HG1 : Hid (Gq w w1) := by rw [hw1]; exact (Gq.refl _).alloc _
  have HK1 : Hid (Blk w1 w.heap.size 60 [.int .i64 sk, .slice sA sn sc, .int .i64 sa, .int .i64 sb]) := by rw [hw1]; exact Blk.new w _ _
  have HCE : Hid (∀ W, Gq w1 W → W.cell? ⟨w.heap.size, 0, none⟩ = some (.int .i64 sk) ∧ W.cell? ⟨w.heap.size, 1, none⟩ = some (.slice sA sn sc) ∧ W.cell? ⟨w.heap.size, 2, none⟩ = some (.int .i64 sa) ∧ W.cell? ⟨w.heap.size, 3, none⟩ = some (.int .i64 sb)) := fun W hW => by
    have k1 := blkq HK1.out hW
    exact ⟨k1.cell 0, k1.cell 1, k1.cell 2, k1.cell 3⟩
  have HBG : Hid (∀ W, Gq w W → Below B w W) := fun W hW => Below.mono hW HBZ.out
  have HC1 := Lib.hid (checkStep_any sk sA sn sc sa sb w1)
  rw [hf] at HC1
  have HFF : Hid (stpF S.x = f) := by rw [← hf]; exact HF.out.symm
  have HW1 := Lib.hid hw1
  clear hw1 hf HF
  go_enter Tryz.func30, Tryz.ntmps30
  go_upto_region 1 with (fail)
  rw [← HW1.out]
  obtain ⟨c0, c1, c2, c3⟩ := HCE.out w1 (Gq.refl _)
  go_wp2_with fail
  refine HC1.out.mono ?_
  rintro e w2 ⟨rfl, hg2⟩
  have HG2 : Hid (Gq w1 w2) := hg2
  have HGW : Hid (Gq w w2) := HG1.out.trans hg2
  clear hg2 c0 c1 c2 c3 HC1
  obtain ⟨c0, c1, c2, c3⟩ := HCE.out w2 HG2.out
  by_cases h0 : f = 0
  case neg =>
    have hfb : (f != 0) = true := by simpa using h0
    have HE : Hid (r = ([], f)) := by
      show _ = _
      rw [← HRR.out, stepL_bad (by rw [HFF.out]; exact h0), HFF.out]
    have HN0 : Hid (f ≠ 0) := h0
    clear h0
    go_wp2_with fail
    go_ret2
    exact stpR_bad HE.out HN0.out (HBG.out _ HGW.out)
  have hfb : (f != 0) = false := by simp [h0]
  have HF0 : Hid (stpF S.x = 0) := by rw [← h0]; exact HFF.out
  clear h0 HFF
  by_cases hk1 : sk = 1
  · have e1 : (sk == 1) = true := by simp [hk1]
    have HE : Hid (r = (srtC (L.map CliM.x ++ sx.map CliM.x), 0)) := by
      show _ = _
      rw [← HRR.out, stepL_1 HF0.out (by show S.kd = 1; rw [HSX.out.1]; exact hk1)]
      show (srtC (L.map CliM.x ++ S.cs.xs.map CliM.x), 0) = _
      rw [HSX.out.2.1]
    have hsb := HSS.out w2 (HBG.out _ HGW.out)
    have HOD : Hid (Calls Tryz.prog 29 #[.slice sA sn sc] w2 fun e w' => ∃ A' c', ∃ ys : List CliM, e = .returned (.slice A' ys.length c') ∧ ys.map CliM.x = sx.map CliM.x ∧ w'.ownsRow w2.heap.size 39 7 (.slice A' ys.length c') ys.length (ys.flatMap CliM.cs) ∧ (∀ y ∈ ys, CliT w' y) ∧ Gq w2 w') := by
      have h2 := HSX.out.2.1
      have h3 := hsb.o.cr
      have h4 := hsb.o.co
      have h5 := hsb.e
      have h6 := hsb.n
      rw [h2] at h3 h4 h5 h6
      have := owned_any sA sc sx w2 h3 h4 (fun x hx => by have := h5 x hx; omega) (by have : sx.length ≤ 1048576 := h6; omega)
      rw [HSX.out.2.2.2.2] at this
      exact this
    have HSN : Hid (sx.length ≤ 1048576) := by
      have h6 := hsb.n
      rw [HSX.out.2.1] at h6; exact h6
    clear hk1 hsb
    go_wp2_with fail
    refine HOD.out.mono ?_
    rintro e w3 ⟨A3, c3', ys, rfl, hyx, hyo, hyt, hg3⟩
    have HG3 : Hid (Gq w w3) := HGW.out.trans hg3
    have HYX := Lib.hid hyx
    have HYO := Lib.hid hyo
    have HYT := Lib.hid hyt
    have HYL : Hid (ys.length ≤ 1048576) := by
      have := congrArg List.length HYX.out
      rw [List.length_map, List.length_map] at this
      have := HSN.out; show _ ≤ _; omega
    have HO3 := Lib.hid (own_belowL HOW.out HG3.out)
    obtain ⟨yn, hyn⟩ : ∃ yn, ys.length = yn := ⟨_, rfl⟩
    rw [hyn] at HYO HYL ⊢
    have HYN := Lib.hid hyn
    clear hg3 hyx hyo hyt hyn HOD c0 c1 c2 c3
    have HYR := Lib.hid (Rd.of_own HYO.out)
    have HFL : Hid ((ys.flatMap CliM.cs).length = yn * 7) := by show _ = _; rw [flat_len CliM.cs 7 (fun _ => rfl), HYN.out]
    have HBN : Hid (n + yn ≤ maxLen ∧ (n + yn) * 80 ≤ 140737488355328) := by
      have h1 := HLN.out.2
      have h2 := HYL.out
      exact ⟨by unfold maxLen; omega, by omega⟩
    have HZ3 : Hid (B ≤ w3.heap.size) := Nat.le_trans HBZ.out (Below.size HG3.out)
    go_wp2_with (at_builtin; refine wpList_append_rd (by rfl) (.tmp 22) (.tmp 25) 22 (by rfl) B 39 ii _ 7 80 Tryz.underlying22 HII.out.1 HII.out.2.1 HII.out.2.2.1 HII.out.2.2.2 rfl (by decide) (.slice A n c) n (L.flatMap CliM.cs) (by rfl) HO3.out A3 yn c3' (ys.flatMap CliM.cs) (by rfl) HFL.out HYR.out (cli_oneS ys) HBN.out.1 HBN.out.2 HZ3.out ?_; intro v5 w5 hown5 hg5; obtain ⟨A5, q5, rfl⟩ := slice_of_own hown5)
    have HO5 : Hid (w5.ownsRow B 39 7 (.slice A5 (n + yn) q5) (n + yn) ((L ++ ys).flatMap CliM.cs)) := by rw [List.flatMap_append]; exact hown5
    have HK5 : Hid (KpT 75 w3 w5) := KpT.own HO3.out hg5 (by decide)
    have HB5 : Hid (Below B w w5) := Below.grown (HBG.out _ HG3.out) hg5 HZ3.out (fun k hk => (HO3.out.lt k hk).1)
    have HORD := Lib.hid (ordered_any B B A5 (n + yn) q5 (L ++ ys) w5 (Nat.le_refl _) HO5.out (by rw [List.length_append, HLN.out.1, HYN.out]) (by have h1 := HLN.out.2; have h2 := HYL.out; omega))
    clear hown5 hg5
    go_wp2_with fail
    refine HORD.out.mono ?_
    rintro e w6 ⟨rfl, ho6, hk6, hb6⟩
    have HFIN : Hid (StpR w B r (.returned (.tuple #[.slice A5 (n + yn) q5, .int .i64 0])) w6) := by
      refine ⟨HB5.out.trans hb6, A5, n + yn, q5, by rw [HE.out], fun _ => ⟨srtF CliM.x (L ++ ys), ?_, ?_, ho6, fun y hy => ?_⟩⟩
      · rw [HE.out]
        exact (srt_map id CliM.x (L ++ ys)).trans (by rw [List.map_append, HYX.out])
      · rw [(srt_perm CliM.x (L ++ ys)).length_eq, List.length_append, HLN.out.1, HYN.out]
      · have hk7 := HK5.out.trans (hk6 75 (by decide))
        rcases List.mem_append.1 ((srt_perm CliM.x (L ++ ys)).mem_iff.1 hy) with hy | hy
        · exact (((HTT.out y hy).gq HG3.out)).kp hk7
        · exact (HYT.out y hy).kp hk7
    clear ho6 hk6 hb6 HORD
    go_wp2_with fail
    go_ret2
    exact HFIN.out
  have e1 : (sk == 1) = false := by simp [hk1]
  by_cases hk2 : sk = 2
  · have e2 : (sk == 2) = true := by simp [hk2]
    have HE1 : Hid (∀ m, remsF id (sx.map CliM.x) (L.map CliM.x) = some m → r = (m, 0)) := fun m hm => by
      rw [← HRR.out]
      exact stepL_2 HF0.out (by show S.kd = 2; rw [HSX.out.1]; exact hk2) (by show remsF id (S.cs.xs.map CliM.x) _ = _; rw [HSX.out.2.1]; exact hm)
    have HE2 : Hid (remsF id (sx.map CliM.x) (L.map CliM.x) = none → r = ([], 9)) := fun hm => by
      rw [← HRR.out]
      exact stepL_2n HF0.out (by show S.kd = 2; rw [HSX.out.1]; exact hk2) (by show remsF id (S.cs.xs.map CliM.x) _ = _; rw [HSX.out.2.1]; exact hm)
    have HSR : Hid (∀ W, Below B w W → Rd W sA (sx.flatMap CliM.cs) ∧ ∀ y ∈ sx, CliOk W y) := fun W hW => by
      have h := (HSS.out W hW).o
      have h3 := h.cr
      have h4 := h.co
      rw [HSX.out.2.1] at h3 h4
      exact ⟨h3, h4⟩
    have HSN : Hid (sx.length = sn ∧ sn ≤ 1048576) := by
      have h6 := (HSS.out w (Below.refl _ _)).n
      rw [HSX.out.2.1] at h6
      exact ⟨HSX.out.2.2.2.2, by rw [← HSX.out.2.2.2.2]; exact h6⟩
    clear hk1 hk2
    have hsn2 := HSN.out.2
    have hn3 := HLN.out.2
    go_wp2_with fail
    go_loopw [0, 33] (fun lv kv wr => ∃ (k : Nat) (A' : Option Addr) (n' c' : Nat) (M : List CliM), k ≤ sn ∧ lv = .slice A' n' c' ∧ kv = .int .i64 (k : Int) ∧ Hid (n' ≤ n ∧ M.length = n') ∧ Hid (wr.ownsRow B 39 7 (.slice A' n' c') n' (M.flatMap CliM.cs)) ∧ Hid (∀ y ∈ M, CliT wr y) ∧ Hid (Below B w wr) ∧ Hid (remsF id ((sx.take k).map CliM.x) (L.map CliM.x) = some (M.map CliM.x))) (fun _ kv _ => sn - (intOf kv).toNat)
    case atStart => exact ⟨0, A, n, c, L, Nat.zero_le _, rfl, rfl, ⟨Nat.le_refl _, HLN.out.1⟩, own_belowL HOW.out HGW.out, fun y hy => (HTT.out y hy).gq HGW.out, HBG.out _ HGW.out, rfl⟩
    case round =>
      obtain ⟨k, A', n', c', M, hk, rfl, rfl, HML, HMO, HMT, HMB, HMR⟩ := hrel
      by_cases hlt : k < sn
      case neg =>
        have hd : decide (k < sn) = false := by simpa using hlt
        have HFIN : Hid (StpR w B r (.returned (.tuple #[.slice A' n' c', .int .i64 0])) wr) := by
          have h1 := HMR.out
          rw [List.take_of_length_le (by rw [HSN.out.1]; omega)] at h1
          have h2 := HE1.out _ h1
          exact ⟨HMB.out, A', n', c', by rw [h2], fun _ => ⟨M, by rw [h2], HML.out.2, HMO.out, HMT.out⟩⟩
        clear hlt
        go_wp2_with fail
        go_ret2
        exact HFIN.out
      have hd : decide (k < sn) = true := by simpa using hlt
      have hkx : k < sx.length := by rw [HSN.out.1]; exact hlt
      have hsr := HSR.out wr HMB.out
      obtain ⟨b, off, hA, hb, hc⟩ := cli_at hsr.1 (by omega)
      obtain rfl : sA = some ⟨b, off, none⟩ := hA
      obtain ⟨d0, d1, d2, d3, d4, d5, d6⟩ := hc k hkx
      have HXO : Hid (CliOk wr sx[k]) := hsr.2 _ (List.getElem_mem hkx)
      have HSNOC : Hid (remsF id ((sx.take (k + 1)).map CliM.x) (L.map CliM.x) = remF id (sx[k]).x (M.map CliM.x)) := by
        show _ = _
        rw [List.take_succ_eq_append_getElem hkx, List.map_append, List.map_cons, List.map_nil, remsF_snoc, HMR.out]
      have HNONE : Hid (remF id (sx[k]).x (M.map CliM.x) = none → r = ([], 9)) := fun h => by
        refine HE2.out ?_
        have h1 : sx.map CliM.x = (sx.take (k + 1)).map CliM.x ++ (sx.drop (k + 1)).map CliM.x := by rw [← List.map_append, List.take_append_drop]
        rw [h1]
        exact remsF_cut id _ _ _ (by rw [HSNOC.out]; exact h)
      have HWR : Hid (B ≤ wr.heap.size) := Nat.le_trans HBZ.out (Below.size HMB.out)
      clear hc hsr
      generalize sx[k] = x at *
      clear hkx
      obtain ⟨w3, hw3⟩ : ∃ w3, w3 = wr.alloc (.cells #[.string x.m, .int .i64 x.ch, .int .i64 x.fr, .int .i64 x.tr, .int .i64 x.at_, .int .i64 x.ln, .slice x.e.a x.e.xs.length x.e.c] 39) := ⟨_, rfl⟩
      have HG3 : Hid (Gq wr w3) := by rw [hw3]; exact (Gq.refl _).alloc _
      have HK3 : Hid (Blk w3 wr.heap.size 39 x.cs) := by rw [hw3]; exact Blk.new wr _ _
      have HO3 := Lib.hid (own_belowL HMO.out HG3.out)
      have HT3 : Hid (∀ y ∈ M, CliT w3 y) := fun y hy => (HMT.out y hy).gq HG3.out
      have HIX : Hid (Calls Tryz.prog 47 #[.slice A' n' c', .func (.func 48) #[] #[.pointer (some ⟨wr.heap.size, 0, none⟩)]] w3 fun e w' => Gq w3 w' ∧ ((e = .returned (.int .i64 (-1)) ∧ ∀ y ∈ M, y.x ≠ x.x) ∨ ∃ k, ∃ hk : k < M.length, e = .returned (.int .i64 (k : Int)) ∧ M[k].x = x.x ∧ ∀ j (hj : j < k), M[j].x ≠ x.x)) := by
        have h := index_any x wr.heap.size A' c' M w3 (HXO.out.below HG3.out) HK3.out (Rd.of_own HO3.out) (fun y hy => (HT3.out y hy).1) (by have := HML.out; omega)
        show Calls _ _ _ _ _
        rw [← HML.out.2]; exact h
      have HW3 := Lib.hid hw3
      have HMB3 : Hid (Below B w w3) := HMB.out.trans (Below.mono HG3.out HWR.out)
      have hn'2 : n' ≤ 300 := by have := HML.out.1; omega
      clear hw3
      go_upto_region 11 with (fail)
      rw [← HW3.out]
      clear d0 d1 d2 d3 d4 d5 d6
      go_wp2_with fail
      refine HIX.out.mono ?_
      rintro e w4 ⟨hg4, ⟨rfl, hnone⟩ | ⟨j, hj, rfl, hjx, hjl⟩⟩
      · have HB4 : Hid (Below B w w4) := HMB3.out.trans (Below.mono hg4 (Below.size HMB3.out |> Nat.le_trans HBZ.out))
        have HR9 : Hid (r = ([], 9)) := HNONE.out (remF_none id x.x _ (fun y hy => by
          obtain ⟨z, hz, rfl⟩ := List.mem_map.1 hy
          exact hnone z hz))
        clear hg4 hnone
        go_wp2_with fail
        go_ret2
        exact stpR_bad HR9.out (by decide) HB4.out
      have HO4 := Lib.hid (own_belowL HO3.out hg4)
      have HB4 : Hid (Below B w w4) := HMB3.out.trans (Below.mono hg4 (Below.size HMB3.out |> Nat.le_trans HBZ.out))
      have HT4 : Hid (∀ y ∈ M, CliT w4 y) := fun y hy => (HT3.out y hy).gq hg4
      have hjn : j < n' := by have := HML.out.2; omega
      obtain ⟨g, hg⟩ : ∃ g, A' = some ⟨g, 0, none⟩ := by
        rcases HO4.out.2 with h | ⟨g', cap, cur, hv, _⟩
        · omega
        · injection hv with e1 _ _; exact ⟨g', e1⟩
      subst hg
      have HDL := Lib.hid (delete_any B g n' c' j M w4 HO4.out HML.out.2 hjn (by omega))
      have HNX : Hid (remsF id ((sx.take (k + 1)).map CliM.x) (L.map CliM.x) = some ((M.take j ++ M.drop (j + 1)).map CliM.x)) := by
        show _ = _
        rw [HSNOC.out, remF_at id x.x (M.map CliM.x) j (by rw [List.length_map]; exact hj) (fun i hi => by rw [List.getElem_map]; exact hjl i hi) (by rw [List.getElem_map]; exact hjx), List.map_append, List.map_take, List.map_drop]
      have HLX : Hid (n' - 1 ≤ n ∧ (M.take j ++ M.drop (j + 1)).length = n' - 1) := by
        have h1 := HML.out
        refine ⟨by omega, ?_⟩
        rw [List.length_append, List.length_take, List.length_drop]; omega
      have W1 : IntKind.i64.wrap ((j : Int) + 1) = (j : Int) + 1 := IntWalk.i64_in _ (by omega)
      have hj0 : decide ((j : Int) < 0) = false := decide_eq_false (by omega)
      clear hg4 hjx hjl hj
      go_wp2_with fail
      refine HDL.out.mono ?_
      rintro e w5 ⟨rfl, ho5, hk5, hb5⟩
      have HO5 := Lib.hid ho5
      have HB5 : Hid (Below B w w5) := HB4.out.trans hb5
      have HT5 : Hid (∀ y ∈ M.take j ++ M.drop (j + 1), CliT w5 y) := fun y hy => by
        refine (HT4.out y ?_).kp (hk5 _ (by decide))
        rcases List.mem_append.1 hy with h | h
        · exact List.mem_of_mem_take h
        · exact List.mem_of_mem_drop h
      clear ho5 hk5 hb5 HDL hjn W1 hj0
      go_wp2_with fail
      go_roundw
      case rel => exact ⟨k + 1, some ⟨g, 0, none⟩, n' - 1, c', M.take j ++ M.drop (j + 1), by omega, rfl, by go_num, HLX.out, HO5.out, HT5.out, HB5.out, HNX.out⟩
      case measure => simp [intOf]; omega
  have e2 : (sk == 2) = false := by simp [hk2]
  have HK12 : Hid (S.kd ≠ 1 ∧ S.kd ≠ 2) := by show _ ∧ _; rw [HSX.out.1]; exact ⟨hk1, hk2⟩
  obtain ⟨fr, hfr⟩ : ∃ f, rngN sa sb = f := ⟨_, rfl⟩
  have HC2 := Lib.hid (checkShift_any sk sA sn sc sa sb w2)
  rw [hfr] at HC2 HG
  have HFR := Lib.hid hfr
  clear hk1 hk2 hfr
  go_wp2_with fail
  refine HC2.out.mono ?_
  rintro e w3 ⟨rfl, hg3⟩
  have HG3 : Hid (Gq w1 w3) := HG2.out.trans hg3
  have HGW3 : Hid (Gq w w3) := HGW.out.trans hg3
  clear hg3 c0 c1 c2 c3 HC2
  by_cases h0 : fr = 0
  case neg =>
    have hfc : (fr != 0) = true := by simpa using h0
    have HE : Hid (r = ([], fr)) := by
      show _ = _
      rw [← HRR.out, stepL_3r HF0.out HK12.out.1 HK12.out.2 (by rw [← HG.out]; exact h0), ← HG.out]
    have HN0 : Hid (fr ≠ 0) := h0
    clear h0
    go_wp2_with fail
    go_ret2
    exact stpR_bad HE.out HN0.out (HBG.out _ HGW3.out)
  have hfc : (fr != 0) = false := by simp [h0]
  have HRG : Hid (rngF S.x = 0) := by rw [← HG.out]; exact h0
  have HRN : Hid ((0 ≤ sa ∧ sa ≤ 100000) ∧ (-100000 ≤ sb ∧ sb ≤ 100000) ∧ (0 ≤ sa + sb ∧ sa + sb ≤ 100000)) := by
    have h1 := HFR.out
    rw [h0] at h1
    unfold rngN at h1
    split at h1
    · assumption
    · omega
  clear h0
  have W1 : IntKind.i64.wrap (sa + sb) = sa + sb := IntWalk.i64_in _ (by have := HRN.out; omega)
  have HO3 := Lib.hid (own_belowL HOW.out HGW3.out)
  have HR3 := Lib.hid (Rd.of_own HO3.out)
  have hn3 := HLN.out.2
  go_wp2_with fail
  go_loopw [56] (fun kv wr => ∃ k : Nat, k ≤ n ∧ kv = .int .i64 (k : Int) ∧ Hid (∀ j (_hj : j < k) (hl : j < L.length), clsh S.x L[j].x = false) ∧ Hid (Gq w3 wr)) (fun kv _ => n - (intOf kv).toNat)
  case atStart => exact ⟨0, Nat.zero_le _, rfl, fun j hj => absurd hj (Nat.not_lt_zero _), Gq.refl _⟩
  case round =>
    obtain ⟨k, hk, rfl, HN, HGR⟩ := hrel
    have HGW4 : Hid (Gq w wr) := HGW3.out.trans HGR.out
    by_cases hlt : k < n
    case neg =>
      have hd : decide (k < n) = false := by simpa using hlt
      have HE : Hid (r = (srtC ((L.map CliM.x).map (shfC sa sb)), 0)) := by
        show _ = _
        rw [← HRR.out, stepL_3 HF0.out HK12.out.1 HK12.out.2 HRG.out (by
          rw [List.any_eq_false]
          intro y hy
          obtain ⟨z, hz, rfl⟩ := List.mem_map.1 hy
          obtain ⟨j, hj, rfl⟩ := List.getElem_of_mem hz
          have h1 := HN.out j (by have := HLN.out.1; omega) hj
          rw [h1]; decide)]
        show (srtC ((L.map CliM.x).map (shfC S.at_ S.by_)), 0) = _
        rw [HSX.out.2.2.1, HSX.out.2.2.2.1]
      have HO4 := Lib.hid (own_belowL HOW.out HGW4.out)
      have HIN : Hid (∀ y ∈ L, sa ≤ y.at_ → inI64 (y.at_ + sb)) := fun y hy _ => by
        have h1 := HAT.out y hy
        have h2 := HRN.out
        unfold inI64; omega
      have HSH := Lib.hid (shift_any B A n c L sa sb wr HO4.out HLN.out.1 (by omega) HIN.out)
      obtain ⟨c0, c1, c2, c3⟩ := HCE.out wr (HG3.out.trans HGR.out)
      clear hlt W1
      go_wp2_with fail
      refine HSH.out.mono ?_
      rintro e w6 ⟨rfl, ho6, hk6, hb6⟩
      have HFIN : Hid (StpR w B r (.returned (.tuple #[.slice A n c, .int .i64 0])) w6) := by
        refine ⟨(HBG.out _ HGW4.out).trans hb6, A, n, c, by rw [HE.out], fun _ => ⟨srtF CliM.x (L.map (shM sa sb)), ?_, ?_, ho6, fun y hy => ?_⟩⟩
        · rw [HE.out]
          refine (srt_map id CliM.x (L.map (shM sa sb))).trans ?_
          show srtC _ = srtC _
          rw [List.map_map, List.map_map]
          congr 1
          exact List.map_congr_left fun y _ => shM_x sa sb y
        · rw [(srt_perm CliM.x (L.map (shM sa sb))).length_eq, List.length_map, HLN.out.1]
        · obtain ⟨z, hz, rfl⟩ := List.mem_map.1 ((srt_perm CliM.x (L.map (shM sa sb))).mem_iff.1 hy)
          exact (cliT_sh ((HTT.out z hz).gq HGW4.out) (HIN.out z hz)).kp (hk6 75 (by decide))
      clear ho6 hk6 hb6 HSH c0 c1 c2 c3
      go_wp2_with fail
      go_ret2
      exact HFIN.out
    have hd : decide (k < n) = true := by simpa using hlt
    have hkl : k < L.length := by have := HLN.out.1; omega
    obtain ⟨b, off, hA, hb, hc⟩ := cli_at (HR3.out.below HGR.out) (by omega)
    obtain rfl : A = some ⟨b, off, none⟩ := hA
    obtain ⟨d0, d1, d2, d3, d4, d5, d6⟩ := hc k hkl
    have HCL : Hid (clsh S.x L[k].x = decide (sb < 0 ∧ sa + sb ≤ L[k].at_ ∧ L[k].at_ < sa)) := by
      show decide (S.by_ < 0 ∧ S.at_ + S.by_ ≤ L[k].at_ ∧ L[k].at_ < S.at_) = _
      rw [HSX.out.2.2.1, HSX.out.2.2.2.1]
    have HANY : Hid (clsh S.x L[k].x = true → r = ([], 12)) := fun h => by
      rw [← HRR.out]
      exact stepL_3c HF0.out HK12.out.1 HK12.out.2 HRG.out (List.any_eq_true.2 ⟨L[k].x, List.mem_map_of_mem (List.getElem_mem hkl), h⟩)
    obtain ⟨za, hza⟩ : ∃ z, L[k].at_ = z := ⟨_, rfl⟩
    rw [hza] at d4 HCL
    obtain ⟨xm, hxm⟩ : ∃ z, L[k].m = z := ⟨_, rfl⟩
    obtain ⟨xc, hxc⟩ : ∃ z, L[k].ch = z := ⟨_, rfl⟩
    obtain ⟨xf, hxf⟩ : ∃ z, L[k].fr = z := ⟨_, rfl⟩
    obtain ⟨xt, hxt⟩ : ∃ z, L[k].tr = z := ⟨_, rfl⟩
    obtain ⟨xl, hxl⟩ : ∃ z, L[k].ln = z := ⟨_, rfl⟩
    obtain ⟨xe, hxe⟩ : ∃ z, L[k].e = z := ⟨_, rfl⟩
    rw [hxm] at d0
    rw [hxc] at d1
    rw [hxf] at d2
    rw [hxt] at d3
    rw [hxl] at d5
    rw [hxe] at d6
    obtain ⟨xA, xq, xs⟩ := xe
    obtain ⟨xn, hxn⟩ : ∃ xn : Nat, xs.length = xn := ⟨_, rfl⟩
    replace d6 : wr.cell? ⟨b, off + k * 7 + 6, none⟩ = some (.slice xA xn xq) := by rw [← hxn]; exact d6
    obtain ⟨w4, hw4⟩ : ∃ w4, w4 = wr.alloc (.cells #[.string xm, .int .i64 xc, .int .i64 xf, .int .i64 xt, .int .i64 za, .int .i64 xl, .slice xA xn xq] 39) := ⟨_, rfl⟩
    have hg4 : Gq wr w4 := by rw [hw4]; exact (Gq.refl _).alloc _
    have HG5 : Hid (Gq w3 w4) := HGR.out.trans hg4
    have HK4 : Hid (Blk w4 wr.heap.size 39 [.string xm, .int .i64 xc, .int .i64 xf, .int .i64 xt, .int .i64 za, .int .i64 xl, .slice xA xn xq]) := by rw [hw4]; exact Blk.new wr _ _
    have b4 : w4.cell? ⟨wr.heap.size, 4, none⟩ = some (.int .i64 za) := HK4.out.cell 4
    obtain ⟨c0, c1, c2, c3⟩ := HCE.out w4 (HG3.out.trans HG5.out)
    have HW4 := Lib.hid hw4
    clear hc hza hxm hxc hxf hxt hxl hxe hxn hw4 hg4 HK4
    go_upto_region 23 with (fail)
    rw [← HW4.out]
    clear d0 d1 d2 d3 d4 d5 d6
    by_cases q1 : sb < 0
    case neg =>
      have y1 : decide (sb < 0) = false := decide_eq_false q1
      have HN2 : Hid (∀ j (_hj : j < k + 1) (hl : j < L.length), clsh S.x L[j].x = false) := fun j hj hl => by
        by_cases hjk : j = k
        · subst hjk; rw [HCL.out]; exact decide_eq_false (by omega)
        · exact HN.out j (by omega) hl
      clear q1
      go_wp2_with fail
      go_roundw
      case rel => exact ⟨k + 1, by omega, by go_num, HN2.out, HG5.out⟩
      case measure => simp [intOf]; omega
    have y1 : decide (sb < 0) = true := decide_eq_true q1
    by_cases q2 : sa + sb ≤ za
    case neg =>
      have y2 : decide (sa + sb ≤ za) = false := decide_eq_false q2
      have HN2 : Hid (∀ j (_hj : j < k + 1) (hl : j < L.length), clsh S.x L[j].x = false) := fun j hj hl => by
        by_cases hjk : j = k
        · subst hjk; rw [HCL.out]; exact decide_eq_false (by omega)
        · exact HN.out j (by omega) hl
      clear q1 q2
      go_wp2_with fail
      go_roundw
      case rel => exact ⟨k + 1, by omega, by go_num, HN2.out, HG5.out⟩
      case measure => simp [intOf]; omega
    have y2 : decide (sa + sb ≤ za) = true := decide_eq_true q2
    by_cases q3 : za < sa
    case neg =>
      have y3 : decide (za < sa) = false := decide_eq_false q3
      have HN2 : Hid (∀ j (_hj : j < k + 1) (hl : j < L.length), clsh S.x L[j].x = false) := fun j hj hl => by
        by_cases hjk : j = k
        · subst hjk; rw [HCL.out]; exact decide_eq_false (by omega)
        · exact HN.out j (by omega) hl
      clear q1 q2 q3
      go_wp2_with fail
      go_roundw
      case rel => exact ⟨k + 1, by omega, by go_num, HN2.out, HG5.out⟩
      case measure => simp [intOf]; omega
    have y3 : decide (za < sa) = true := decide_eq_true q3
    have HE := Lib.hid (HANY.out (by rw [HCL.out]; exact decide_eq_true ⟨q1, q2, q3⟩))
    have HB5 : Hid (Below B w w4) := HBG.out _ (HGW3.out.trans HG5.out)
    clear q1 q2 q3
    go_wp2_with fail
    go_ret2
    exact stpR_bad HE.out (by decide) HB5.out
end Go.Proofs.YteaghgbpcpileaaGreatDoor
/- The contract of edit.Apply. -/
namespace Go.Proofs.YteaghgbpcpileaaGreatDoor
open Go.RowKit Go.Dw
attribute [local go_sem ↓] Go.wp_at_zero Go.wp_at_succ

/-- what Apply answers -/
def AplR (r : Edt × Nat × Int) (w : World) (e : Ending) (w' : World) : Prop :=
  Gq w w' ∧ ∃ x : EdtM, e = .returned (.tuple #[x.v, .int .i64 (r.2.1 : Int), .int .i64 r.2.2]) ∧ x.x = r.1 ∧ EdtOk w' x
theorem aplR_none {w w' : World} {r : Edt × Nat × Int} {k : Nat} {f : Int} (hr : r = (e0, k, f)) (hb : Gq w w') : AplR r w (.returned (.tuple #[.agg #[.int .i64 0, .int .i64 0, .slice none 0 0], .int .i64 (k : Int), .int .i64 f])) w' := by
  subst hr
  exact ⟨hb, ⟨0, 0, ⟨none, 0, []⟩⟩, rfl, rfl, ⟨⟨by decide, by decide⟩, ⟨by decide, by decide⟩, by simp, .inl rfl, fun c hc => by simp at hc⟩⟩
theorem builtEA : Tryz.prog.built 24 [] = some #[.int .i64 0, .int .i64 0, .slice none 0 0] := by kernel_rfl
theorem runEA (w : World) : (Instr.build 24 #[]).run Tryz.prog w = .ok (.agg #[.int .i64 0, .int .i64 0, .slice none 0 0]) w := run_build w _ _ _ builtEA
set_option maxRecDepth 100000 in
set_option maxHeartbeats 16000000 in
theorem apply_any (x : EdtM) (l : Slc StpM) (w : World) (hx : EdtOk w x) (hl : StsB 1048576 w l) :
    Calls Tryz.prog 16 #[x.v, l.v] w (AplR (applyF isNm 1000000 x.x (l.xs.map StpM.x)) w) := by
  obtain ⟨r, hr⟩ : ∃ r, applyF isNm 1000000 x.x (l.xs.map StpM.x) = r := ⟨_, rfl⟩
  obtain ⟨f, hf⟩ : ∃ f, ediF isNm 1000000 x.x = f := ⟨_, rfl⟩
  have HCK : Hid (∀ W, Gq w W → Calls Tryz.prog 20 #[x.v] W fun e w' => e = .returned (.int .i64 f) ∧ Gq W w') := fun W hW => by rw [← hf]; exact check_any x W (hx.below hW)
  have HB1 : Hid (f ≠ 0 → r = (e0, 0, f)) := fun h => by rw [← hr, ← hf] at *; unfold applyF; rw [if_pos h]
  have HB2 : Hid (f = 0 → 200 < l.xs.length → r = (e0, 0, 2)) := fun h h2 => by rw [← hr]; unfold applyF; rw [hf, if_neg (fun k => k h), if_pos (by rw [List.length_map]; exact h2)]
  have HB3 : Hid (f = 0 → l.xs.length ≤ 200 → r = applyL isNm 1000000 x.x (l.xs.map StpM.x) 0) := fun h h2 => by rw [← hr]; unfold applyF; rw [hf, if_neg (fun k => k h), if_neg (by rw [List.length_map]; omega)]
  have HFE : Hid (f = 0 → ediF isNm 1000000 x.x = 0) := fun h => by rw [hf]; exact h
  rw [hr]
  have HX := Lib.hid hx
  have HLS := Lib.hid hl
  clear hr hf hx hl
  obtain ⟨X, hX⟩ : ∃ X, x = X := ⟨_, rfl⟩
  obtain ⟨xr, xt, ⟨xA, xd, xs⟩⟩ := x
  obtain ⟨xn, hxn⟩ : ∃ xn : Nat, xs.length = xn := ⟨_, rfl⟩
  have hxv : X.v = .agg #[.int .i64 xr, .int .i64 xt, .slice xA xn xd] := by rw [← hX, ← hxn]; rfl
  have HXS : Hid (X.rate = xr ∧ X.tracks = xt ∧ X.cs = ⟨xA, xd, xs⟩ ∧ X.x = ⟨xr, xt, xs.map CliM.x⟩ ∧ xs.length = xn) := by rw [← hX]; exact ⟨rfl, rfl, rfl, rfl, hxn⟩
  rw [hX] at HCK HX HB3 HFE ⊢
  rw [hxv] at HCK ⊢
  clear hX hxn hxv
  obtain ⟨lA, lc, ls⟩ := l
  simp only [Slc.v] at HB1 HB2 HB3 HLS ⊢
  obtain ⟨ln, hln⟩ : ∃ ln : Nat, ls.length = ln := ⟨_, rfl⟩
  rw [hln] at HB2 HB3 ⊢
  have HLN := Lib.hid hln
  clear hln
  obtain ⟨wa, hwa⟩ : ∃ wa, wa = w.alloc (.cells #[.int .i64 xr, .int .i64 xt, .slice xA xn xd] 24) := ⟨_, rfl⟩
  obtain ⟨wb, hwb⟩ : ∃ wb, wb = wa.alloc (.cells #[.int .i64 0, .int .i64 0, .slice none 0 0] 24) := ⟨_, rfl⟩
  have hza : wa.heap.size = w.heap.size + 1 := by rw [hwa]; simp
  have hzb : wb.heap.size = w.heap.size + 2 := by rw [hwb]; simp; omega
  have hga : Gq w wa := by rw [hwa]; exact (Gq.refl _).alloc _
  have hgb : Gq wa wb := by rw [hwb]; exact (Gq.refl _).alloc _
  have HGB : Hid (Gq w wb) := hga.trans hgb
  have HZB : Hid (wb.heap.size = w.heap.size + 2) := hzb
  have HKA : Hid (Blk wb w.heap.size 24 [.int .i64 xr, .int .i64 xt, .slice xA xn xd]) := by
    refine blkq (?_ : Blk wa w.heap.size _ _) hgb; rw [hwa]; exact Blk.new w _ _
  have HKR : Hid (Blk wb (w.heap.size + 1) 24 [.int .i64 0, .int .i64 0, .slice none 0 0]) := by
    rw [hwb, ← hza]; exact Blk.new wa _ _
  have HST : Hid (∀ W u0 u1 u2, Blk W (w.heap.size + 1) 24 [.int .i64 0, .int .i64 0, .slice none 0 0] → Gq w W → (W.cell? ⟨w.heap.size + 1, 0, none⟩ = some (.int .i64 0) ∧ W.cell? ⟨w.heap.size + 1, 1, none⟩ = some (.int .i64 0) ∧ W.cell? ⟨w.heap.size + 1, 2, none⟩ = some (.slice none 0 0) ∧ W.frozen? ⟨w.heap.size + 1, 0, none⟩ = false ∧ W.frozen? ⟨w.heap.size + 1, 1, none⟩ = false ∧ W.frozen? ⟨w.heap.size + 1, 2, none⟩ = false) ∧ ∃ W', W' = ((W.setCell ⟨w.heap.size + 1, 0, none⟩ u0).setCell ⟨w.heap.size + 1, 1, none⟩ u1).setCell ⟨w.heap.size + 1, 2, none⟩ u2 ∧ W'.cell? ⟨w.heap.size + 1, 0, none⟩ = some u0 ∧ W'.cell? ⟨w.heap.size + 1, 1, none⟩ = some u1 ∧ W'.cell? ⟨w.heap.size + 1, 2, none⟩ = some u2 ∧ Gq w W' ∧ ∀ T, T ≠ 24 → KpT T W W') := fun W u0 u1 u2 hk hg => by
    have h1 := setN_blk [u0, u1, u2] hk rfl
    exact ⟨⟨hk.cell 0, hk.cell 1, hk.cell 2, hk.frozen 0, hk.frozen 1, hk.frozen 2⟩, _, rfl, h1.cell 0, h1.cell 1, h1.cell 2, setN_below (by omega) [u0, u1, u2] W 0 hg, fun T hT => setN_kp [u0, u1, u2] hk (fun e => hT e.symm) 0⟩
  have HE0 := Lib.hid runEA
  rw [hwa] at hwb
  have HWB := Lib.hid hwb
  have HC1 := Lib.hid (HCK.out wb HGB.out)
  have c0 : wb.cell? ⟨w.heap.size, 0, none⟩ = some (.int .i64 xr) := HKA.out.cell 0
  have c1 : wb.cell? ⟨w.heap.size, 1, none⟩ = some (.int .i64 xt) := HKA.out.cell 1
  have c2 : wb.cell? ⟨w.heap.size, 2, none⟩ = some (.slice xA xn xd) := HKA.out.cell 2
  clear hwa hwb hza hzb hga hgb HCK
  go_enter Tryz.func16, Tryz.ntmps16
  go_upto_region 1 with (fail)
  rw [← HWB.out]
  go_wp2_with fail
  refine HC1.out.mono ?_
  rintro e w2 ⟨rfl, hg2⟩
  have HG2 : Hid (Gq w w2) := HGB.out.trans hg2
  have HKA2 := Lib.hid (blkq HKA.out hg2)
  have HKR2 := Lib.hid (blkq HKR.out hg2)
  have HZ2 : Hid (w.heap.size + 2 ≤ w2.heap.size) := by have h1 := HZB.out; have h2 := Below.size hg2; show _ ≤ _; omega
  clear hg2 c0 c1 c2 HC1
  by_cases h0 : f = 0
  case neg =>
    have hfb : (f != 0) = true := by simpa using h0
    have HE := Lib.hid (HB1.out h0)
    obtain ⟨⟨k0, k1, k2, f0', f1, f2⟩, W', hW', e0', e1, e2, hge, _⟩ := HST.out w2 (.int .i64 0) (.int .i64 0) (.slice none 0 0) HKR2.out HG2.out
    have HGE := Lib.hid hge
    have HWW := Lib.hid hW'
    have hrun := HE0.out w2
    clear h0 hge hW'
    go_wp2_with fail
    rw [← HWW.out]
    exact bodyPost_ret (v := .tuple #[.agg #[.int .i64 0, .int .i64 0, .slice none 0 0], .int .i64 0, .int .i64 f]) (by simp [results, Tryz.results16, go_sem, e0', e1, e2]) rfl (aplR_none (k := 0) HE.out HGE.out)
  have hfb : (f != 0) = false := by simp [h0]
  by_cases hlr : 200 < ln
  · have HE := Lib.hid (HB2.out h0 hlr)
    have q : decide ((200 : Int) < (ln : Int)) = true := decide_eq_true (by omega)
    obtain ⟨⟨k0, k1, k2, f0', f1, f2⟩, W', hW', e0', e1, e2, hge, _⟩ := HST.out w2 (.int .i64 0) (.int .i64 0) (.slice none 0 0) HKR2.out HG2.out
    have HGE := Lib.hid hge
    have HWW := Lib.hid hW'
    have hrun := HE0.out w2
    clear h0 hge hW' hlr
    go_wp2_with fail
    rw [← HWW.out]
    exact bodyPost_ret (v := .tuple #[.agg #[.int .i64 0, .int .i64 0, .slice none 0 0], .int .i64 0, .int .i64 2]) (by simp [results, Tryz.results16, go_sem, e0', e1, e2]) rfl (aplR_none (k := 0) HE.out HGE.out)
  have q : decide ((200 : Int) < (ln : Int)) = false := decide_eq_false (by omega)
  have HLL : Hid (ln ≤ 200) := by show _ ≤ _; omega
  have HRL : Hid (r = applyL isNm 1000000 ⟨xr, xt, xs.map CliM.x⟩ (ls.map StpM.x) 0) := by
    have := HB3.out h0 HLL.out
    rw [HXS.out.2.2.2.1] at this; exact this
  have HED : Hid (ediF isNm 1000000 ⟨xr, xt, xs.map CliM.x⟩ = 0) := by rw [← HXS.out.2.2.2.1]; exact HFE.out h0
  have HXL : Hid (xn ≤ 300 ∧ ∀ y ∈ xs, y.e.xs.length ≤ 50) := by
    refine ⟨by have := (ediF_ok HED.out).l; simpa [HXS.out.2.2.2.2] using this, fun y hy => ?_⟩
    have h1 := cliF_env (ediF_cli HED.out y.x (List.mem_map_of_mem hy))
    exact (envF_ok h1).2.1
  have HOD : Hid (Calls Tryz.prog 29 #[.slice xA xn xd] w2 fun e w' => ∃ A' c', ∃ ys : List CliM, e = .returned (.slice A' ys.length c') ∧ ys.map CliM.x = xs.map CliM.x ∧ w'.ownsRow w2.heap.size 39 7 (.slice A' ys.length c') ys.length (ys.flatMap CliM.cs) ∧ (∀ y ∈ ys, CliT w' y) ∧ Gq w2 w') := by
    have h1 := HX.out.below HG2.out
    have h3 := h1.cr
    have h4 := h1.co
    rw [HXS.out.2.2.1] at h3 h4
    have := owned_any xA xd xs w2 h3 h4 (fun y hy => by have := HXL.out.2 y hy; omega) (by have := HXL.out.1; have := HXS.out.2.2.2.2; omega)
    rw [HXS.out.2.2.2.2] at this
    exact this
  clear h0 hlr HB1 HB2 HB3 HFE
  have a0 : w2.cell? ⟨w.heap.size, 0, none⟩ = some (.int .i64 xr) := HKA2.out.cell 0
  have a1 : w2.cell? ⟨w.heap.size, 1, none⟩ = some (.int .i64 xt) := HKA2.out.cell 1
  have a2 : w2.cell? ⟨w.heap.size, 2, none⟩ = some (.slice xA xn xd) := HKA2.out.cell 2
  go_wp2_with fail
  refine HOD.out.mono ?_
  rintro e w3 ⟨A3, c3, ys, rfl, hyx, hyo, hyt, hg3⟩
  have HYX := Lib.hid hyx
  have HG3 : Hid (Gq w w3) := HG2.out.trans hg3
  have HKA3 := Lib.hid (blkq HKA2.out hg3)
  have HKR3 := Lib.hid (blkq HKR2.out hg3)
  have HYO : Hid (w3.ownsRow (w.heap.size + 2) 39 7 (.slice A3 ys.length c3) ys.length (ys.flatMap CliM.cs)) := own_base hyo HZ2.out
  have HYT := Lib.hid hyt
  have HZ3 : Hid (w.heap.size + 2 ≤ w3.heap.size) := Nat.le_trans HZ2.out (Below.size hg3)
  have b2 : w3.cell? ⟨w.heap.size, 2, none⟩ = some (.slice xA xn xd) := HKA3.out.cell 2
  have bf : w3.frozen? ⟨w.heap.size, 2, none⟩ = false := HKA3.out.frozen 2
  obtain ⟨w4, hw4⟩ : ∃ w4, w4 = w3.setCell ⟨w.heap.size, 2, none⟩ (.slice A3 ys.length c3) := ⟨_, rfl⟩
  have HW4 := Lib.hid hw4
  have HI0 : Hid (∃ (A' : Option Addr) (n' c' : Nat) (M : List CliM), M.length = n' ∧ Blk w4 w.heap.size 24 [.int .i64 xr, .int .i64 xt, .slice A' n' c'] ∧ Blk w4 (w.heap.size + 1) 24 [.int .i64 0, .int .i64 0, .slice none 0 0] ∧ w4.ownsRow (w.heap.size + 2) 39 7 (.slice A' n' c') n' (M.flatMap CliM.cs) ∧ (∀ y ∈ M, CliT w4 y) ∧ Gq w w4 ∧ w.heap.size + 2 ≤ w4.heap.size ∧ ediF isNm 1000000 ⟨xr, xt, M.map CliM.x⟩ = 0 ∧ r = applyL isNm 1000000 ⟨xr, xt, M.map CliM.x⟩ ((ls.map StpM.x).drop 0) 0) := by
    rw [hw4]
    refine ⟨A3, ys.length, c3, ys, rfl, HKA3.out.set_ 2 _, blk_setO HKR3.out (by show w.heap.size + 1 ≠ w.heap.size; omega) _, own_set HYO.out (by show w.heap.size < _; omega) _, fun y hy => (HYT.out y hy).kp ((KpT.refl _ _).setCell ⟨_, _, HKA3.out⟩ (by decide)), ?_, ?_, ?_, ?_⟩
    · exact HG3.out.setCell (p := ⟨w.heap.size, 2, none⟩) (Nat.le_refl _) _
    · simp only [World.setCell, Array.size_modify]; exact HZ3.out
    · rw [HYX.out]; exact HED.out
    · rw [HYX.out, List.drop_zero]; exact HRL.out
  clear hyx hyo hyt hg3 hw4 HOD a0 a1 a2
  go_upto_region 7 with (fail)
  rw [← HW4.out]
  clear b2 bf
  have hll : ln ≤ 200 := HLL.out
  go_wp2_with fail
  go_loopw [29] (fun kv wr => ∃ k : Nat, k ≤ ln ∧ kv = .int .i64 (k : Int) ∧ Hid (∃ (A' : Option Addr) (n' c' : Nat) (M : List CliM), M.length = n' ∧ Blk wr w.heap.size 24 [.int .i64 xr, .int .i64 xt, .slice A' n' c'] ∧ Blk wr (w.heap.size + 1) 24 [.int .i64 0, .int .i64 0, .slice none 0 0] ∧ wr.ownsRow (w.heap.size + 2) 39 7 (.slice A' n' c') n' (M.flatMap CliM.cs) ∧ (∀ y ∈ M, CliT wr y) ∧ Gq w wr ∧ w.heap.size + 2 ≤ wr.heap.size ∧ ediF isNm 1000000 ⟨xr, xt, M.map CliM.x⟩ = 0 ∧ r = applyL isNm 1000000 ⟨xr, xt, M.map CliM.x⟩ ((ls.map StpM.x).drop k) k)) (fun kv _ => ln - (intOf kv).toNat)
  case atStart => exact ⟨0, Nat.zero_le _, rfl, HI0⟩
  case round =>
    obtain ⟨k, hk, rfl, HI⟩ := hrel
    obtain ⟨A', n', c', M, hml, hka, hkr, hmo, hmt, hg, hz, hed, hra⟩ := HI.out
    have HML := Lib.hid hml
    have HKA5 := Lib.hid hka
    have HKR5 := Lib.hid hkr
    have HMO := Lib.hid hmo
    have HMT := Lib.hid hmt
    have HG5 := Lib.hid hg
    have HZ5 := Lib.hid hz
    have HED5 := Lib.hid hed
    have HRA := Lib.hid hra
    have a0 : wr.cell? ⟨w.heap.size, 0, none⟩ = some (.int .i64 xr) := HKA5.out.cell 0
    have a1 : wr.cell? ⟨w.heap.size, 1, none⟩ = some (.int .i64 xt) := HKA5.out.cell 1
    have a2 : wr.cell? ⟨w.heap.size, 2, none⟩ = some (.slice A' n' c') := HKA5.out.cell 2
    clear hml hka hkr hmo hmt hg hz hed hra HI
    by_cases hlt : k < ln
    case neg =>
      have hd : decide (k < ln) = false := by simpa using hlt
      obtain ⟨⟨k0, k1, k2, f0', f1, f2⟩, W', hW', e0', e1, e2, hge, hkp⟩ := HST.out wr (.int .i64 xr) (.int .i64 xt) (.slice A' n' c') HKR5.out HG5.out
      have HWW := Lib.hid hW'
      have HFIN : Hid (AplR r w (.returned (.tuple #[.agg #[.int .i64 xr, .int .i64 xt, .slice A' n' c'], .int .i64 0, .int .i64 0])) W') := by
        have h1 := HRA.out
        rw [List.drop_eq_nil_of_le (by rw [List.length_map]; have := HLN.out; omega), applyL] at h1
        have h2 := HXS.out
        refine ⟨hge, ⟨xr, xt, ⟨A', c', M⟩⟩, ?_, ?_, ?_⟩
        · rw [h1]
          show _ = Ending.returned (.tuple #[.agg #[.int .i64 xr, .int .i64 xt, .slice A' M.length c'], .int .i64 0, .int .i64 0])
          rw [HML.out]
        · rw [h1]; rfl
        · refine ⟨by rw [← h2.1]; exact HX.out.rate, by rw [← h2.2.1]; exact HX.out.tracks, ?_, ?_, fun y hy => ((HMT.out y hy).kp (hkp _ (by decide))).1⟩
          · have := (ediF_ok HED5.out).l
            have h3 : (M.map CliM.x).length ≤ 300 := this
            rw [List.length_map] at h3
            show M.length ≤ _; omega
          · exact ((RdT.of_own HMO.out).kp (hkp _ (by decide))).rd
      clear hge hkp hW' hlt
      go_wp2_with fail
      rw [← HWW.out]
      exact bodyPost_ret (v := .tuple #[.agg #[.int .i64 xr, .int .i64 xt, .slice A' n' c'], .int .i64 0, .int .i64 0]) (by simp [results, Tryz.results16, go_sem, e0', e1, e2]) rfl HFIN.out
    have hd : decide (k < ln) = true := by simpa using hlt
    have hkl : k < ls.length := by rw [HLN.out]; exact hlt
    obtain ⟨b, off, hA, hb, hc⟩ := stp_at (HLS.out.r.below HG5.out) (by show 0 < ls.length; omega)
    obtain rfl : lA = some ⟨b, off, none⟩ := hA
    obtain ⟨d0, d1, d2, d3⟩ := hc k hkl
    have HSB : Hid (StpB 1048576 w ls[k]) := HLS.out.o _ (List.getElem_mem hkl)
    have HDR : Hid ((ls.map StpM.x).drop k = (ls[k]).x :: (ls.map StpM.x).drop (k + 1)) := by
      show _ = _
      rw [List.drop_eq_getElem_cons (by rw [List.length_map]; exact hkl), List.getElem_map]
    have HRA2 := HRA.out
    rw [HDR.out, applyL] at HRA2
    have hM3 : n' ≤ 300 := by
      have := (ediF_ok HED5.out).l
      have h3 : (M.map CliM.x).length ≤ 300 := this
      rw [List.length_map] at h3
      have := HML.out; omega
    have HAT : Hid (∀ y ∈ M, 0 ≤ y.at_ ∧ y.at_ ≤ 100000) := fun y hy => by
      have h := ((ediF_ok HED5.out).c y.x (List.mem_map_of_mem hy)).r.2.2.2.1
      exact ⟨h.1, Int.le_of_lt h.2⟩
    clear hc HDR
    generalize ls[k] = S at *
    obtain ⟨q, hq⟩ : ∃ q, stepL (M.map CliM.x) S.x = q := ⟨_, rfl⟩
    have HRQ : Hid (r = if q.2 ≠ 0 then (e0, k, q.2) else if ediF isNm 1000000 ⟨xr, xt, q.1⟩ ≠ 0 then (e0, k, ediF isNm 1000000 ⟨xr, xt, q.1⟩) else applyL isNm 1000000 ⟨xr, xt, q.1⟩ ((ls.map StpM.x).drop (k + 1)) (k + 1)) := by
      show _ = _
      rw [← hq]; exact HRA2
    obtain ⟨w5, hw5⟩ : ∃ w5, w5 = wr.alloc (.cells #[.int .i64 S.kd, .slice S.cs.a S.cs.xs.length S.cs.c, .int .i64 S.at_, .int .i64 S.by_] 60) := ⟨_, rfl⟩
    have hg5 : Gq wr w5 := by rw [hw5]; exact (Gq.refl _).alloc _
    have HK5 : Hid (Blk w5 wr.heap.size 60 [.int .i64 S.kd, .slice S.cs.a S.cs.xs.length S.cs.c, .int .i64 S.at_, .int .i64 S.by_]) := by rw [hw5]; exact Blk.new wr _ _
    have HG6 : Hid (Gq w w5) := HG5.out.trans hg5
    have HZ6 : Hid (w.heap.size + 2 ≤ w5.heap.size) := Nat.le_trans HZ5.out (Below.size hg5)
    have HKA6 := Lib.hid (blkq HKA5.out hg5)
    have HKR6 := Lib.hid (blkq HKR5.out hg5)
    have HSTP := Lib.hid (stepEd_any (w.heap.size + 2) A' n' c' M S w5 HZ6.out (own_belowL HMO.out hg5) HML.out hM3 (fun y hy => (HMT.out y hy).gq hg5) HAT.out (fun W hW => HSB.out.below (Below.trans HG6.out (Below.mono hW (by omega)))))
    rw [hq] at HSTP
    have HW5 := Lib.hid hw5
    have hsv : S.v = .agg #[.int .i64 S.kd, .slice S.cs.a S.cs.xs.length S.cs.c, .int .i64 S.at_, .int .i64 S.by_] := rfl
    rw [hsv] at HSTP
    have s0 : w5.cell? ⟨wr.heap.size, 0, none⟩ = some (.int .i64 S.kd) := HK5.out.cell 0
    have s1 : w5.cell? ⟨wr.heap.size, 1, none⟩ = some (.slice S.cs.a S.cs.xs.length S.cs.c) := HK5.out.cell 1
    have s2 : w5.cell? ⟨wr.heap.size, 2, none⟩ = some (.int .i64 S.at_) := HK5.out.cell 2
    have s3 : w5.cell? ⟨wr.heap.size, 3, none⟩ = some (.int .i64 S.by_) := HK5.out.cell 3
    clear HRA2 hq hg5 hw5 hsv a0 a1 a2
    generalize S.kd = sk at *
    generalize S.at_ = sa at *
    generalize S.by_ = sb at *
    generalize (S.cs.xs.length : Nat) = sn at *
    generalize S.cs.a = sA at *
    generalize S.cs.c = sc at *
    go_upto_region 10 with (fail)
    rw [← HW5.out]
    have a2 : w5.cell? ⟨w.heap.size, 2, none⟩ = some (.slice A' n' c') := HKA6.out.cell 2
    clear d0 d1 d2 d3
    obtain ⟨q1, q2⟩ := q
    go_wp2_with fail
    refine HSTP.out.mono ?_
    rintro e w6 ⟨hb6, A6, n6, c6, rfl, hok⟩
    simp only at hok ⊢
    have HG7 : Hid (Gq w w6) := Below.trans HG6.out (Below.mono hb6 (by omega))
    have HKA7 : Hid (Blk w6 w.heap.size 24 [.int .i64 xr, .int .i64 xt, .slice A' n' c']) := (hb6.block _ (by omega)).trans HKA6.out
    have HKR7 : Hid (Blk w6 (w.heap.size + 1) 24 [.int .i64 0, .int .i64 0, .slice none 0 0]) := (hb6.block _ (by omega)).trans HKR6.out
    have HZ7 : Hid (w.heap.size + 2 ≤ w6.heap.size) := Nat.le_trans HZ6.out hb6.size
    have HOK := Lib.hid hok
    clear hb6 hok HSTP a2 s0 s1 s2 s3
    by_cases h0 : q2 = 0
    case neg =>
      have hfq : (q2 != 0) = true := by simpa using h0
      have HE : Hid (r = (e0, k, q2)) := by
        have := HRQ.out
        rw [if_pos (show (q1, q2).2 ≠ 0 from h0)] at this; exact this
      obtain ⟨⟨k0, k1, k2, f0', f1, f2⟩, W', hW', e0', e1, e2, hge, _⟩ := HST.out w6 (.int .i64 0) (.int .i64 0) (.slice none 0 0) HKR7.out HG7.out
      have HGE := Lib.hid hge
      have HWW := Lib.hid hW'
      have hrun := HE0.out w6
      clear h0 hge hW' hlt
      go_wp2_with fail
      rw [← HWW.out]
      exact bodyPost_ret (v := .tuple #[.agg #[.int .i64 0, .int .i64 0, .slice none 0 0], .int .i64 (k : Int), .int .i64 q2]) (by simp [results, Tryz.results16, go_sem, e0', e1, e2]) rfl (aplR_none HE.out HGE.out)
    have hfq : (q2 != 0) = false := by simp [h0]
    obtain ⟨ys, hyx, hyl, hyo, hyt⟩ := HOK.out h0
    have HRQ2 : Hid (r = if ediF isNm 1000000 ⟨xr, xt, q1⟩ ≠ 0 then (e0, k, ediF isNm 1000000 ⟨xr, xt, q1⟩) else applyL isNm 1000000 ⟨xr, xt, q1⟩ ((ls.map StpM.x).drop (k + 1)) (k + 1)) := by
      have := HRQ.out
      rw [if_neg (fun h => h h0)] at this; exact this
    have b2 : w6.cell? ⟨w.heap.size, 2, none⟩ = some (.slice A' n' c') := HKA7.out.cell 2
    have bf : w6.frozen? ⟨w.heap.size, 2, none⟩ = false := HKA7.out.frozen 2
    obtain ⟨w7, hw7⟩ : ∃ w7, w7 = w6.setCell ⟨w.heap.size, 2, none⟩ (.slice A6 n6 c6) := ⟨_, rfl⟩
    have HYX := Lib.hid hyx
    have HYL := Lib.hid hyl
    have HKA8 : Hid (Blk w7 w.heap.size 24 [.int .i64 xr, .int .i64 xt, .slice A6 n6 c6]) := by rw [hw7]; exact HKA7.out.set_ 2 _
    have HKR8 : Hid (Blk w7 (w.heap.size + 1) 24 [.int .i64 0, .int .i64 0, .slice none 0 0]) := by rw [hw7]; exact blk_setO HKR7.out (by show w.heap.size + 1 ≠ w.heap.size; omega) _
    have HYO : Hid (w7.ownsRow (w.heap.size + 2) 39 7 (.slice A6 n6 c6) n6 (ys.flatMap CliM.cs)) := by rw [hw7]; exact own_set hyo (by show w.heap.size < _; omega) _
    have HYT : Hid (∀ y ∈ ys, CliT w7 y) := fun y hy => by rw [hw7]; exact (hyt y hy).kp ((KpT.refl _ _).setCell ⟨_, _, HKA7.out⟩ (by decide))
    have HG8 : Hid (Gq w w7) := by rw [hw7]; exact HG7.out.setCell (p := ⟨w.heap.size, 2, none⟩) (Nat.le_refl _) _
    have HZ8 : Hid (w.heap.size + 2 ≤ w7.heap.size) := by rw [hw7]; simp only [World.setCell, Array.size_modify]; exact HZ7.out
    obtain ⟨g, hg⟩ : ∃ g, ediF isNm 1000000 ⟨xr, xt, q1⟩ = g := ⟨_, rfl⟩
    have HQG := Lib.hid hg
    rw [hg] at HRQ2
    have HN6 : Hid (n6 ≤ 9223372036854775807) := by
      show _ ≤ _
      rcases HYO.out.2 with h | ⟨_, cap, _, _, _, _, h1, h2, _⟩
      · have := h.2; omega
      · unfold maxLen at h2; omega
    have HCK : Hid (Calls Tryz.prog 20 #[.agg #[.int .i64 xr, .int .i64 xt, .slice A6 n6 c6]] w7 fun e w' => e = .returned (.int .i64 g) ∧ Gq w7 w') := by
      have h2 := HXS.out
      have := check_any ⟨xr, xt, ⟨A6, c6, ys⟩⟩ w7 ⟨by rw [← h2.1]; exact HX.out.rate, by rw [← h2.2.1]; exact HX.out.tracks, by show ys.length ≤ _; have := HYL.out; have := HN6.out; omega, Rd.of_own HYO.out, fun y hy => (HYT.out y hy).1⟩
      rw [show (EdtM.v ⟨xr, xt, ⟨A6, c6, ys⟩⟩ : Value) = .agg #[.int .i64 xr, .int .i64 xt, .slice A6 ys.length c6] from rfl, HYL.out, show (EdtM.x ⟨xr, xt, ⟨A6, c6, ys⟩⟩ : Edt) = ⟨xr, xt, q1⟩ from by show (⟨xr, xt, ys.map CliM.x⟩ : Edt) = _; rw [HYX.out], HQG.out] at this
      exact this
    have HW7 := Lib.hid hw7
    clear hg hyx hyl hyo hyt hw7 h0 HRQ HOK
    go_upto_region 14 with (fail)
    rw [← HW7.out]
    clear b2 bf
    have a0 : w7.cell? ⟨w.heap.size, 0, none⟩ = some (.int .i64 xr) := HKA8.out.cell 0
    have a1 : w7.cell? ⟨w.heap.size, 1, none⟩ = some (.int .i64 xt) := HKA8.out.cell 1
    have a2 : w7.cell? ⟨w.heap.size, 2, none⟩ = some (.slice A6 n6 c6) := HKA8.out.cell 2
    go_wp2_with fail
    refine HCK.out.mono ?_
    rintro e w8 ⟨rfl, hg8⟩
    have HG9 : Hid (Gq w w8) := HG8.out.trans hg8
    have HKA9 := Lib.hid (blkq HKA8.out hg8)
    have HKR9 := Lib.hid (blkq HKR8.out hg8)
    have HYO9 := Lib.hid (own_belowL HYO.out hg8)
    have HYT9 : Hid (∀ y ∈ ys, CliT w8 y) := fun y hy => (HYT.out y hy).gq hg8
    have HZ9 : Hid (w.heap.size + 2 ≤ w8.heap.size) := Nat.le_trans HZ8.out (Below.size hg8)
    clear hg8 a0 a1 a2 HCK
    by_cases h1 : g = 0
    case neg =>
      have hfg : (g != 0) = true := by simpa using h1
      have HE : Hid (r = (e0, k, g)) := by
        have := HRQ2.out
        rw [if_pos h1] at this; exact this
      obtain ⟨⟨k0, k1, k2, f0', f1, f2⟩, W', hW', e0', e1, e2, hge, _⟩ := HST.out w8 (.int .i64 0) (.int .i64 0) (.slice none 0 0) HKR9.out HG9.out
      have HGE := Lib.hid hge
      have HWW := Lib.hid hW'
      have hrun := HE0.out w8
      clear h1 hge hW' hlt
      go_wp2_with fail
      rw [← HWW.out]
      exact bodyPost_ret (v := .tuple #[.agg #[.int .i64 0, .int .i64 0, .slice none 0 0], .int .i64 (k : Int), .int .i64 g]) (by simp [results, Tryz.results16, go_sem, e0', e1, e2]) rfl (aplR_none HE.out HGE.out)
    have hfg : (g != 0) = false := by simp [h1]
    have HNX : Hid (∃ (A' : Option Addr) (n' c' : Nat) (M : List CliM), M.length = n' ∧ Blk w8 w.heap.size 24 [.int .i64 xr, .int .i64 xt, .slice A' n' c'] ∧ Blk w8 (w.heap.size + 1) 24 [.int .i64 0, .int .i64 0, .slice none 0 0] ∧ w8.ownsRow (w.heap.size + 2) 39 7 (.slice A' n' c') n' (M.flatMap CliM.cs) ∧ (∀ y ∈ M, CliT w8 y) ∧ Gq w w8 ∧ w.heap.size + 2 ≤ w8.heap.size ∧ ediF isNm 1000000 ⟨xr, xt, M.map CliM.x⟩ = 0 ∧ r = applyL isNm 1000000 ⟨xr, xt, M.map CliM.x⟩ ((ls.map StpM.x).drop (k + 1)) (k + 1)) := by
      refine ⟨A6, n6, c6, ys, HYL.out, HKA9.out, HKR9.out, HYO9.out, HYT9.out, HG9.out, HZ9.out, by rw [HYX.out, HQG.out]; exact h1, ?_⟩
      have := HRQ2.out
      rw [if_neg (fun h => h h1)] at this
      rw [HYX.out]; exact this
    clear h1
    go_wp2_with fail
    go_roundw
    case rel => exact ⟨k + 1, by omega, by go_num, HNX⟩
    case measure => simp [intOf]; omega
end Go.Proofs.YteaghgbpcpileaaGreatDoor
