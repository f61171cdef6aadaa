/- The contracts of slices.Grow (at nil) and slices.Concat at []api.Mistake. -/
import Derived.Test.YtibkohnoibjimaaDoorWroS
import Derived.Lib.AppendZerosOnto
import Derived.Laws.AppendOwnNone
namespace Go.Proofs.YtibkohnoibjimaaDoor
open Go.RowKit Go.Dw

theorem zerosM_len (a : Nat) : (Builtin.zeroCells (.agg #[.int .i64 0, .string ⟨#[]⟩, .string ⟨#[]⟩] : Value).cells a).size = a * 3 := by
  simp [Builtin.zeroCells, Value.cells]
/-- an empty row of the call's own -/
def Fresh (w : World) (e : Ending) (w' : World) : Prop := ∃ v, e = .returned v ∧ w'.ownsRow w.heap.size 29 3 v 0 [] ∧ Below w.heap.size w w'
set_option maxHeartbeats 1000000 in
theorem growM_any (n : Nat) (w : World) (hn : n ≤ 1000000) :
    Calls Tryd.prog 20 #[.slice none 0 0, .int .i64 (n : Int)] w (Fresh w) := by
  by_cases h0 : n = 0
  · subst h0
    go_enter Tryd.func20, Tryd.ntmps20
    go_wp2_with fail
    go_ret
    exact ⟨_, rfl, World.ownsRow_nil _ _ _ _, Below.refl _ _⟩
  obtain ⟨ii, hii, hzi0, hzi1, hzi2⟩ := info_parts info_mis
  have hold : (Builtin.firstCells ii.size 0 (.slice none 0 0)).run Tryd.prog w.drew = .ok ([] : List Value).toArray w.drew := by
    simp [Builtin.firstCells]
  obtain ⟨G, hG⟩ : ∃ G, G = grownCap w (0 + n) 0 29 := ⟨_, rfl⟩
  obtain ⟨ZS, hZS⟩ : ∃ ZS : List Value, ZS = (Builtin.zeroCells (.agg #[.int .i64 0, .string ⟨#[]⟩, .string ⟨#[]⟩] : Value).cells n).toList ++ (Builtin.zeroCells (.agg #[.int .i64 0, .string ⟨#[]⟩, .string ⟨#[]⟩] : Value).cells (G - (0 + n))).toList := ⟨_, rfl⟩
  obtain ⟨W1, hW1⟩ : ∃ W1, W1 = w.drew.alloc (.cells ZS.toArray 29) := ⟨_, rfl⟩
  have hrz : ∀ ty, (Builtin.append_ #[23, 3] ty #[.slice none 0 0, .int .i64 (n : Int)]).run Tryd.prog w = .ok (.slice (some ⟨w.heap.size, 0, none⟩) n G) W1 := fun ty => by
    have h := Lib.run_append_grow_zeros w 23 3 ty 29 ii _ .i64 .i64 Tryd.underlying23 Tryd.underlying3 hii hzi0 none 0 0 [] hold n (by omega) (by omega) (by omega) (by omega) (by rw [hzi2]; omega) (by rw [hzi2]; exact growslice_fits (by omega) (by omega))
    rw [← hG] at h
    rw [h, hW1, hZS]
    congr 2
    · simp
    · simp
  have hGn : n ≤ G := by rw [hG]; have := grownCap_ge w (0 + n) 0 29; omega
  have hGm : G ≤ maxLen := by rw [hG]; exact grownCap_le_maxLen w (0 + n) 0 29 (by unfold maxLen; omega)
  have hZl : ZS.length = G * 3 := by
    rw [hZS, List.length_append, Array.length_toList, Array.length_toList, zerosM_len, zerosM_len]; omega
  have HOWN : Hid (W1.ownsRow w.heap.size 29 3 (.slice (some ⟨w.heap.size, 0, none⟩) 0 G) 0 []) := by
    refine ⟨rfl, .inr ⟨w.heap.size, G, ZS.toArray, rfl, Nat.le_refl _, ?_, Nat.zero_le _, hGm, by simpa using hZl, by simp⟩⟩
    rw [hW1]; exact heap_alloc_new w.drew _
  have HB : Hid (Below w.heap.size w W1) := by rw [hW1]; exact (Below.refl _ _).drew.alloc (by show w.heap.size ≤ w.heap.size; omega) _
  have HRZ := Lib.hid hrz
  have hw1 : IntKind.i64.wrap ((n : Int) - 0) = (n : Int) := by rw [Int.sub_zero]; exact IntWalk.i64_in _ (by omega)
  have hn0 : (0 : Int) < (n : Int) := by omega
  have hn1 : 0 < n := by omega
  have hG63 : (G : Int) ≤ 9223372036854775807 := by unfold maxLen at hGm; omega
  clear h0 hii hzi0 hzi1 hzi2 hold hG hZS hW1 hrz hZl hGm
  go_enter Tryd.func20, Tryd.ntmps20
  go_wp2_with (at_builtin; refine Lib.wpList_append_run _ rfl _ _ _ _ rfl _ _ rfl rfl _ _ (HRZ.out _) ?_)
  go_ret
  exact ⟨_, rfl, HOWN.out, HB.out⟩
/-- lists of mistakes at rows of the call's own -/
def Pts (w : World) (P : List (Slc Mis)) : Prop := ∀ s ∈ P, ∃ base, w.ownsRow base 29 3 s.v s.xs.length (s.xs.flatMap Mis.cs)
theorem Pts.below {w w' : World} {P : List (Slc Mis)} (h : Pts w P) (hb : Below w.heap.size w w') : Pts w' P := fun s hs => by
  obtain ⟨b, hb2⟩ := h s hs; exact ⟨b, own_belowL hb2 hb⟩
def lenP (P : List (Slc Mis)) (k : Nat) : Nat := ((P.take k).flatMap Slc.xs).length
def CatPost (w : World) (l : List Mis) (e : Ending) (w' : World) : Prop := ∃ v, e = .returned v ∧ w'.ownsRow w.heap.size 29 3 v l.length (l.flatMap Mis.cs) ∧ Below w.heap.size w w'
theorem lenP_succ (P : List (Slc Mis)) (k : Nat) (h : k < P.length) : lenP P (k + 1) = lenP P k + P[k].xs.length := by
  unfold lenP; rw [List.take_succ_eq_append_getElem h, List.flatMap_append]; simp
theorem flatP_succ (P : List (Slc Mis)) (k : Nat) (h : k < P.length) : (P.take (k + 1)).flatMap Slc.xs = (P.take k).flatMap Slc.xs ++ P[k].xs := by
  rw [List.take_succ_eq_append_getElem h, List.flatMap_append]; simp
theorem lenP_le (P : List (Slc Mis)) (k : Nat) : lenP P k ≤ (P.flatMap Slc.xs).length := by
  unfold lenP
  have : P.flatMap Slc.xs = (P.take k).flatMap Slc.xs ++ (P.drop k).flatMap Slc.xs := by rw [← List.flatMap_append, List.take_append_drop]
  rw [this, List.length_append]; omega
set_option maxHeartbeats 2000000 in
theorem concat_any (g n c : Nat) (P : List (Slc Mis)) (w : World) (hr : Blk w g 23 (P.map Slc.v)) (hp : Pts w P) (hn : n = P.length) (hl : (P.flatMap Slc.xs).length ≤ 100000) (hP : P.length ≤ 1000) :
    Calls Tryd.prog 13 #[.slice (some ⟨g, 0, none⟩) n c] w (CatPost w (P.flatMap Slc.xs)) := by
  subst hn
  have HR := Lib.hid hr
  have HP := Lib.hid hp
  have hgl := hr.lt
  have HLE := Lib.hid (lenP_le P)
  obtain ⟨ii, hii, hzi0, hzi1, hzi2⟩ := info_parts info_mis
  have HII := Lib.hid (And.intro hii (And.intro hzi0 (And.intro hzi1 hzi2)))
  clear hr hp hii hzi0 hzi1 hzi2
  go_enter Tryd.func13, Tryd.ntmps13
  go_wp2_with fail
  go_loop [3, 11] (fun sv kv => ∃ k m : Nat, k ≤ P.length ∧ kv = .int .i64 (k : Int) ∧ sv = .int .i64 (m : Int) ∧ Hid (m = lenP P k) ∧ m ≤ 100000) (fun _ kv => P.length - (intOf kv).toNat)
  case atStart => exact ⟨0, 0, Nat.zero_le _, rfl, rfl, rfl, by omega⟩
  case round =>
    obtain ⟨k, m, hk, rfl, rfl, HM, hm⟩ := hrel
    by_cases hlt : k < P.length
    · have hd1 : decide (k < P.length) = true := by simpa using hlt
      have ck : w.cell? ⟨g, k, none⟩ = some P[k].v := by rw [HR.out.cell k]; simp [hlt]
      have hls := lenP_succ P k hlt
      have hle := HLE.out (k + 1)
      rw [← HM.out] at hls
      have HLS := Lib.hid hls
      obtain ⟨m2, hm2e⟩ : ∃ m2, m2 = lenP P (k + 1) := ⟨_, rfl⟩
      have HM2 := Lib.hid hm2e
      rw [← hm2e] at hls hle HLS
      clear hm2e
      generalize P[k] = s at *
      obtain ⟨a, sc, xs⟩ := s
      simp only [Slc.v] at ck
      simp only at HLS hls
      have hmm : (m : Int) + (xs.length : Int) ≤ 100000 := by omega
      have hm2 : m2 ≤ 100000 := by omega
      have hmn : ¬ (m : Int) + (xs.length : Int) < 0 := by omega
      clear hls
      go_wp2_with fail
      go_round
      case rel => exact ⟨k + 1, m2, by omega, by go_num, by rw [HLS.out]; go_num, HM2, hm2⟩
      case measure => simp [intOf]; omega
    have hd1 : decide (k < P.length) = false := by simpa using hlt
    clear HM hlt hk
    go_wp2_with fail
    refine (growM_any m w (by omega)).mono ?_
    rintro e w1 ⟨v1, rfl, hown1, hb1⟩
    have HO1 := Lib.hid hown1
    have HB1 := Lib.hid hb1
    clear hown1 hb1
    go_wp2_with fail
    go_loopw [6, 27] (fun v kv wr => ∃ (k : Nat) (l : List Mis), k ≤ P.length ∧ kv = .int .i64 (k : Int) ∧ l.length ≤ 100000 ∧ Hid (l = (P.take k).flatMap Slc.xs) ∧ Hid (wr.ownsRow w.heap.size 29 3 v l.length (l.flatMap Mis.cs)) ∧ Hid (Below w.heap.size w wr)) (fun _ kv _ => P.length - (intOf kv).toNat)
    case atStart => exact ⟨0, [], Nat.zero_le _, rfl, by simp, rfl, HO1.out, HB1⟩
    case round =>
      clear HO1 HB1
      obtain ⟨k, l, hk, rfl, hl2, HL, HO, HB⟩ := hrel
      obtain ⟨A2, c2, rfl⟩ := slice_of_own HO.out
      by_cases hlt : k < P.length
      case neg =>
        have hd1 : decide (k < P.length) = false := by simpa using hlt
        have HE : Hid (CatPost w (P.flatMap Slc.xs) (.returned (.slice A2 l.length c2)) wr) := by
          refine ⟨_, rfl, ?_, HB.out⟩
          have h1 := HL.out
          rw [List.take_of_length_le (by omega)] at h1
          rw [← h1]; exact HO.out
        go_wp2_with fail
        go_ret
        exact HE.out
      have hd1 : decide (k < P.length) = true := by simpa using hlt
      have ck : wr.cell? ⟨g, k, none⟩ = some P[k].v := by rw [HB.out.cell (by exact hgl), HR.out.cell k]; simp [hlt]
      have HFS := Lib.hid (flatP_succ P k hlt)
      have hle := HLE.out (k + 1)
      obtain ⟨bs, hos⟩ := HP.out P[k] (List.getElem_mem hlt)
      have HOS := Lib.hid (own_belowL hos HB.out)
      have hlk : l.length + P[k].xs.length ≤ 100000 := by
        have h1 := lenP_succ P k hlt
        have h2 : lenP P k = l.length := by unfold lenP; rw [← HL.out]
        omega
      have HNX : Hid (l ++ P[k].xs = (P.take (k + 1)).flatMap Slc.xs) := by show _ = _; rw [HFS.out, ← HL.out]
      have hszr := HB.out.size
      clear hos hle HFS
      generalize P[k] = s at *
      obtain ⟨a, sc, xs⟩ := s
      simp only [Slc.v] at ck HOS
      simp only at hlk HNX
      rcases HOS.out.2 with ⟨hv, hx0⟩ | ⟨gs, cap, cur, hv, hbs, hgs, _⟩
      · injection hv with e1 e2 e3
        subst e1 e3
        have hxs : xs = [] := List.eq_nil_of_length_eq_zero hx0
        subst hxs
        rw [List.append_nil] at HNX
        have HO2 := HO
        go_wp2_with (at_builtin; refine wpList_append_own_none rfl _ _ 23 rfl w.heap.size 29 ii 3 Tryd.underlying23 HII.out.1 _ _ _ rfl HO.out rfl ?_)
        go_roundw
        case rel => exact ⟨k + 1, l, by omega, by go_num, hl2, HNX, HO, HB⟩
        case measure => simp [intOf]; omega
      · injection hv with e1 e2 e3
        subst e1 e3
        have HNW : Hid (∀ j u, (xs.flatMap Mis.cs)[j]? = some u → wr.cell? ((⟨gs, 0, none⟩ : Addr).add j) = some u) := fun j u hu => HOS.out.cells rfl j u hu
        have HONE : Hid (∀ u ∈ xs.flatMap Mis.cs, u.oneCell' = true) := fun u hu => by
          obtain ⟨x, _, hx⟩ := List.mem_flatMap.1 hu; simp [Mis.cs] at hx; rcases hx with rfl | rfl | rfl <;> rfl
        have HXL : Hid ((xs.flatMap Mis.cs).length = xs.length * 3) := flat_len Mis.cs 3 (fun _ => rfl) xs
        clear hgs hbs
        go_wp2_with (at_builtin; refine wpList_append_own _ rfl _ _ 23 rfl w.heap.size 29 ii _ 3 40 Tryd.underlying23 HII.out.1 HII.out.2.1 HII.out.2.2.1 HII.out.2.2.2 rfl (by decide) _ _ _ rfl HO.out ⟨gs, 0, none⟩ xs.length sc (xs.flatMap Mis.cs) (by rfl) HXL.out HNW.out HONE.out (by unfold maxLen; omega) (by omega) (by omega) ?_; intro v2 w2 hown2 hgrow2 _)
        have HO2 : Hid (w2.ownsRow w.heap.size 29 3 v2 (l ++ xs).length ((l ++ xs).flatMap Mis.cs)) := by
          show World.ownsRow _ _ _ _ _ _ _
          rw [List.length_append, List.flatMap_append]; exact hown2
        have HB2 : Hid (Below w.heap.size w w2) := HB.out.grown hgrow2 hszr (fun q hq => (HO.out.lt q hq).1)
        have hl3 : (l ++ xs).length ≤ 100000 := by simp; omega
        generalize l ++ xs = l2 at *
        clear hown2 hgrow2 ck
        go_wp2_with fail
        go_roundw
        case rel => exact ⟨k + 1, l2, by omega, by go_num, hl3, HNX, HO2, HB2⟩
        case measure => simp [intOf]; omega
end Go.Proofs.YtibkohnoibjimaaDoor
