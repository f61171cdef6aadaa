/- The contract of slices.Insert at api.Claim: one value put into a row of the call's own. -/
import Derived.Test.YtnlnaglaipjlfaaGreatDoorInsK
import Derived.Test.YtnlnaglaipjlfaaGreatDoorProg
import Derived.Deep.RegionLaw
namespace Go.Proofs.YtnlnaglaipjlfaaGreatDoor
open Go.RowKit Go.Dw

theorem info_Clm : (Tryz.prog.info? 49).map (fun i => (i.zero, i.size, i.bytes)) = some (some (.agg #[.string ⟨#[]⟩, .string ⟨#[]⟩, .bool false]), 3, 40) := by kernel_rfl
/-- what an insertion leaves -/
def InsClm (w0 w : World) (B base n : Nat) (row : Option Nat) (xs : List Value) (e : Ending) (w' : World) : Prop :=
  ∃ v', e = .returned v' ∧ w'.ownsRow base 49 3 v' n xs ∧ Below B w0 w' ∧ ∀ j, j < w.heap.size → row ≠ some j → w'.heap[j]? = w.heap[j]?
section
variable (w0 w : World) (B base n g c vb : Nat) (xs es : List Value)
set_option maxHeartbeats 1000000 in
theorem insEnd_Clm (v : Value) (hb : Below B w0 w) (hB : B ≤ base) (hbase : base ≤ w.heap.size) (hown : w.ownsRow base 49 3 v n xs) (hv : w.heap[vb]? = some (.cells es.toArray 49 (0, 0)))
    (hl : es.length = 3) (h1 : ∀ u ∈ es, u.oneCell' = true) (hn : (n + 1) * 40 ≤ 140737488355328) :
    Calls Tryz.prog 29 #[v, .int .i64 (n : Int), .slice (some ⟨vb, 0, none⟩) 1 1] w (InsClm w0 w B base (n + 1) v.ownBlock (xs ++ es)) := by
  obtain ⟨ii, hii, hzi0, hzi1, hzi2⟩ := info_parts info_Clm
  have HOWN := Lib.hid hown
  have HNEW := Lib.hid (World.news_of_block (cs := es.toArray) (t := 49) (fr := (0, 0)) hv)
  have HB := Lib.hid hb
  have HII := Lib.hid (And.intro hii (And.intro hzi0 (And.intro hzi1 hzi2)))
  have HL := Lib.hid hl
  clear hv hb hii hzi0 hzi1 hzi2 hl
  rcases hown.2 with ⟨rfl, rfl⟩ | ⟨g, cap, cur, rfl, h2, h3, h4, h5, _⟩
  · clear hown
    go_enter Tryz.func29, Tryz.ntmps29
    go_wp2_with (at_builtin; refine wpList_append_own _ rfl _ _ 23 rfl base 49 ii _ 3 40 Tryz.underlying23 HII.out.1 HII.out.2.1 HII.out.2.2.1 HII.out.2.2.2 rfl (by decide) _ _ _ rfl HOWN.out ⟨vb, 0, none⟩ 1 1 es rfl (by rw [HL.out]) (by simpa using HNEW.out) h1 (by unfold maxLen; omega) (by omega) hbase ?_; intro v1 w1 hown1 hgrow1 _)
    have hB1 := Lib.hid (HB.out.grown hgrow1 (Nat.le_trans hB hbase) (fun k hk => Nat.le_trans hB (HOWN.out.lt k hk).1))
    have hO1 := Lib.hid hown1
    have HJ := Lib.hid hgrow1.block
    clear hown1 hgrow1
    go_wp2_with fail
    go_ret
    exact ⟨_, rfl, hO1.out, hB1.out, fun j hj hne => HJ.out j hj (fun e => hne e.symm)⟩
  · unfold maxLen at h5
    by_cases hcn : cap = n
    · subst hcn
      clear hown h2 h3
      go_enter Tryz.func29, Tryz.ntmps29
      go_wp2_with (at_builtin; refine wpList_append_own _ rfl _ _ 23 rfl base 49 ii _ 3 40 Tryz.underlying23 HII.out.1 HII.out.2.1 HII.out.2.2.1 HII.out.2.2.2 rfl (by decide) _ _ _ rfl HOWN.out ⟨vb, 0, none⟩ 1 1 es rfl (by rw [HL.out]) (by simpa using HNEW.out) h1 (by unfold maxLen; omega) (by omega) hbase ?_; intro v1 w1 hown1 hgrow1 _)
      have hB1 := Lib.hid (HB.out.grown hgrow1 (Nat.le_trans hB hbase) (fun k hk => Nat.le_trans hB (HOWN.out.lt k hk).1))
      have hO1 := Lib.hid hown1
      have HJ := Lib.hid hgrow1.block
      clear hown1 hgrow1
      go_wp2_with fail
      go_ret
      exact ⟨_, rfl, hO1.out, hB1.out, fun j hj hne => HJ.out j hj (fun e => hne e.symm)⟩
    · clear hown h2 h3
      go_enter Tryz.func29, Tryz.ntmps29
      go_wp2_with (at_builtin; refine wpList_append_own _ rfl _ _ 23 rfl base 49 ii _ 3 40 Tryz.underlying23 HII.out.1 HII.out.2.1 HII.out.2.2.1 HII.out.2.2.2 rfl (by decide) _ _ _ rfl HOWN.out ⟨vb, 0, none⟩ 1 1 es rfl (by rw [HL.out]) (by simpa using HNEW.out) h1 (by unfold maxLen; omega) (by omega) hbase ?_; intro v1 w1 hown1 hgrow1 _)
      have hB1 := Lib.hid (HB.out.grown hgrow1 (Nat.le_trans hB hbase) (fun k hk => Nat.le_trans hB (HOWN.out.lt k hk).1))
      have hO1 := Lib.hid hown1
      have HJ := Lib.hid hgrow1.block
      clear hown1 hgrow1
      go_wp2_with fail
      go_ret
      exact ⟨_, rfl, hO1.out, hB1.out, fun j hj hne => HJ.out j hj (fun e => hne e.symm)⟩
set_option maxRecDepth 100000 in
set_option maxHeartbeats 2000000 in
theorem insShift_Clm (i cap : Nat) (cur : Array Value) (hb : Below B w0 w) (hB : B ≤ g) (hgb : base ≤ g) (hg : w.heap[g]? = some (.cells cur 49 (0, 0))) (hcs : cur.size = cap * 3) (hcx : cur.toList.take (n * 3) = xs) (hv : w.heap[vb]? = some (.cells es.toArray 49 (0, 0)))
    (hvg : vb ≠ g) (hl : es.length = 3) (h1 : ∀ u ∈ es, u.oneCell' = true) (h1x : ∀ u ∈ xs, u.oneCell' = true) (hi : i < n) (hroom : n + 1 ≤ cap) (hcm : cap ≤ maxLen) :
    Calls Tryz.prog 29 #[.slice (some ⟨g, 0, none⟩) n cap, .int .i64 (i : Int), .slice (some ⟨vb, 0, none⟩) 1 1] w (InsClm w0 w B base (n + 1) (some g) (xs.take (i * 3) ++ es ++ xs.drop (i * 3))) := by
  have hcm2 := hcm
  unfold maxLen at hcm2
  obtain ⟨ii, hii, hzi0, hzi1, hzi2⟩ := info_parts info_Clm
  have hsz : (Tryz.prog.info? 49).map (·.size) = some 3 := by rw [hii]; simp [hzi1]
  have hov : ∀ (o lb cb : Nat), (callFunc 50 #[.slice (some ⟨vb, 0, none⟩) 1 1, .slice (some ⟨g, o, none⟩) lb cb]).run Tryz.prog w = .ok (.value (.bool false)) w := fun o lb cb => by
    rw [run_callFunc_extern Tryz.func50 (by kernel_rfl) (by kernel_rfl) (by kernel_rfl) (e := Extern.SlicesOverlaps.overlaps #[23, 23] #[4]) (by kernel_rfl),
      Lib.run_overlaps_apart w 23 4 49 Tryz.underlying23 3 Tryz.sizeOf49 ⟨vb, 0, none⟩ ⟨g, o, none⟩ 1 1 lb cb hvg 49 49 es.toArray.size cur.size (by simp [World.shape?, hv]) (by simp [World.shape?, hg]) (by omega) (by simp [World.frozen?, hv]) (by simp [World.frozen?, hv])]
    rfl
  have hw1 : IntKind.i64.wrap ((i : Int) + 1) = (i : Int) + 1 := IntWalk.i64_in _ (by omega)
  have hb1 : (0 : Int) ≤ (i : Int) + 1 := by omega
  have htn : ((i : Int) + 1).toNat = i + 1 := by omega
  have hb2 : ¬ (cap = i + 1) := by omega
  have hin : i ≤ n := by omega
  have hb3 : (i : Int) ≤ (n : Int) + 1 := by omega
  have hb4 : ¬ (cap = i) := by omega
  have hz2 : ¬ ((i : Int) = (n : Int)) := by omega
  have HG := Lib.hid hg
  have HV := Lib.hid hv
  have HX := Lib.hid (And.intro hcs hcx)
  have HB := Lib.hid hb
  have HL := Lib.hid hl
  have HSZ := Lib.hid hsz
  clear hii hzi0 hzi1 hzi2 hg hv hcs hcx hb hl hsz
  go_enter Tryz.func29, Tryz.ntmps29
  go_wp2_with (simp only [hov])
  have hx := HX.out
  have hxl : xs.length = n * 3 := by rw [← hx.2, List.length_take, Array.length_toList, hx.1]; omega
  have hdl : (xs.drop (i * 3)).length = (n - i) * 3 := by rw [List.length_drop, hxl]; omega
  have hsx : ∀ j v, (xs.drop (i * 3))[j]? = some v → w.cell? ((⟨g, i * 3, none⟩ : Addr).add j) = some v := fun j v hj => by
    rw [add_lit]
    rw [List.getElem?_drop, ← hx.2] at hj
    refine cell_at_row (cur := cur.toList) (by simpa using HG.out) ?_
    rw [List.getElem?_take] at hj
    split at hj
    · exact hj
    · cases hj
  have HSX := Lib.hid hsx
  have HDL := Lib.hid hdl
  have HXL := Lib.hid hxl
  clear hx hxl hdl hsx
  go_region_law (refine step_copy_spliceK rfl (.tmp 73) (.tmp 76) 23 23 rfl 49 Tryz.underlying23 3 HSZ.out ⟨g, i * 3, none⟩ (n - i) (cap - (i + 1)) (n + 1 - i) (cap - i) g ((i + 1) * 3) (by simp [Act.eval, Act.put]) (by simp [Act.eval, Act.put]) cur.toList 49 (by show w.heap[g]? = _; simpa using HG.out) (xs.drop (i * 3)) (n - i) (by simp only [Nat.min_def]; split <;> omega) HDL.out HSX.out (by rw [HDL.out, Array.length_toList, HX.out.1]; omega) (fun v hv => h1x v (List.mem_of_mem_drop hv)) B w0 (by exact HB.out.drew) hB ?_; intro w1 HG1 HO1 hb1)
  have HB1 := Lib.hid hb1
  have HSV : Hid (∀ j v, es[j]? = some v → w1.cell? ((⟨vb, 0, none⟩ : Addr).add j) = some v) := fun j v hj => by
    rw [add_lit, Nat.zero_add]
    exact cell_at_row (cur := es) (by rw [HO1.out vb hvg]; exact HV.out) hj
  clear hb1
  go_wp2_with (refine wpList_copy_spliceK rfl (.tmp 80) (.tmp 81) 23 23 rfl 49 Tryz.underlying23 3 HSZ.out ⟨vb, 0, none⟩ (n + 1 - i) (cap - i) 1 1 g (i * 3) (by rfl) (by rfl) (splice cur.toList ((i + 1) * 3) (xs.drop (i * 3))) 49 HG1.out es 1 (by simp only [Nat.min_def]; split <;> omega) (by rw [HL.out]) HSV.out (by rw [length_splice _ _ _ (by rw [HDL.out, Array.length_toList, HX.out.1]; omega), HL.out, Array.length_toList, HX.out.1]; omega) h1 B w0 HB1.out hB ?_; intro w2 HG2 HO2 hb2)
  have HB2 := Lib.hid hb2
  clear hb2
  go_wp2_with fail
  go_ret
  refine ⟨_, rfl, ⟨?_, .inr ⟨g, cap, _, rfl, hgb, HG2.out, hroom, hcm, ?_, ?_⟩⟩, HB2.out, fun j _ hne => (HO2.out j (fun e => hne (by rw [e]))).trans (HO1.out j (fun e => hne (by rw [e])))⟩
  · rw [List.length_append, List.length_append, List.length_take, HDL.out, HXL.out, HL.out]; omega
  · simp only [List.size_toArray]
    rw [length_splice _ _ _ (by rw [length_splice _ _ _ (by rw [HDL.out, Array.length_toList, HX.out.1]; omega), HL.out, Array.length_toList, HX.out.1]; omega), length_splice _ _ _ (by rw [HDL.out, Array.length_toList, HX.out.1]; omega), Array.length_toList, HX.out.1]
  · exact ins_row (by omega) HX.out.2 (by rw [Array.length_toList, HX.out.1]; omega) HL.out
theorem zeros_len_Clm (a : Nat) : (Builtin.zeroCells (.agg #[.string ⟨#[]⟩, .string ⟨#[]⟩, .bool false] : Value).cells a).size = a * 3 := by
  simp [Builtin.zeroCells, Value.cells]
set_option maxRecDepth 100000 in
set_option maxHeartbeats 2000000 in
theorem insGrow_Clm (i : Nat) (cur : Array Value) (hb : Below B w0 w) (hB : B ≤ base) (hbase : base ≤ w.heap.size) (hg : w.heap[g]? = some (.cells cur 49 (0, 0))) (hcs : cur.size = n * 3) (hcx : cur.toList.take (n * 3) = xs) (hv : w.heap[vb]? = some (.cells es.toArray 49 (0, 0)))
    (hl : es.length = 3) (h1 : ∀ u ∈ es, u.oneCell' = true) (h1x : ∀ u ∈ xs, u.oneCell' = true) (hi : i < n) (hn : (n + 1) * 40 ≤ 140737488355328) :
    Calls Tryz.prog 29 #[.slice (some ⟨g, 0, none⟩) n n, .int .i64 (i : Int), .slice (some ⟨vb, 0, none⟩) 1 1] w (InsClm w0 w B base (n + 1) (some g) (xs.take (i * 3) ++ es ++ xs.drop (i * 3))) := by
  obtain ⟨ii, hii, hzi0, hzi1, hzi2⟩ := info_parts info_Clm
  have hsz : (Tryz.prog.info? 49).map (·.size) = some 3 := by rw [hii]; simp [hzi1]
  have hgs : g < w.heap.size := (Array.getElem?_eq_some_iff.1 hg).1
  have hvs : vb < w.heap.size := (Array.getElem?_eq_some_iff.1 hv).1
  have hxl : xs.length = n * 3 := by rw [← hcx, List.length_take, Array.length_toList, hcs]; omega
  have hcell : ∀ j v, xs[j]? = some v → w.cell? ⟨g, j, none⟩ = some v := fun j v hj => by
    rw [← hcx] at hj
    refine cell_at_row (cur := cur.toList) (by simpa using hg) ?_
    rw [List.getElem?_take] at hj
    split at hj
    · exact hj
    · cases hj
  have hold : (Builtin.firstCells ii.size i (.slice (some ⟨g, 0, none⟩) i n)).run Tryz.prog w.drew = .ok (xs.take (i * 3)).toArray w.drew := by
    rw [hzi1]
    exact run_firstCells_some w.drew 3 i ⟨g, 0, none⟩ i n (xs.take (i * 3)) (by rw [List.length_take]; omega) (fun j v hj => by
      rw [add_lit, Nat.zero_add]
      rw [List.getElem?_take] at hj
      split at hj
      · exact hcell j v hj
      · cases hj)
  have hkk : (n : Int) + 1 - (i : Int) = ((n + 1 - i : Nat) : Int) := by omega
  have hik : i + (n + 1 - i) = n + 1 := by omega
  obtain ⟨G, hG⟩ : ∃ G, G = grownCap w (n + 1) n 49 := ⟨_, rfl⟩
  obtain ⟨ZS, hZS⟩ : ∃ ZS : List Value, ZS = (Builtin.zeroCells (.agg #[.string ⟨#[]⟩, .string ⟨#[]⟩, .bool false] : Value).cells (n + 1 - i)).toList ++ (Builtin.zeroCells (.agg #[.string ⟨#[]⟩, .string ⟨#[]⟩, .bool false] : Value).cells (G - (n + 1))).toList := ⟨_, rfl⟩
  obtain ⟨W1, hW1⟩ : ∃ W1, W1 = w.drew.alloc (.cells (xs.take (i * 3) ++ ZS).toArray 49) := ⟨_, rfl⟩
  have hrz : ∀ ty, (Builtin.append_ #[23, 3] ty #[.slice (some ⟨g, 0, none⟩) i n, .int .i64 ((n : Int) + 1 - (i : Int))]).run Tryz.prog w = .ok (.slice (some ⟨w.heap.size, 0, none⟩) (n + 1) G) W1 := fun ty => by
    have h := Lib.run_append_grow_zeros w 23 3 ty 49 ii _ .i64 .i64 Tryz.underlying23 Tryz.underlying3 hii hzi0 (some ⟨g, 0, none⟩) i n (xs.take (i * 3)) hold (n + 1 - i) (by omega) (by omega) (by omega) (by omega) (by rw [hzi2]; omega) (by rw [hzi2, hik]; exact growslice_fits (by omega) hn)
    rw [hik, ← hG] at h
    rw [hkk, h, hW1, hZS, toArr3]
  have hGn : n + 1 ≤ G := by rw [hG]; exact grownCap_ge w _ _ _
  have hGm : G ≤ maxLen := by rw [hG]; exact grownCap_le_maxLen w (n + 1) n 49 (by unfold maxLen; omega)
  have hZl : ZS.length = (n + 1) * 3 - i * 3 + (G - (n + 1)) * 3 := by
    rw [hZS, List.length_append, Array.length_toList, Array.length_toList, zeros_len_Clm, zeros_len_Clm]; omega
  have hN : W1.heap[w.heap.size]? = some (.cells (xs.take (i * 3) ++ ZS).toArray 49 (0, 0)) := by rw [hW1]; exact heap_alloc_new w.drew _
  have hO : ∀ j, j < w.heap.size → W1.heap[j]? = w.heap[j]? := fun j hj => by
    rw [hW1]
    exact ((Below.refl w.heap.size w).drew.alloc (Nat.le_refl _) _).block j hj
  have hB1 : Below B w0 W1 := by rw [hW1]; exact hb.drew.alloc (by show B ≤ w.heap.size; omega) _
  have HSV : Hid (∀ j v, es[j]? = some v → W1.cell? ((⟨vb, 0, none⟩ : Addr).add j) = some v) := fun j v hj => by
    rw [add_lit, Nat.zero_add]
    exact cell_at_row (cur := es) (by rw [hO vb hvs]; exact hv) hj
  have HSX : Hid (∀ W : World, W.heap[g]? = W1.heap[g]? → ∀ j v, (xs.drop (i * 3))[j]? = some v → W.cell? ((⟨g, i * 3, none⟩ : Addr).add j) = some v) := fun W hW j v hj => by
    rw [add_lit, World.cell?_of_block (w := w) (by rw [hW, hO g hgs])]
    exact hcell _ _ (by rwa [List.getElem?_drop] at hj)
  have hG63 : G ≤ 9223372036854775807 := by unfold maxLen at hGm; omega
  have hGi : ¬ (G = i) := by omega
  have hGim : ¬ (G = i + 1) := by omega
  have hci : ¬ (n = i) := by omega
  have hw1 : IntKind.i64.wrap ((i : Int) + 1) = (i : Int) + 1 := IntWalk.i64_in _ (by omega)
  have hb1 : (0 : Int) ≤ (i : Int) + 1 := by omega
  have htn : ((i : Int) + 1).toNat = i + 1 := by omega
  have hin : i ≤ n := by omega
  have hb3 : (i : Int) ≤ (n : Int) + 1 := by omega
  have hz2 : ¬ ((i : Int) = (n : Int)) := by omega
  have hdl : (xs.drop (i * 3)).length = (n - i) * 3 := by rw [List.length_drop, hxl]; omega
  have hng : g ≠ w.heap.size := by omega
  have HRZ := Lib.hid hrz
  have HOO := Lib.hid hO
  have HN := Lib.hid hN
  have HB1 := Lib.hid hB1
  have HL := Lib.hid hl
  have HSZ := Lib.hid hsz
  have HDL := Lib.hid hdl
  have HXL := Lib.hid hxl
  have HZL := Lib.hid hZl
  clear hii hzi0 hzi1 hzi2 hg hv hcs hcx hb hl hsz hgs hvs hxl hcell hold hkk hik hG hZS hW1 hrz hZl hN hO hB1 hdl
  go_enter Tryz.func29, Tryz.ntmps29
  go_wp2_with (first
    | (at_builtin; refine Lib.wpList_append_run _ rfl _ _ _ _ rfl _ _ rfl rfl _ _ (HRZ.out _) ?_)
    | (refine wpList_copy_spliceK rfl (.tmp 43) (.tmp 44) 23 23 rfl 49 Tryz.underlying23 3 HSZ.out ⟨vb, 0, none⟩ (n + 1 - i) (G - i) 1 1 w.heap.size (i * 3) (by rfl) (by rfl) (xs.take (i * 3) ++ ZS) 49 HN.out es 1 (by simp only [Nat.min_def]; split <;> omega) (by rw [HL.out]) HSV.out (by rw [List.length_append, List.length_take, HXL.out, HZL.out, HL.out]; omega) h1 B w0 HB1.out (Nat.le_trans hB hbase) ?_; intro w1 HG1 HO1 hb1))
  have HB2 := Lib.hid hb1
  have HSX2 := Lib.hid (HSX.out w1.drew (HO1.out g hng))
  clear hb1
  go_region_law (refine step_copy_spliceK rfl (.tmp 50) (.tmp 53) 23 23 rfl 49 Tryz.underlying23 3 HSZ.out ⟨g, i * 3, none⟩ (n - i) (G - (i + 1)) (n - i) (n - i) w.heap.size ((i + 1) * 3) (by simp [Act.eval, Act.put]) (by simp [Act.eval, Act.put]) (splice (xs.take (i * 3) ++ ZS) (i * 3) es) 49 (by exact HG1.out) (xs.drop (i * 3)) (n - i) (by simp only [Nat.min_def]; split <;> omega) HDL.out HSX2.out (by rw [length_splice _ _ _ (by rw [List.length_append, List.length_take, HXL.out, HZL.out, HL.out]; omega), HDL.out, List.length_append, List.length_take, HXL.out, HZL.out]; omega) (fun v hv => h1x v (List.mem_of_mem_drop hv)) B w0 (by exact HB2.out.drew) (Nat.le_trans hB hbase) ?_; intro w2 HG2 HO2 hb2)
  have HB3 := Lib.hid hb2
  clear hb2
  go_wp2_with fail
  go_ret
  refine ⟨_, rfl, ⟨?_, .inr ⟨w.heap.size, G, _, rfl, hbase, HG2.out, hGn, hGm, ?_, ?_⟩⟩, HB3.out, fun j hj _ => ((HO2.out j (by omega)).trans (HO1.out j (by omega))).trans (HOO.out j hj)⟩
  · rw [List.length_append, List.length_append, List.length_take, HDL.out, HXL.out, HL.out]; omega
  · simp only [List.size_toArray]
    rw [length_splice _ _ _ (by rw [length_splice _ _ _ (by rw [List.length_append, List.length_take, HXL.out, HZL.out, HL.out]; omega), HDL.out, List.length_append, List.length_take, HXL.out, HZL.out]; omega), length_splice _ _ _ (by rw [List.length_append, List.length_take, HXL.out, HZL.out, HL.out]; omega), List.length_append, List.length_take, HXL.out, HZL.out]
    omega
  · exact ins_rowN (r := (G - (n + 1)) * 3) (by omega) HXL.out HZL.out HL.out
/-- all roads -/
theorem insert_Clm (i : Nat) (v : Value) (hb : Below B w0 w) (hB : B ≤ base) (hbase : base ≤ w.heap.size) (hown : w.ownsRow base 49 3 v n xs) (hv : w.heap[vb]? = some (.cells es.toArray 49 (0, 0)))
    (hvg : v.ownBlock ≠ some vb) (hl : es.length = 3) (h1 : ∀ u ∈ es, u.oneCell' = true) (h1x : ∀ u ∈ xs, u.oneCell' = true) (hi : i ≤ n) (hn : (n + 1) * 40 ≤ 140737488355328) :
    Calls Tryz.prog 29 #[v, .int .i64 (i : Int), .slice (some ⟨vb, 0, none⟩) 1 1] w (InsClm w0 w B base (n + 1) v.ownBlock (xs.take (i * 3) ++ es ++ xs.drop (i * 3))) := by
  by_cases hin : i = n
  · subst hin
    have hx : xs.length = i * 3 := hown.1
    rw [List.take_of_length_le (by omega), List.drop_eq_nil_of_le (by omega), List.append_nil]
    exact insEnd_Clm w0 w B base i vb xs es v hb hB hbase hown hv hl h1 hn
  · rcases hown.2 with ⟨rfl, rfl⟩ | ⟨g, cap, cur, rfl, h2, h3, h4, h5, h6, h7⟩
    · omega
    · by_cases hc : n + 1 ≤ cap
      · exact insShift_Clm w0 w B base n g vb xs es i cap cur hb (Nat.le_trans hB h2) h2 h3 h6 h7 hv (fun e => hvg (by rw [e]; rfl)) hl h1 h1x (by omega) hc h5
      · have : cap = n := by omega
        subst this
        exact insGrow_Clm w0 w B base cap g vb xs es i cur hb hB hbase h3 h6 h7 hv hl h1 h1x (by omega) hn
end
end Go.Proofs.YtnlnaglaipjlfaaGreatDoor
