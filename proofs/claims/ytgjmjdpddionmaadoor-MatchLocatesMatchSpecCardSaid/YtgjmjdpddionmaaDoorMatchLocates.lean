/- The walk of MatchLocatesMatchSpec. -/
import Derived.Test.YtgjmjdpddionmaaDoorDblR
import Derived.Test.YtgjmjdpddionmaaDoorEqStr
import Derived.Test.YtgjmjdpddionmaaDoorEqHt
import Derived.Test.YtgjmjdpddionmaaDoorDecSto
import Derived.Test.YtgjmjdpddionmaaDoorMatchH
namespace Go.Proofs.YtgjmjdpddionmaaDoor
open Go.RowKit Go.Dw

theorem locF_len {L : List (ByteArray × List Int)} {want : List Int} {least percent : Int} : (locF L want least percent).1.length ≤ 50 := by
  unfold locF
  split
  · simp
  · rename_i h1
    split
    · simp
    · split
      · simp
      · simp only [insAll_len, List.length_nil, Nat.zero_add]
        exact Nat.le_trans (hitsN_len _) (stoF_zero (Decidable.not_not.1 h1)).1
theorem dblF_len {L : List (ByteArray × List Int)} {least percent : Int} : (dblF L least percent).1.length ≤ 50 ∧ ∀ l ∈ (dblF L least percent).1, l.length ≤ 50 := by
  unfold dblF
  split
  · simp
  · rename_i h1
    split
    · simp
    · have hl := (stoF_zero (Decidable.not_not.1 h1)).1
      obtain ⟨g1, g2⟩ := grps_lt (alF L least percent) L.length
      simp only [List.length_map]
      refine ⟨by omega, fun l hm => ?_⟩
      obtain ⟨g, hg, rfl⟩ := List.mem_map.1 hm
      have := (g2 g hg).1
      simp only [namesF, List.length_map]; omega
set_option maxRecDepth 100000 in
set_option maxHeartbeats 1000000 in
theorem locates_law (x : Slc Mk) (y : Slc Int) (least percent : Int) (w : World) (h : x.xs.length ≤ maxLen ∧ Rd w x.a (x.xs.flatMap Mk.cs) ∧ ∀ m ∈ x.xs, m.n.size ≤ maxLen ∧ m.s.xs.length ≤ maxLen ∧ Rd w m.s.a (ic m.s.xs))
    (hy : y.xs.length ≤ maxLen ∧ Rd w y.a (y.xs.flatMap fun n => [Value.int .i64 n]) ∧ ∀ n ∈ y.xs, inI64 n) (_ : inI64 least) (_ : inI64 percent) :
    Calls Tryd.prog 3 #[x.v, y.v, .int .i64 least, .int .i64 percent] w fun e w' => e = .returned (.bool true) ∧ Below w.heap.size w w' := by
  have hs := sto_of h
  obtain ⟨hy1, hy2, _⟩ := hy
  rw [ic_flat] at hy2
  have hyn : y.xs.length ≤ 9223372036854775807 := by simpa [maxLen] using hy1
  obtain ⟨B, cb, want⟩ := y
  simp only at hy2 hyn
  have H1 := Lib.hid (fun (W : World) (hW : Below w.heap.size w W) => locate_any x B cb want least percent W (hs.below hW) (hy2.below hW) hyn)
  have H2 := Lib.hid (fun (W : World) (hW : Below w.heap.size w W) => locateR_any x B cb want least percent W (hs.below hW) (hy2.below hW) hyn)
  have H3 := Lib.hid (fun (W : World) (hW : Below w.heap.size w W) => store_any x W (hs.below hW))
  have H4 := Lib.hid (fun (W : World) (hW : Below w.heap.size w W) => storeR_any x W (hs.below hW))
  have H5 := Lib.hid (fun (W : World) (hW : Below w.heap.size w W) => doubles_any x least percent W (hs.below hW))
  have H6 := Lib.hid (fun (W : World) (hW : Below w.heap.size w W) => doublesR_any x least percent W (hs.below hW))
  have hl1 := locF_len (L := x.xs.map Mk.p) (want := want) (least := least) (percent := percent)
  obtain ⟨hl2, hl3⟩ := dblF_len (L := x.xs.map Mk.p) (least := least) (percent := percent)
  have HL3 := Lib.hid hl3
  clear h hs hy1 hy2 hl3
  generalize locF (x.xs.map Mk.p) want least percent = r1 at *
  generalize dblF (x.xs.map Mk.p) least percent = r2 at *
  generalize stoF (x.xs.map Mk.p) = f3 at *
  obtain ⟨l1, f1⟩ := r1
  obtain ⟨l2, f2⟩ := r2
  simp only at hl1 hl2
  have e1 : (f1 != f1) = false := by simp
  have e2 : (f2 == f2) = true := by simp
  have e3 : (f3 != f3) = false := by simp
  have hb0 : Below w.heap.size w w := Below.refl _ _
  have HB0 := Lib.hid hb0
  clear hb0
  simp only [Slc.v] at *
  go_enter Tryd.func3, Tryd.ntmps3
  go_wp2_with fail
  refine (H1.out _ HB0.out).mono ?_
  rintro e w1 ⟨A1, c1, rfl, hr1, hb1⟩
  have HR1 := Lib.hid hr1
  have HB1 := Lib.hid hb1
  clear hr1 hb1
  go_wp2_with fail
  refine (H2.out _ HB1.out).mono ?_
  rintro e w2 ⟨A2, c2, rfl, hr2, hb2⟩
  have HR2 := Lib.hid hr2
  have HR1' := Lib.hid (HR1.out.below hb2)
  have HB2 := Lib.hid (HB1.out.trans (hb2.mono HB1.out.size))
  clear hr2 hb2 HR1 HB1
  go_wp2_with fail
  refine (H3.out _ HB2.out).mono ?_
  rintro e w3 ⟨rfl, hb3⟩
  have HR1 := Lib.hid (HR1'.out.below hb3)
  have HR2' := Lib.hid (HR2.out.below hb3)
  have HB3 := Lib.hid (HB2.out.trans (hb3.mono HB2.out.size))
  clear hb3 HR1' HR2 HB2
  go_wp2_with fail
  refine (H4.out _ HB3.out).mono ?_
  rintro e w4 ⟨rfl, hb4⟩
  have HR1' := Lib.hid (HR1.out.below hb4)
  have HR2 := Lib.hid (HR2'.out.below hb4)
  have HB4 := Lib.hid (HB3.out.trans (hb4.mono HB3.out.size))
  clear hb4 HR1 HR2' HB3
  go_wp2_with fail
  refine (sameHt_any A1 A2 c1 c2 l1 w4 HR1'.out HR2.out (by omega)).mono ?_
  rintro e w5 ⟨rfl, n5, hw5⟩
  have HB5 : Hid (Below w.heap.size w w5) := by rw [hw5]; exact below_drewN HB4.out n5
  clear hw5 HB4 HR1' HR2
  go_wp2_with fail
  refine (H5.out _ HB5.out).mono ?_
  rintro e w6 ⟨A3, c3, G3, rfl, hr6, hs6, he6, hb6⟩
  have HG3 : Hid (Grs w6 A3 G3 l2) := ⟨hr6, hs6, he6⟩
  have HB6 := Lib.hid (HB5.out.trans (hb6.mono HB5.out.size))
  clear hr6 hs6 he6 hb6 HB5
  go_wp2_with fail
  refine (H6.out _ HB6.out).mono ?_
  rintro e w7 ⟨A4, c4, G4, rfl, hr7, hs7, he7, hb7⟩
  have HG4 : Hid (Grs w7 A4 G4 l2) := ⟨hr7, hs7, he7⟩
  have HG3' : Hid (Grs w7 A3 G3 l2) := HG3.out.below hb7
  have HB7 := Lib.hid (HB6.out.trans (hb7.mono HB6.out.size))
  clear hr7 hs7 he7 hb7 HB6 HG3
  go_wp2_with fail
  refine (sameGroups_any A3 A4 c3 c4 G3 G4 l2 w7 HG3'.out HG4.out (by omega) (fun l hl => by have := HL3.out l hl; omega)).mono ?_
  rintro e w8 ⟨rfl, n8, hw8⟩
  have HB8 : Hid (Below w.heap.size w w8) := by rw [hw8]; exact below_drewN HB7.out n8
  clear hw8 HB7 HG3' HG4
  go_wp2_with fail
  refine (awake4 _).mono ?_
  rintro e w9 ⟨rfl, hb9⟩
  have HB9 := Lib.hid (HB8.out.trans (hb9.mono HB8.out.size))
  clear hb9
  go_wp2_with fail
  go_ret
  exact ⟨rfl, HB9.out⟩
end Go.Proofs.YtgjmjdpddionmaaDoor
