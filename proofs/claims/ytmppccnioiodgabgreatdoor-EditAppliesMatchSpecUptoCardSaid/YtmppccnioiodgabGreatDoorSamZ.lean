/- Several texts laid into one: The contract of slices.Equal at []api.Point, where both read alike; The contracts of deadwaxlaw3's same and equal; -/
import Derived.Test.YtmppccnioiodgabGreatDoorEdtZ
import Derived.Test.YtmppccnioiodgabGreatDoorProg
import Derived.Test.YtmppccnioiodgabGreatDoorSmcZ
/- The contract of slices.Equal at []api.Point, where both read alike. -/
namespace Go.Proofs.YtmppccnioiodgabGreatDoor
open Go.RowKit Go.Dw

theorem neqPn (a : Int) (s t : ByteArray) (w : World) : Sem.run Tryz.prog (binOp .neq 50 (.agg #[.int .i64 a, .string s, .string t]) (.agg #[.int .i64 a, .string s, .string t])) w = .ok (.bool false) w := by
  go_simp
set_option maxHeartbeats 400000 in
theorem equalPn_any (A B : Option Addr) (c d : Nat) (xs : List Pnt) (w : World) (ha : Rd w A (xs.flatMap Pnt.cs)) (hb : Rd w B (xs.flatMap Pnt.cs)) (hn : xs.length ≤ 9223372036854775807) :
    Calls Tryz.prog 19 #[.slice A xs.length c, .slice B xs.length d] w fun e w' => e = .returned (.bool true) ∧ ∃ n, w' = w.drewN n := by
  have hl1 : ((xs.length : Int) != (xs.length : Int)) = false := by simp
  go_enter Tryz.func19, Tryz.ntmps19
  go_wp2
  go_loopw [13] (fun i wr => ∃ k : Nat, k ≤ xs.length ∧ i = .int .i64 k ∧ ∃ n, wr = w.drewN n) (fun i _ => xs.length - (intOf i).toNat)
  case atStart => exact ⟨0, Nat.zero_le _, rfl, 0, rfl⟩
  case round =>
    obtain ⟨k, hk, rfl, n, rfl⟩ := hrel
    by_cases hlt : k < xs.length
    · obtain ⟨b, off, rfl, hbb, hc⟩ := pnt_at ha (by omega)
      obtain ⟨b2, off2, rfl, hbb2, hc2⟩ := pnt_at hb (by omega)
      obtain ⟨c0, c1, c2⟩ := hc k hlt
      obtain ⟨d0, d1, d2⟩ := hc2 k hlt
      clear hc hc2 ha hb
      generalize xs[k] = h at *
      obtain ⟨pn, po, pb⟩ := h
      simp only at c0 c1 c2 d0 d1 d2
      have hne := neqPn pn po pb
      go_wp2
      go_quiet (fail)
      go_wp2
      go_roundw
      case rel => exact ⟨k + 1, by omega, by go_num, _, rfl⟩
      case measure => simp [intOf]; omega
    · go_wp2
      go_ret
      exact ⟨rfl, _, rfl⟩
end Go.Proofs.YtmppccnioiodgabGreatDoor
/- The contracts of deadwaxlaw3's same and equal. -/
namespace Go.Proofs.YtmppccnioiodgabGreatDoor
open Go.RowKit Go.Dw

def twoE (w : World) (a b : Int) (A : Option Addr) (n c : Nat) (a' b' : Int) (A' : Option Addr) (n' c' : Nat) : World := (w.alloc (.cells #[.int .i64 a, .int .i64 b, .slice A n c] 24)).alloc (.cells #[.int .i64 a', .int .i64 b', .slice A' n' c'] 24)
theorem twoE_blk (w : World) (a b : Int) (A : Option Addr) (n c : Nat) (a' b' : Int) (A' : Option Addr) (n' c' : Nat) :
    Gq w (twoE w a b A n c a' b' A' n' c') ∧ Blk (twoE w a b A n c a' b' A' n' c') w.heap.size 24 [.int .i64 a, .int .i64 b, .slice A n c] ∧ Blk (twoE w a b A n c a' b' A' n' c') (w.heap.size + 1) 24 [.int .i64 a', .int .i64 b', .slice A' n' c'] := by
  have k1 := Blk.new w 24 [.int .i64 a, .int .i64 b, .slice A n c]
  have k2 := Blk.new (w.alloc (.cells #[.int .i64 a, .int .i64 b, .slice A n c] 24)) 24 [.int .i64 a', .int .i64 b', .slice A' n' c']
  have e2 : (w.alloc (.cells #[.int .i64 a, .int .i64 b, .slice A n c] 24)).heap.size = w.heap.size + 1 := by simp
  rw [e2] at k2
  exact ⟨((Gq.refl _).alloc _).alloc _, k1.same (Same.alloc (S := fun _ => True) _ _) trivial, k2⟩
set_option maxRecDepth 100000 in
set_option maxHeartbeats 4000000 in
theorem same_any (x y : EdtM) (q : Bool) (hq : q = true ↔ x.rate = y.rate ∧ x.tracks = y.tracks ∧ SmC (x.cs.xs.map CliM.x) (y.cs.xs.map CliM.x)) (w : World) (hx : EdtOk w x) (hy : EdtOk w y) (hl : y.cs.xs.length ≤ 1048576) :
    Calls Tryz.prog 18 #[x.v, y.v] w fun e w' => e = .returned (.bool q) ∧ Gq w w' := by
  obtain ⟨r1, t1, ⟨A, c, xs⟩⟩ := x
  obtain ⟨r2, t2, ⟨B, d, ys⟩⟩ := y
  obtain ⟨q2, hq2⟩ : ∃ q2 : Bool, q2 = true ↔ SmC (xs.map CliM.x) (ys.map CliM.x) := by
    by_cases h : SmC (xs.map CliM.x) (ys.map CliM.x)
    · exact ⟨true, by simp [h]⟩
    · exact ⟨false, by simp [h]⟩
  have HSC : Hid (∀ W, Gq w W → Calls Tryz.prog 45 #[.slice A xs.length c, .slice B ys.length d] W fun e w' => e = .returned (.bool q2) ∧ Gq W w') := fun W hW =>
    sameClips_any A B c d xs ys q2 hq2 W (hx.cr.below hW) (hy.cr.below hW) (fun x h => (hx.co x h).below hW) (fun x h => (hy.co x h).below hW) hx.cl hl
  have HQ : Hid (q = (decide (r1 = r2) && decide (t1 = t2) && q2)) := by
    show _ = _
    rw [Bool.eq_iff_iff, hq]
    simp [hq2, and_assoc]
  clear hq hq2 hx hy hl
  simp only [EdtM.v, Slc.v]
  generalize (xs.length : Nat) = xn at *
  generalize (ys.length : Nat) = yn at *
  obtain ⟨w1, hw1⟩ : ∃ w1, w1 = twoE w r1 t1 A xn c r2 t2 B yn d := ⟨_, rfl⟩
  obtain ⟨k0, k1, k2⟩ := twoE_blk w r1 t1 A xn c r2 t2 B yn d
  rw [← hw1] at k0 k1 k2
  have HG1 : Hid (Gq w w1) := k0
  have a0 : w1.cell? ⟨w.heap.size, 0, none⟩ = some _ := k1.cell 0
  have a1 : w1.cell? ⟨w.heap.size, 1, none⟩ = some _ := k1.cell 1
  have a2 : w1.cell? ⟨w.heap.size, 2, none⟩ = some _ := k1.cell 2
  have b0 : w1.cell? ⟨w.heap.size + 1, 0, none⟩ = some _ := k2.cell 0
  have b1 : w1.cell? ⟨w.heap.size + 1, 1, none⟩ = some _ := k2.cell 1
  have b2 : w1.cell? ⟨w.heap.size + 1, 2, none⟩ = some _ := k2.cell 2
  unfold twoE at hw1
  have HW := Lib.hid hw1
  clear hw1 k0 k1 k2
  go_enter Tryz.func18, Tryz.ntmps18
  go_upto_region 1 with (fail)
  rw [← HW.out]
  by_cases h1 : r1 = r2
  · subst h1
    by_cases h2 : t1 = t2
    · subst h2
      have HE : Hid (q = q2) := by show _ = _; rw [HQ.out]; simp
      go_wp2_with fail
      refine (HSC.out _ HG1.out).mono ?_
      rintro e w2 ⟨rfl, hg⟩
      have HG2 : Hid (Gq w w2) := HG1.out.trans hg
      clear hg
      go_wp2_with fail
      go_ret
      exact ⟨ret_bool (by rw [HE.out]), HG2.out⟩
    · have HE : Hid (q = false) := by show _ = _; rw [HQ.out]; simp [h2]
      have hd : (t1 == t2) = false := by simpa using h2
      clear h2
      go_wp2_with fail
      go_ret
      exact ⟨ret_bool (by rw [HE.out]), HG1.out⟩
  · have HE : Hid (q = false) := by show _ = _; rw [HQ.out]; simp [h1]
    have hd : (r1 == r2) = false := by simpa using h1
    clear h1
    go_wp2_with fail
    go_ret
    exact ⟨ret_bool (by rw [HE.out]), HG1.out⟩
set_option maxRecDepth 100000 in
set_option maxHeartbeats 4000000 in
theorem equal_any (x y : EdtM) (he : x.x = y.x) (hs : Srt x.x.cs) (w : World) (hx : EdtOk w x) (hy : EdtOk w y) (hl : y.cs.xs.length ≤ 1048576) :
    Calls Tryz.prog 6 #[x.v, y.v] w fun e w' => e = .returned (.bool true) ∧ Gq w w' := by
  have HSA : Hid (∀ W, Gq w W → Calls Tryz.prog 18 #[x.v, y.v] W fun e w' => e = .returned (.bool true) ∧ Gq W w') := fun W hW =>
    same_any x y true (by
      simp only [true_iff]
      refine ⟨congrArg Edt.rate he, congrArg Edt.tracks he, ?_⟩
      have h1 : x.cs.xs.map CliM.x = y.cs.xs.map CliM.x := congrArg Edt.cs he
      rw [← h1]
      exact SmC.refl hs) W (hx.below hW) (hy.below hW) hl
  obtain ⟨r1, t1, ⟨A, c, xs⟩⟩ := x
  obtain ⟨r2, t2, ⟨B, d, ys⟩⟩ := y
  have hm : xs.map CliM.x = ys.map CliM.x := congrArg Edt.cs he
  have hln : xs.length = ys.length := by have := congrArg List.length hm; simpa using this
  have HL : Hid (xs.length = ys.length) := hln
  have HEK : Hid (∀ k (h1 : k < xs.length) (h2 : k < ys.length), xs[k].e.xs = ys[k].e.xs) := fun k h1 h2 => by
    have h3 := congrArg (fun l => l[k]?) hm
    simp only [List.getElem?_map, List.getElem?_eq_getElem h1, List.getElem?_eq_getElem h2, Option.map_some, Option.some.injEq] at h3
    exact congrArg Cli.e h3
  have HX := Lib.hid hx
  have HY := Lib.hid hy
  have hly : ys.length ≤ 1048576 := hl
  have hlx : xs.length ≤ 1048576 := by omega
  clear hm hln he hs hx hy
  simp only [EdtM.v, Slc.v] at HSA ⊢
  obtain ⟨w1, hw1⟩ : ∃ w1, w1 = twoE w r1 t1 A xs.length c r2 t2 B ys.length d := ⟨_, rfl⟩
  obtain ⟨k0, k1, k2⟩ := twoE_blk w r1 t1 A xs.length c r2 t2 B ys.length d
  rw [← hw1] at k0 k1 k2
  have HG1 : Hid (Gq w w1) := k0
  have HK1 := Lib.hid k1
  have HK2 := Lib.hid k2
  have a0 : w1.cell? ⟨w.heap.size, 0, none⟩ = some _ := k1.cell 0
  have a1 : w1.cell? ⟨w.heap.size, 1, none⟩ = some _ := k1.cell 1
  have a2 : w1.cell? ⟨w.heap.size, 2, none⟩ = some _ := k1.cell 2
  have b0 : w1.cell? ⟨w.heap.size + 1, 0, none⟩ = some _ := k2.cell 0
  have b1 : w1.cell? ⟨w.heap.size + 1, 1, none⟩ = some _ := k2.cell 1
  have b2 : w1.cell? ⟨w.heap.size + 1, 2, none⟩ = some _ := k2.cell 2
  unfold twoE at hw1
  have HW := Lib.hid hw1
  clear hw1 k0 k1 k2
  go_enter Tryz.func6, Tryz.ntmps6
  go_upto_region 1 with (fail)
  rw [← HW.out]
  go_wp2_with fail
  refine (HSA.out _ HG1.out).mono ?_
  rintro e w2 ⟨rfl, hg⟩
  have HG2 : Hid (Gq w1 w2) := hg
  clear hg a0 a1 a2 b0 b1 b2
  go_wp2_with fail
  go_loopw [5] (fun iv wr => ∃ k : Nat, k ≤ xs.length ∧ iv = .int .i64 (k : Int) ∧ Hid (Gq w1 wr)) (fun iv _ => xs.length - (intOf iv).toNat)
  case atStart => exact ⟨0, Nat.zero_le _, rfl, HG2⟩
  case round =>
    obtain ⟨k, hk, rfl, HGR⟩ := hrel
    have HKR1 := Lib.hid (HK1.out.same (Same.of_below (S := fun _ => True) HGR.out) trivial)
    have HKR2 := Lib.hid (HK2.out.same (Same.of_below (S := fun _ => True) HGR.out) trivial)
    have a2 : wr.cell? ⟨w.heap.size, 2, none⟩ = some (.slice A xs.length c) := HKR1.out.cell 2
    have b2 : wr.cell? ⟨w.heap.size + 1, 2, none⟩ = some (.slice B ys.length d) := HKR2.out.cell 2
    by_cases hlt : k < xs.length
    case neg =>
      have hd1 : decide (k < xs.length) = false := by simpa using hlt
      go_wp2_with fail
      go_ret
      exact ⟨rfl, HG1.out.trans HGR.out⟩
    have hd1 : decide (k < xs.length) = true := by simpa using hlt
    have hlt2 : k < ys.length := by have := HL.out; omega
    have HGW : Hid (Gq w wr) := HG1.out.trans HGR.out
    obtain ⟨b, off, hA, hbb, x0, x1, x2, x3, x4, x5, x6⟩ := cli_one (HX.out.cr.below HGW.out) (show k < (EdtM.mk r1 t1 ⟨A, c, xs⟩).cs.xs.length from hlt)
    obtain ⟨b', off', hB, hbb', y0, y1, y2, y3, y4, y5, y6⟩ := cli_one (HY.out.cr.below HGW.out) (show k < (EdtM.mk r2 t2 ⟨B, d, ys⟩).cs.xs.length from hlt2)
    simp only at hA hB x6 y6
    subst hA hB
    have hxe := (HX.out.co xs[k] (List.getElem_mem hlt)).er.below HGW.out
    have hye := (HY.out.co ys[k] (List.getElem_mem hlt2)).er.below HGW.out
    have hel := (HX.out.co xs[k] (List.getElem_mem hlt)).el
    have HXE := Lib.hid (HEK.out k hlt hlt2)
    obtain ⟨xe, hxk⟩ : ∃ xe, xs[k].e = xe := ⟨_, rfl⟩
    obtain ⟨ye, hyk⟩ : ∃ ye, ys[k].e = ye := ⟨_, rfl⟩
    rw [hxk] at x6 hxe hel HXE
    rw [hyk] at y6 hye HXE
    clear hxk hyk x0 x1 x2 x3 x4 x5 y0 y1 y2 y3 y4 y5
    obtain ⟨xA, xd, xl⟩ := xe
    obtain ⟨yA, yd, yl⟩ := ye
    have hxy : xl = yl := HXE.out
    subst hxy
    simp only at x6 y6 hxe hye hel
    have HEQ : Hid (∀ W, Gq wr W → Calls Tryz.prog 19 #[.slice xA xl.length xd, .slice yA xl.length yd] W fun e w' => e = .returned (.bool true) ∧ Gq wr w') := fun W hW =>
      (equalPn_any xA yA xd yd xl W (hxe.below hW) (hye.below hW) hel).mono fun e w' h => ⟨h.1, by obtain ⟨n, hn⟩ := h.2; rw [hn]; exact below_drewN hW n⟩
    clear hxe hye HXE
    have hik0 : (0 : Int) ≤ (k : Int) := by omega
    have hik1 : (k : Int) < (xs.length : Int) := by omega
    have hik2 : (k : Int) < (ys.length : Int) := by omega
    have hlw1 := HKR1.out.lt
    have hlw2 := HKR2.out.lt
    have HS : Hid (∀ W, Gq wr W → W.cell? ⟨w.heap.size, 2, none⟩ = some (.slice (some ⟨b, off, none⟩) xs.length c) ∧ W.cell? ⟨w.heap.size + 1, 2, none⟩ = some (.slice (some ⟨b', off', none⟩) ys.length d) ∧ W.cell? ⟨b, off + k * 7 + 6, none⟩ = some (.slice xA xl.length xd) ∧ W.cell? ⟨b', off' + k * 7 + 6, none⟩ = some (.slice yA xl.length yd) ∧ Gq wr W) := fun W hW => by
      rw [Below.cell hW (by exact hlw1), Below.cell hW (by exact hlw2), Below.cell hW (by exact hbb), Below.cell hW (by exact hbb')]
      exact ⟨a2, b2, x6, y6, hW⟩
    have hBD : Gq wr wr.drew := (Gq.refl _).drew
    have hBR : Gq wr wr := Gq.refl _
    go_wp2_with fail
    go_region_held3 (fun W => W.cell? ⟨w.heap.size, 2, none⟩ = some (.slice (some ⟨b, off, none⟩) xs.length c) ∧ W.cell? ⟨w.heap.size + 1, 2, none⟩ = some (.slice (some ⟨b', off', none⟩) ys.length d) ∧ W.cell? ⟨b, off + k * 7 + 6, none⟩ = some (.slice xA xl.length xd) ∧ W.cell? ⟨b', off' + k * 7 + 6, none⟩ = some (.slice yA xl.length yd) ∧ Gq wr W)
      (first | exact HS.out _ hBD | exact HS.out _ hBR | exact HS.out _ (by assumption))
      (first | (go_at_call 19; with_reducible refine (HEQ.out _ (by first | assumption | (go_split_ands; assumption))).mono ?_; rintro e wB ⟨rfl, hqB⟩))
    all_goals
      have HQB : Hid (Gq w1 wB) := HGR.out.trans hqB
      clear a2 b2 x6 y6 HS
      go_wp2_with fail
      go_roundw
      case rel => exact ⟨k + 1, by omega, by go_num, HQB⟩
      case measure => simp [intOf]; omega
end Go.Proofs.YtmppccnioiodgabGreatDoor
