/- The contract of deadwax/match.CheckStore. -/
import Derived.Test.YtgjmjdpddionmaaDoorLocB
import Derived.Test.YtgjmjdpddionmaaDoorStP
import Derived.Test.YtgjmjdpddionmaaDoorDec
import Derived.Test.YtgjmjdpddionmaaDoorTab
import Derived.Deep.RegionHeld3
import Derived.Deep.DrawnRows
namespace Go.Proofs.YtgjmjdpddionmaaDoor
open Go.RowKit Go.Dw
attribute [local go_sem ↓] Go.wp_at_zero Go.wp_at_succ

structure Mk where
  n : ByteArray
  s : Slc Int
def Mk.cs (m : Mk) : List Value := [.string m.n, m.s.v]
def Mk.p (m : Mk) : ByteArray × List Int := (m.n, m.s.xs)
def dMk : Mk := ⟨⟨#[]⟩, ⟨none, 0, []⟩⟩
/-- a store that came in -/
def Sto (w : World) (x : Slc Mk) : Prop :=
  x.xs.length ≤ 9223372036854775807 ∧ Rd w x.a (x.xs.flatMap Mk.cs) ∧ ∀ m ∈ x.xs, m.n.size ≤ 9223372036854775807 ∧ m.s.xs.length ≤ 9223372036854775807 ∧ Rd w m.s.a (ic m.s.xs)
theorem Sto.below {w w' : World} {x : Slc Mk} (h : Sto w x) (hb : Below w.heap.size w w') : Sto w' x :=
  ⟨h.1, h.2.1.below hb, fun m hm => ⟨(h.2.2 m hm).1, (h.2.2 m hm).2.1, (h.2.2 m hm).2.2.below hb⟩⟩
theorem Sto.at_ {w : World} {x : Slc Mk} (h : Sto w x) (hn : 0 < x.xs.length) :
    ∃ b off, x.a = some ⟨b, off, none⟩ ∧ b < w.heap.size ∧ ∀ k (hk : k < x.xs.length), w.cell? ⟨b, off + k * 2, none⟩ = some (.string x.xs[k].n) ∧ w.cell? ⟨b, off + k * 2 + 1, none⟩ = some (.slice x.xs[k].s.a x.xs[k].s.xs.length x.xs[k].s.c) := by
  obtain ⟨b, off, e, hb, hc⟩ := h.2.1.at_ (by rw [flat_len Mk.cs 2 (fun _ => rfl)]; omega)
  refine ⟨b, off, e, hb, fun k hk => ⟨?_, ?_⟩⟩
  · exact hc (k * 2) _ (by have := flat_get Mk.cs 2 (fun _ => rfl) x.xs k 0 hk (by omega); rw [Nat.add_zero] at this; rw [this]; rfl)
  · have := hc (k * 2 + 1) (.slice x.xs[k].s.a x.xs[k].s.xs.length x.xs[k].s.c) (by rw [flat_get Mk.cs 2 (fun _ => rfl) x.xs k 1 hk (by omega)]; rfl)
    rw [Nat.add_assoc]; exact this
def mkF (L : List (ByteArray × List Int)) (i : Nat) : Int :=
  if isNm (L.getD i (⟨#[]⟩, [])).1 = false then 5 else if (decide (0 < i) && decide (¬ sLt (L.getD (i - 1) (⟨#[]⟩, [])).1 (L.getD i (⟨#[]⟩, [])).1)) = true then 8 else chk (L.getD i (⟨#[]⟩, [])).2
def stoF (L : List (ByteArray × List Int)) : Int := if 50 < L.length then 2 else firstNZ (mkF L) L.length
theorem mkF_at (L : List Mk) (k : Nat) (h : k < L.length) : mkF (L.map Mk.p) k = if isNm L[k].n = false then 5 else if (decide (0 < k) && decide (¬ sLt (L.getD (k - 1) dMk).n L[k].n)) = true then 8 else chk L[k].s.xs := by
  have e : ∀ j, (L.map Mk.p).getD j (⟨#[]⟩, []) = (L.getD j dMk).p := fun j => by
    rw [List.getD_eq_getElem?_getD, List.getD_eq_getElem?_getD, List.getElem?_map]
    cases L[j]? <;> rfl
  have e2 : L.getD k dMk = L[k] := by rw [List.getD_eq_getElem?_getD, List.getElem?_eq_getElem h, Option.getD_some]
  unfold mkF
  rw [e, e, e2]; rfl
theorem le_lt {a b : ByteArray} (h : sLt a b) : Op.bytesLess a.toList b.toList = true ∧ True := by
  rw [ByteArray.toList_eq, ByteArray.toList_eq]; exact ⟨h, trivial⟩
theorem le_eq (a : ByteArray) : Op.bytesLess a.toList a.toList = false ∧ (a.toList == a.toList) = true := by
  rw [ByteArray.toList_eq]; exact ⟨bL_irr _, by simp⟩
theorem le_gt {a b : ByteArray} (h : sLt b a) : Op.bytesLess a.toList b.toList = false ∧ (a.toList == b.toList) = false := by
  rw [ByteArray.toList_eq, ByteArray.toList_eq]
  have h2 := sLt_asymm h
  refine ⟨by simpa [sLt, bL] using h2, ?_⟩
  have h3 : ¬ a.data.toList = b.data.toList := fun e => by
    have := ba_ext e
    subst this
    exact sLt_irr a h
  exact beq_eq_false_iff_ne.2 h3
set_option maxHeartbeats 2000000 in
theorem store_any (x : Slc Mk) (w : World) (h : Sto w x) :
    Calls Tryd.prog 6 #[x.v] w fun e w' => e = .returned (.int .i64 (stoF (x.xs.map Mk.p))) ∧ Below w.heap.size w w' := by
  by_cases hbig : 50 < x.xs.length
  · have HR : Hid (stoF (x.xs.map Mk.p) = 2) := by show _ = _; unfold stoF; rw [if_pos (by simpa using hbig)]
    have hd : decide (50 < x.xs.length) = true := by simpa using hbig
    simp only [Slc.v]
    go_enter Tryd.func6, Tryd.ntmps6
    go_wp2_with fail
    go_ret
    exact ⟨ret_int HR.out.symm, Below.refl _ _⟩
  have HX := Lib.hid h
  have HL : Hid ((x.xs.map Mk.p).length = x.xs.length) := by show _ = _; simp
  have HS : Hid (stoF (x.xs.map Mk.p) = firstNZ (mkF (x.xs.map Mk.p)) x.xs.length) := by show _ = _; unfold stoF; rw [if_neg (by simpa using hbig)]; simp
  have HNM := Lib.hid (fun (s : ByteArray) (W : World) (hs : s.size ≤ 9223372036854775807) => isName_any s W hs)
  have hd0 : decide (50 < x.xs.length) = false := by simpa using hbig
  obtain ⟨A, c, L⟩ := x
  clear h
  simp only [Slc.v] at *
  go_enter Tryd.func6, Tryd.ntmps6
  go_wp2_with fail
  go_loopw [11] (fun kv wr => ∃ k : Nat, k ≤ L.length ∧ kv = .int .i64 (k : Int) ∧ Hid (∀ j, j < k → mkF (L.map Mk.p) j = 0) ∧ Hid (Below w.heap.size w wr)) (fun kv _ => L.length - (intOf kv).toNat)
  case atStart => exact ⟨0, Nat.zero_le _, rfl, by intro j hj; omega, Below.refl _ _⟩
  case round =>
    obtain ⟨k, hk, rfl, HALL, HB⟩ := hrel
    by_cases hlt : k < L.length
    case neg =>
      have hd1 : decide (k < L.length) = false := by simpa using hlt
      have HR : Hid (stoF (L.map Mk.p) = 0) := by show _ = _; rw [HS.out, firstNZ_ok (fun j hj => HALL.out j (by omega))]
      go_wp2_with fail
      go_ret
      exact ⟨ret_int HR.out.symm, HB.out⟩
    have hd1 : decide (k < L.length) = true := by simpa using hlt
    have HBAD : Hid (∀ v, mkF (L.map Mk.p) k = v → v ≠ 0 → stoF (L.map Mk.p) = v) := fun v hv hv0 => by
      rw [HS.out, firstNZ_bad (f := mkF (L.map Mk.p)) HALL.out (by rw [hv]; exact hv0) hlt, hv]
    have HNEXT : Hid (mkF (L.map Mk.p) k = 0 → ∀ j, j < k + 1 → mkF (L.map Mk.p) j = 0) := fun hz => step_all HALL.out hz
    obtain ⟨b, off, hA, hb, hcs⟩ := HX.out.at_ (by show 0 < L.length; omega)
    obtain rfl : A = some ⟨b, off, none⟩ := hA
    have hc1 : wr.cell? ⟨b, off + k * 2, none⟩ = some (.string L[k].n) := by rw [HB.out.cell (by exact hb)]; exact (hcs k hlt).1
    have hc2 : wr.cell? ⟨b, off + k * 2 + 1, none⟩ = some (.slice L[k].s.a L[k].s.xs.length L[k].s.c) := by rw [HB.out.cell (by exact hb)]; exact (hcs k hlt).2
    obtain ⟨hs1, hs2, hs3⟩ := HX.out.2.2 L[k] (List.getElem_mem hlt)
    have HMK := Lib.hid (mkF_at L k hlt)
    have HPR : Hid (0 < k → wr.cell? ⟨b, off + (k - 1) * 2, none⟩ = some (.string (L.getD (k - 1) dMk).n)) := fun hk0 => by
      rw [HB.out.cell (by exact hb), List.getD_eq_getElem?_getD, List.getElem?_eq_getElem (show k - 1 < L.length by omega), Option.getD_some]; exact (hcs (k - 1) (by show k - 1 < L.length; omega)).1
    have hbr : b < wr.heap.size := Nat.lt_of_lt_of_le hb HB.out.size
    have HRD := Lib.hid (hs3.below HB.out)
    generalize L[k] = m at *
    generalize (L.getD (k - 1) dMk).n = pn at *
    obtain ⟨nm, ⟨a2, cc2, xs⟩⟩ := m
    simp only at hc1 hc2 hs1 hs2 HMK HRD
    have hbox0 : (wr.alloc (.cells #[.string nm, .slice a2 xs.length cc2] 41)).cell? ⟨wr.heap.size, 0, none⟩ = some (.string nm) := new_cell (cs := [_, _]) rfl rfl
    have hbox1 : (wr.alloc (.cells #[.string nm, .slice a2 xs.length cc2] 41)).cell? ⟨wr.heap.size, 1, none⟩ = some (.slice a2 xs.length cc2) := new_cell (cs := [_, _]) rfl rfl
    have hbsz : wr.heap.size < (wr.alloc (.cells #[.string nm, .slice a2 xs.length cc2] 41)).heap.size := by simp
    have HBA : Hid (Below w.heap.size w (wr.alloc (.cells #[.string nm, .slice a2 xs.length cc2] 41))) := HB.out.alloc HB.out.size _
    have HPA : Hid (Below wr.heap.size wr (wr.alloc (.cells #[.string nm, .slice a2 xs.length cc2] 41))) := (Below.refl _ _).alloc (Nat.le_refl _) _
    have hd3 : k = 0 ∨ 0 < k := by omega
    go_wp2_with fail
    generalize wr.alloc (.cells #[.string nm, .slice a2 xs.length cc2] 41) = wA at *
    refine (HNM.out nm wA hs1).mono ?_
    rintro e w1 ⟨rfl, hb1⟩
    have HB1 := Lib.hid (HBA.out.trans (hb1.mono HBA.out.size))
    have HP1 := Lib.hid (HPA.out.trans (hb1.mono HPA.out.size))
    have k0 : w1.cell? ⟨wr.heap.size, 0, none⟩ = some (.string nm) := by rw [hb1.cell (by exact hbsz)]; exact hbox0
    have k1 : w1.cell? ⟨wr.heap.size, 1, none⟩ = some (.slice a2 xs.length cc2) := by rw [hb1.cell (by exact hbsz)]; exact hbox1
    have HR1 := Lib.hid (HRD.out.below HP1.out)
    have HPR1 : Hid (0 < k → w1.cell? ⟨b, off + (k - 1) * 2, none⟩ = some (.string pn)) := fun hk0 => by rw [HP1.out.cell (by exact hbr)]; exact HPR.out hk0
    clear hb1 hbox0 hbox1 hbsz hc1 hc2 HPR
    obtain ⟨bn, hbn⟩ : ∃ bn, isNm nm = bn := ⟨_, rfl⟩
    rw [hbn] at HMK ⊢
    clear hbn
    cases bn
    · have HR := Lib.hid (HBAD.out 5 (by rw [HMK.out]; rfl) (by decide))
      go_wp2_with fail
      go_ret
      exact ⟨ret_int HR.out.symm, HB1.out⟩
    have HTAIL : Hid (∀ (bo : Bool), (decide (0 < k) && decide (¬ sLt pn nm)) = bo → mkF (L.map Mk.p) k = if bo = true then 8 else chk xs) := fun bo hbo => by
      rw [HMK.out, ← hbo]; rfl
    rcases hd3 with rfl | hk0
    · have HT := Lib.hid (HTAIL.out false (by simp))
      have hd4 : decide ((0 : Int) < 0) = false := by decide
      go_wp2_with fail
      go_quiet (fail)
      obtain ⟨w2, hw2⟩ : ∃ w2, w2 = w1.drewN nq := ⟨_, rfl⟩
      have HB2 : Hid (Below w.heap.size w w2) := by rw [hw2]; exact below_drewN HB1.out nq
      have HR2 : Hid (Rd w2 a2 (ic xs)) := by rw [hw2]; exact HR1.out.below (below_drewN (Below.refl _ _) nq)
      have q1 : w2.cell? ⟨wr.heap.size, 1, none⟩ = some (.slice a2 xs.length cc2) := by rw [hw2]; exact k1
      rw [← hw2]
      clear hw2 k0 k1
      by_cases hz : chk xs = 0
      · have HN := Lib.hid (HNEXT.out (by rw [HT.out]; exact hz))
        have hzz : (chk xs != 0) = false := by simp [hz]
        clear hz
        go_wp2_with fail
        refine (checkMarks1 a2 w2.heap.size cc2 1 xs _ (new_cell (cs := [_]) rfl rfl) (HR2.out.below ((Below.refl _ _).alloc (Nat.le_refl _) _)) hs2).mono ?_
        rintro e w3 ⟨rfl, rfl⟩
        go_wp2_with fail
        go_roundw
        case rel => exact ⟨_, by omega, by go_num, HN, HB2.out.alloc HB2.out.size _⟩
        case measure => simp [intOf]; omega
      · have HR := Lib.hid (HBAD.out (chk xs) (by rw [HT.out]; rfl) hz)
        have hzz : (chk xs != 0) = true := by simpa using hz
        clear hz
        go_wp2_with fail
        refine (checkMarks1 a2 w2.heap.size cc2 1 xs _ (new_cell (cs := [_]) rfl rfl) (HR2.out.below ((Below.refl _ _).alloc (Nat.le_refl _) _)) hs2).mono ?_
        rintro e w3 ⟨rfl, rfl⟩
        go_wp2_with fail
        go_ret
        exact ⟨ret_int HR.out.symm, HB2.out.alloc HB2.out.size _⟩
    · have hpr := HPR1.out hk0
      have hd4 : decide (0 < k) = true := by simpa using hk0
      have hd4' : decide ((0 : Int) < (k : Int)) = true := by simpa using hk0
      have hw : IntKind.i64.wrap ((k : Int) - 1) = (k : Int) - 1 := IntWalk.i64_in _ (by omega)
      have j0 : (0 : Int) ≤ (k : Int) - 1 := by omega
      have j0' : (1 : Int) ≤ (k : Int) := by omega
      have j1 : (k : Int) - 1 < (L.length : Int) := by omega
      have j2 : ((k : Int) - 1).toNat = k - 1 := by omega
      rcases sLt_tri nm pn with hl | hl | hl
      · obtain ⟨s1, s2⟩ := le_lt hl
        have HR := Lib.hid (HBAD.out 8 (by rw [HTAIL.out true (by simp [hk0, sLt_asymm hl])]; rfl) (by decide))
        clear hl
        go_wp2_with fail
        go_quiet (fail)
        clear hw j2
        go_wp2_with fail
        go_ret
        exact ⟨ret_int HR.out.symm, below_drewN HB1.out _⟩
      · subst hl
        obtain ⟨s1, s2⟩ := le_eq nm
        have HR := Lib.hid (HBAD.out 8 (by rw [HTAIL.out true (by simp [hk0, sLt_irr])]; rfl) (by decide))
        go_wp2_with fail
        go_quiet (fail)
        clear hw j2
        go_wp2_with fail
        go_ret
        exact ⟨ret_int HR.out.symm, below_drewN HB1.out _⟩
      · obtain ⟨s1, s2⟩ := le_gt hl
        have HT := Lib.hid (HTAIL.out false (by simp [hl]))
        clear hl
        go_wp2_with fail
        go_quiet (fail)
        clear hw j2
        obtain ⟨w2, hw2⟩ : ∃ w2, w2 = w1.drewN nq := ⟨_, rfl⟩
        have HB2 : Hid (Below w.heap.size w w2) := by rw [hw2]; exact below_drewN HB1.out nq
        have HR2 : Hid (Rd w2 a2 (ic xs)) := by rw [hw2]; exact HR1.out.below (below_drewN (Below.refl _ _) nq)
        have q1 : w2.cell? ⟨wr.heap.size, 1, none⟩ = some (.slice a2 xs.length cc2) := by rw [hw2]; exact k1
        rw [← hw2]
        clear hw2 k0 k1
        by_cases hz : chk xs = 0
        · have HN := Lib.hid (HNEXT.out (by rw [HT.out]; exact hz))
          have hzz : (chk xs != 0) = false := by simp [hz]
          clear hz
          go_wp2_with fail
          refine (checkMarks1 a2 w2.heap.size cc2 1 xs _ (new_cell (cs := [_]) rfl rfl) (HR2.out.below ((Below.refl _ _).alloc (Nat.le_refl _) _)) hs2).mono ?_
          rintro e w3 ⟨rfl, rfl⟩
          go_wp2_with fail
          go_roundw
          case rel => exact ⟨_, by omega, by go_num, HN, HB2.out.alloc HB2.out.size _⟩
          case measure => simp [intOf]; omega
        · have HR := Lib.hid (HBAD.out (chk xs) (by rw [HT.out]; rfl) hz)
          have hzz : (chk xs != 0) = true := by simpa using hz
          clear hz
          go_wp2_with fail
          refine (checkMarks1 a2 w2.heap.size cc2 1 xs _ (new_cell (cs := [_]) rfl rfl) (HR2.out.below ((Below.refl _ _).alloc (Nat.le_refl _) _)) hs2).mono ?_
          rintro e w3 ⟨rfl, rfl⟩
          go_wp2_with fail
          go_ret
          exact ⟨ret_int HR.out.symm, HB2.out.alloc HB2.out.size _⟩

end Go.Proofs.YtgjmjdpddionmaaDoor
