/- Contracts of credit.has and of what it calls. -/
import Derived.Test.YtnlnaglaipjlfaaGreatDoorPpl
import Derived.Test.YtnlnaglaipjlfaaGreatDoorEqS
import Derived.Test.YtnlnaglaipjlfaaGreatDoorRdW0
import Derived.Test.YtnlnaglaipjlfaaGreatDoorFnd
namespace Go.Proofs.YtnlnaglaipjlfaaGreatDoor
open Go.RowKit Go.Dw

theorem ixP_map (L : List Psn) (q : ByteArray) : ixP (L.map Psn.x) q = L.findIdx fun x => decide (x.id = q) := by
  unfold ixP
  rw [List.findIdx_map]; rfl
set_option maxHeartbeats 1000000 in
theorem hasC_any (x : Psn) (q : ByteArray) (cb : Nat) (w : World) (hc : w.cell? ⟨cb, 0, none⟩ = some (.string q)) :
    Calls Tryz.prog 55 #[.agg #[.string x.id, .slice x.s.a x.s.xs.length x.s.c], .pointer (some ⟨cb, 0, none⟩)] w fun e w' => e = .returned (.bool (decide (x.id = q))) ∧ Below w.heap.size w w' := by
  have hlt := World.block_lt_of_cell? w _ hc
  simp only at hlt
  obtain ⟨id, s⟩ := x
  simp only
  have HB : Hid (Below w.heap.size w (w.alloc (.cells #[.string id, .slice s.a s.xs.length s.c] 41))) := (Below.refl _ _).alloc (Nat.le_refl _) _
  have hc2 : (w.alloc (.cells #[.string id, .slice s.a s.xs.length s.c] 41)).cell? ⟨cb, 0, none⟩ = some (.string q) := by rw [HB.out.cell (by exact hlt)]; exact hc
  by_cases he : id = q
  · have HE : Hid (decide (id = q) = true) := by show _ = _; simpa using he
    have hs := seq_t he
    clear he
    go_enter Tryz.func55, Tryz.ntmps55
    go_wp2_with fail
    go_ret
    exact ⟨ret_bool HE.out.symm, HB.out⟩
  · have HE : Hid (decide (id = q) = false) := by show _ = _; simpa using he
    have hs := seq_f he
    clear he
    go_enter Tryz.func55, Tryz.ntmps55
    go_wp2_with fail
    go_ret
    exact ⟨ret_bool HE.out.symm, HB.out⟩
set_option maxHeartbeats 1000000 in
theorem idxP_any (A : Option Addr) (c : Nat) (L : List Psn) (q : ByteArray) (cb : Nat) (w : World) (h : Rd w A (L.flatMap Psn.cs)) (hn : L.length ≤ 9223372036854775807) (hq : w.cell? ⟨cb, 0, none⟩ = some (.string q)) :
    Calls Tryz.prog 12 #[.slice A L.length c, .func (.func 55) #[] #[.pointer (some ⟨cb, 0, none⟩)]] w fun e w' => e = .returned (.int .i64 (idxI (ixP (L.map Psn.x) q) L.length)) ∧ Below w.heap.size w w' := by
  have HR := Lib.hid h
  have HQ := Lib.hid hq
  have hlt := World.block_lt_of_cell? w _ hq
  simp only at hlt
  have HIX := Lib.hid (ixP_map L q)
  clear h hq
  generalize ixP (L.map Psn.x) q = ix at *
  go_enter Tryz.func12, Tryz.ntmps12
  go_wp2_with fail
  go_loopw [8] (fun kv wr => ∃ k : Nat, k ≤ L.length ∧ kv = .int .i64 (k : Int) ∧ Hid (∀ j (hj : j < L.length), j < k → decide (L[j].id = q) = false) ∧ Hid (Below w.heap.size w wr)) (fun kv _ => L.length - (intOf kv).toNat)
  case atStart => exact ⟨0, Nat.zero_le _, rfl, by intro j hj hj0; omega, Below.refl _ _⟩
  case round =>
    obtain ⟨k, hk, rfl, HALL, HB⟩ := hrel
    by_cases hkl : k < L.length
    case neg =>
      have hd1 : decide (k < L.length) = false := by simpa using hkl
      have HE : Hid (idxI ix L.length = -1) := by
        show _ = _
        rw [HIX.out, find_no (fun j hj => HALL.out j hj (by omega))]
        unfold idxI; rw [if_neg (by omega)]
      go_wp2_with fail
      go_ret
      exact ⟨ret_int HE.out.symm, HB.out⟩
    have hd1 : decide (k < L.length) = true := by simpa using hkl
    obtain ⟨b, off, rfl, hb, hcs⟩ := psn_at HR.out (by omega)
    obtain ⟨d0, d1⟩ := hcs k hkl
    rw [← HB.out.cell (by exact hb)] at d0 d1
    have HC := Lib.hid (hasC_any L[k] q cb wr (by rw [HB.out.cell (by exact hlt)]; exact HQ.out))
    have HTR : Hid (decide (L[k].id = q) = true → idxI ix L.length = (k : Int)) := fun ht => by
      rw [HIX.out, find_at hkl (fun j hj => HALL.out j (by omega) hj) ht]
      unfold idxI; rw [if_pos hkl]
    have HFL : Hid (decide (L[k].id = q) = false → ∀ j (hj : j < L.length), j < k + 1 → decide (L[j].id = q) = false) := fun hf j hj hj1 => by
      by_cases e : j = k
      · subst e; exact hf
      · exact HALL.out j hj (by omega)
    clear hcs
    obtain ⟨bv, hbv⟩ : ∃ bv, decide (L[k].id = q) = bv := ⟨_, rfl⟩
    rw [hbv] at HC HTR HFL
    clear hbv
    generalize L[k] = x at *
    obtain ⟨id, s⟩ := x
    simp only at d0 d1 HC
    go_wp2_with fail
    refine HC.out.mono ?_
    rintro e w1 ⟨rfl, hb1⟩
    have HB1 := Lib.hid (HB.out.trans (hb1.mono HB.out.size))
    clear hb1 d0 d1
    cases bv with
    | true =>
      have HE := Lib.hid (HTR.out (by first | rfl | trivial))
      go_wp2_with fail
      go_ret
      exact ⟨ret_int HE.out.symm, HB1.out⟩
    | false =>
      have HN := Lib.hid (HFL.out (by first | rfl | trivial))
      go_wp2_with fail
      go_roundw
      case rel => exact ⟨k + 1, by omega, by go_num, HN, HB1⟩
      case measure => simp [intOf]; omega
set_option maxHeartbeats 1000000 in
theorem cfP_any (A : Option Addr) (c : Nat) (L : List Psn) (q : ByteArray) (cb : Nat) (w : World) (h : Rd w A (L.flatMap Psn.cs)) (hn : L.length ≤ 9223372036854775807) (hq : w.cell? ⟨cb, 0, none⟩ = some (.string q)) :
    Calls Tryz.prog 54 #[.slice A L.length c, .func (.func 55) #[] #[.pointer (some ⟨cb, 0, none⟩)]] w fun e w' => e = .returned (.bool (decide (ixP (L.map Psn.x) q < L.length))) ∧ Below w.heap.size w w' := by
  have HI := Lib.hid (idxP_any A c L q cb w h hn hq)
  clear h hq
  generalize ixP (L.map Psn.x) q = ix at *
  rcases hasV ix L.length with ⟨e1, e2⟩ | ⟨e1, e2⟩
  · rw [e1] at HI
    have HE : Hid (decide (ix < L.length) = true) := by show _ = _; simpa using e2
    have hz : (0 : Int) ≤ (ix : Int) := by omega
    clear e1 e2
    go_enter Tryz.func54, Tryz.ntmps54
    go_wp2_with fail
    refine HI.out.mono ?_
    rintro e w1 ⟨rfl, hb1⟩
    have HB1 := Lib.hid hb1
    clear hb1
    go_wp2_with fail
    go_ret
    exact ⟨ret_bool (by rw [HE.out]), HB1.out⟩
  · rw [e1] at HI
    have HE : Hid (decide (ix < L.length) = false) := by show _ = _; simpa using e2
    clear e1 e2
    go_enter Tryz.func54, Tryz.ntmps54
    go_wp2_with fail
    refine HI.out.mono ?_
    rintro e w1 ⟨rfl, hb1⟩
    have HB1 := Lib.hid hb1
    clear hb1
    go_wp2_with fail
    go_ret
    exact ⟨ret_bool HE.out.symm, HB1.out⟩
set_option maxHeartbeats 1000000 in
theorem has_any (x : Peo) (q : ByteArray) (w : World) (h : PeoOk w x) :
    Calls Tryz.prog 34 #[x.v, .string q] w fun e w' => e = .returned (.bool (decide (ixP x.x.ps q < x.x.ps.length))) ∧ Below w.heap.size w w' := by
  obtain ⟨⟨A, c, L⟩, ⟨B, d, C⟩⟩ := x
  unfold Peo.v Peo.x
  simp only [Slc.v, List.length_map]
  have HP := Lib.hid h.pr
  have hn : L.length ≤ 9223372036854775807 := h.pl
  clear h
  obtain ⟨w2, hw2⟩ : ∃ w2, w2 = (w.alloc (.cells #[.slice A L.length c, .slice B C.length d] 25)).alloc (.cells #[.string q] 9) := ⟨_, rfl⟩
  have HB2 : Hid (Below w.heap.size w w2) := by rw [hw2]; exact ((Below.refl _ _).alloc (Nat.le_refl _) _).alloc (by simp) _
  have HC := Lib.hid (cfP_any A c L q (w.heap.size + 1) w2 (HP.out.below HB2.out) hn (by rw [hw2]; exact new_cell (cs := [_]) (by simp) rfl))
  have HW2 := Lib.hid hw2
  clear hw2
  go_enter Tryz.func34, Tryz.ntmps34
  go_wp2_with fail
  rw [← HW2.out]
  refine HC.out.mono ?_
  rintro e w3 ⟨rfl, hb3⟩
  have HB3 := Lib.hid (HB2.out.trans (hb3.mono HB2.out.size))
  clear hb3
  go_wp2_with fail
  go_ret
  exact ⟨rfl, HB3.out⟩
end Go.Proofs.YtnlnaglaipjlfaaGreatDoor
