/- The contracts of the reference's person and less. -/
import Derived.Test.YtnlnaglaipjlfaaGreatDoorPplF
namespace Go.Proofs.YtnlnaglaipjlfaaGreatDoor
open Go.RowKit Go.Dw

/-- what person says -/
def pix (ps : List Psp) (q : ByteArray) : Int := if ixP ps q < ps.length then (ixP ps q : Nat) else -1
theorem pix_at {ps : List Psp} {q : ByteArray} {k : Nat} (hk : k < ps.length) (he : ps[k].id = q) (hb : ∀ j (hj : j < ps.length), j < k → ¬ ps[j].id = q) : pix ps q = k := by
  have := ixP_first hk he (fun j hj => hb j (by omega) hj)
  unfold pix; rw [this, if_pos hk]
theorem pix_no {ps : List Psp} {q : ByteArray} (hb : ∀ j (hj : j < ps.length), ¬ ps[j].id = q) : pix ps q = -1 := by
  have := ixP_none (ps := ps) (id := q) hb
  unfold pix; rw [this, if_neg (by omega)]
set_option maxRecDepth 100000 in
set_option maxHeartbeats 2000000 in
theorem personR_any (x : Peo) (q : ByteArray) (w : World) (h : PeoOk w x) :
    Calls Tryz.prog 25 #[x.v, .string q] w fun e w' => e = .returned (.int .i64 (pix x.x.ps q)) ∧ Below w.heap.size w w' := by
  have HOK := Lib.hid h
  obtain ⟨⟨A, c, L⟩, ⟨B, d, C⟩⟩ := x
  have HPP : Hid ((Peo.x ⟨⟨A, c, L⟩, ⟨B, d, C⟩⟩).ps = L.map Psn.x) := rfl
  rw [HPP.out]
  unfold Peo.v
  simp only [Slc.v]
  have hpl : L.length ≤ 9223372036854775807 := h.pl
  clear h
  obtain ⟨w0, hw0⟩ : ∃ w0, w0 = w.alloc (.cells #[.slice A L.length c, .slice B C.length d] 25) := ⟨_, rfl⟩
  have HB0 : Hid (Below w.heap.size w w0) := by rw [hw0]; exact (Below.refl _ _).alloc (Nat.le_refl _) _
  obtain ⟨z0, z1⟩ : w0.cell? ⟨w.heap.size, 0, none⟩ = some (.slice A L.length c) ∧ w0.cell? ⟨w.heap.size, 1, none⟩ = some (.slice B C.length d) := by rw [hw0]; exact peoBox
  have HW0 := Lib.hid hw0
  clear hw0
  go_enter Tryz.func25, Tryz.ntmps25
  go_upto_region 1 with (fail)
  rw [← HW0.out]
  go_wp2_with fail
  go_loopw [10] (fun kv wr => ∃ k : Nat, k ≤ L.length ∧ kv = .int .i64 (k : Int) ∧ Hid (∀ j (hj : j < L.length), j < k → ¬ L[j].id = q) ∧ Hid (Below w.heap.size w wr)) (fun kv _ => L.length - (intOf kv).toNat)
  case atStart => exact ⟨0, Nat.zero_le _, rfl, by intro j hj hj0; omega, HB0⟩
  case round =>
    obtain ⟨k, hk, rfl, HALL, HB⟩ := hrel
    by_cases hkl : k < L.length
    case neg =>
      have hd1 : decide (k < L.length) = false := by simpa using hkl
      have HE : Hid (pix (L.map Psn.x) q = -1) := pix_no fun j hj => by simp only [List.getElem_map]; exact HALL.out j (by simpa using hj) (by simp at hj; omega)
      go_wp2_with fail
      go_ret
      exact ⟨ret_int HE.out.symm, HB.out⟩
    have hd1 : decide (k < L.length) = true := by simpa using hkl
    obtain ⟨b, off, hAB, hb, hcs⟩ := psn_at (HOK.out.pr.below HB.out) (by show 0 < L.length; omega)
    simp only at hAB hcs
    subst hAB
    obtain ⟨d0, d1⟩ := hcs k hkl
    have HTR : Hid (L[k].id = q → pix (L.map Psn.x) q = k) := fun he => by
      rw [pix_at (k := k) (by simpa using hkl) (by simp only [List.getElem_map]; exact he) (fun j hj hjk => by simp only [List.getElem_map]; exact HALL.out j (by simpa using hj) hjk)]
    have HFL : Hid (¬ L[k].id = q → ∀ j (hj : j < L.length), j < k + 1 → ¬ L[j].id = q) := fun hf j hj hj1 => by
      by_cases e : j = k
      · subst e; exact hf
      · exact HALL.out j hj (by omega)
    clear hcs
    generalize L[k] = x at *
    obtain ⟨id, ⟨sa, sc, sl⟩⟩ := x
    simp only at d0 d1 HTR HFL
    obtain ⟨wo, hwo⟩ : ∃ wo, wo = wr := ⟨_, rfl⟩
    subst hwo
    have HBA : Hid (Below w.heap.size w (wo.alloc (.cells #[.string id, .slice sa sl.length sc] 41))) := HB.out.alloc HB.out.size _
    by_cases he : id = q
    · have hse := seq_t he
      have HE := Lib.hid (HTR.out he)
      clear he HTR HFL
      go_wp2_with fail
      go_ret
      exact ⟨ret_int HE.out.symm, HBA.out⟩
    · have hse := seq_f he
      have HN := Lib.hid (HFL.out he)
      clear he HTR HFL
      go_wp2_with fail
      go_roundw
      case rel => exact ⟨k + 1, by omega, by go_num, HN.out, HBA⟩
      case measure => simp [intOf]; omega
/-- the box of a claim -/
theorem clmBox {w : World} {a b c : Value} : (w.alloc (.cells #[a, b, c] 49)).cell? ⟨w.heap.size, 0, none⟩ = some a ∧ (w.alloc (.cells #[a, b, c] 49)).cell? ⟨w.heap.size, 1, none⟩ = some b ∧ (w.alloc (.cells #[a, b, c] 49)).cell? ⟨w.heap.size, 2, none⟩ = some c := by
  refine ⟨new_cell (cs := [_, _, _]) rfl rfl, new_cell (cs := [_, _, _]) rfl rfl, new_cell (cs := [_, _, _]) rfl rfl⟩
theorem clLt_f {a b c d : ByteArray} {s t : Bool} (h : sLt c a) : clLt ⟨a, b, s⟩ ⟨c, d, t⟩ = false := by
  have h2 : ¬ a = c := fun e => by subst e; exact sLt_irr _ h
  simp [clLt, sLt_asymm h, h2]
theorem clLt_t {a b c d : ByteArray} {s t : Bool} (h : sLt a c) : clLt ⟨a, b, s⟩ ⟨c, d, t⟩ = true := by simp [clLt, h]
theorem clLt_e {a b d : ByteArray} {s t : Bool} : clLt ⟨a, b, s⟩ ⟨a, d, t⟩ = decide (sLt b d) := by simp [clLt, sLt_irr]
theorem bs_iff (a b : ByteArray) : Op.bytesLess a.toList b.toList = decide (sLt a b) := by
  rcases sLt_tri a b with h | h | h
  · rw [bLe_lt h]; simp [h]
  · subst h; rw [(bLe_eq a).1]; simp [sLt_irr]
  · rw [(bLe_gt h).1]; simpa using sLt_asymm h
set_option maxRecDepth 100000 in
set_option maxHeartbeats 2000000 in
theorem less_any (x y : Clm) (w : World) :
    Calls Tryz.prog 28 #[.agg #[.string x.a, .string x.b, .bool x.s], .agg #[.string y.a, .string y.b, .bool y.s]] w fun e w' => e = .returned (.bool (clLt x y)) ∧ Below w.heap.size w w' := by
  obtain ⟨xa, xb, xs⟩ := x
  obtain ⟨ya, yb, ys⟩ := y
  obtain ⟨r, hr⟩ : ∃ r, clLt ⟨xa, xb, xs⟩ ⟨ya, yb, ys⟩ = r := ⟨_, rfl⟩
  have HR := Lib.hid hr
  clear hr
  have HBF : Hid (Below w.heap.size w ((w.alloc (.cells #[.string xa, .string xb, .bool xs] 49)).alloc (.cells #[.string ya, .string yb, .bool ys] 49))) := ((Below.refl _ _).alloc (Nat.le_refl _) _).alloc (by simp) _
  go_enter Tryz.func28, Tryz.ntmps28
  have b1 := bs_iff xa ya
  have b2 := bs_iff xb yb
  rcases sLt_tri xa ya with hl | hl | hl
  · have HE : Hid (r = true) := by show _ = _; rw [← HR.out, clLt_t hl]
    have e1 : Op.bytesLess xa.toList ya.toList = true := by rw [b1]; simpa using hl
    clear b1 b2 hl
    go_wp2_with fail
    go_ret
    exact ⟨by rw [HR.out, HE.out]; rfl, HBF.out⟩
  · subst hl
    have HE : Hid (r = decide (sLt xb yb)) := by show _ = _; rw [← HR.out, clLt_e]
    have e1 : Op.bytesLess xa.toList xa.toList = false := by rw [b1]; simp [sLt_irr]
    have e2 : (xa.toList == xa.toList) = true := by simp
    clear b1
    obtain ⟨z, hz⟩ : ∃ z, decide (sLt xb yb) = z := ⟨_, rfl⟩
    rw [hz] at b2 HE
    clear hz
    cases z
    · go_wp2_with fail
      go_ret
      exact ⟨by rw [HR.out, HE.out]; rfl, HBF.out⟩
    · go_wp2_with fail
      go_ret
      exact ⟨by rw [HR.out, HE.out]; rfl, HBF.out⟩
  · have HE : Hid (r = false) := by show _ = _; rw [← HR.out, clLt_f hl]
    have e1 : Op.bytesLess xa.toList ya.toList = false := by rw [b1]; simpa using sLt_asymm hl
    have e2 : (xa.toList == ya.toList) = false := seq_f (fun e => by subst e; exact sLt_irr _ hl)
    clear b1 b2 hl
    go_wp2_with fail
    go_ret
    exact ⟨by rw [HR.out, HE.out]; rfl, HBF.out⟩
end Go.Proofs.YtnlnaglaipjlfaaGreatDoor
