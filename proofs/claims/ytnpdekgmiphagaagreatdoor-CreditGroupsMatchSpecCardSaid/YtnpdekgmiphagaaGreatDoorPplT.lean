/- The contract of the reference's agree. -/
import Derived.Test.YtnpdekgmiphagaaGreatDoorPplM
import Derived.Test.YtnpdekgmiphagaaGreatDoorAgrR
namespace Go.Proofs.YtnpdekgmiphagaaGreatDoor
open Go.RowKit Go.Dw

/-- some name of the one agrees with some name of the other -/
def agrN (x y : ByteArray) : Bool := agr x.data.toList y.data.toList
def agrP (a b : List ByteArray) : Bool := a.any fun x => b.any fun y => agrN x y
theorem agrP_t {a b : List ByteArray} {i j : Nat} (hi : i < a.length) (hj : j < b.length) (h : agrN a[i] b[j] = true) : agrP a b = true := by
  unfold agrP
  exact List.any_eq_true.2 ⟨a[i], List.getElem_mem hi, List.any_eq_true.2 ⟨b[j], List.getElem_mem hj, h⟩⟩
theorem agrP_f {a b : List ByteArray} (h : ∀ i (hi : i < a.length) j (hj : j < b.length), agrN a[i] b[j] = false) : agrP a b = false := by
  unfold agrP
  rw [List.any_eq_false]
  intro x hx
  obtain ⟨i, hi, rfl⟩ := List.getElem_of_mem hx
  rw [Bool.not_eq_true, List.any_eq_false]
  intro y hy
  obtain ⟨j, hj, rfl⟩ := List.getElem_of_mem hy
  rw [h i hi j hj]; simp
set_option maxRecDepth 100000 in
set_option maxHeartbeats 4000000 in
theorem agreeR_any (x y : Psn) (w : World) (hx : PsnOk w x) (hy : PsnOk w y) (hsx : ∀ s ∈ x.s.xs, s.size ≤ 1048576) (hsy : ∀ s ∈ y.s.xs, s.size ≤ 1048576) :
    Calls Tryz.prog 50 #[.agg #[.string x.id, x.s.v], .agg #[.string y.id, y.s.v]] w fun e w' => e = .returned (.bool (agrP x.s.xs y.s.xs)) ∧ Below w.heap.size w w' := by
  obtain ⟨xi, ⟨A, c, L⟩⟩ := x
  obtain ⟨yi, ⟨B, d, M⟩⟩ := y
  have HRX := Lib.hid hx.2.2.1
  have HRY := Lib.hid hy.2.2.1
  have hlx : L.length ≤ 9223372036854775807 := hx.2.1
  have hly : M.length ≤ 9223372036854775807 := hy.2.1
  have HSX := Lib.hid hsx
  have HSY := Lib.hid hsy
  simp only [Slc.v] at *
  clear hx hy hsx hsy
  obtain ⟨r, hr⟩ : ∃ r, agrP L M = r := ⟨_, rfl⟩
  have HR := Lib.hid hr
  rw [hr]
  clear hr
  obtain ⟨w0, hw0⟩ : ∃ w0, w0 = (w.alloc (.cells #[.string xi, .slice A L.length c] 46)).alloc (.cells #[.string yi, .slice B M.length d] 46) := ⟨_, rfl⟩
  have HB0 : Hid (Below w.heap.size w w0) := by rw [hw0]; exact ((Below.refl _ _).alloc (Nat.le_refl _) _).alloc (by simp) _
  have hz : w0.heap.size = w.heap.size + 2 := by rw [hw0]; simp
  have HX0 : Hid (w0.cell? ⟨w.heap.size, 1, none⟩ = some (.slice A L.length c) ∧ w0.cell? ⟨w.heap.size + 1, 1, none⟩ = some (.slice B M.length d)) := by
    rw [hw0]
    constructor
    · rw [Below.cell ((Below.refl (w.alloc (.cells #[.string xi, .slice A L.length c] 46)).heap.size _).alloc (Nat.le_refl _) _) (by show w.heap.size < _; simp)]
      exact new_cell (cs := [_, _]) rfl rfl
    · exact new_cell (cs := [_, _]) (by simp) rfl
  have HPX : Hid (∀ W, Gq w0 W → Below w.heap.size w W ∧ W.cell? ⟨w.heap.size, 1, none⟩ = some (.slice A L.length c) ∧ W.cell? ⟨w.heap.size + 1, 1, none⟩ = some (.slice B M.length d)) := fun W hW => by
    exact ⟨HB0.out.trans (Below.mono hW HB0.out.size), by rw [Below.cell hW (by show w.heap.size < _; omega)]; exact HX0.out.1, by rw [Below.cell hW (by show w.heap.size + 1 < _; omega)]; exact HX0.out.2⟩
  have HW0 := Lib.hid hw0
  obtain ⟨_, z0, z1⟩ := HPX.out w0 (Gq.refl _)
  clear hw0 HX0 hz
  go_enter Tryz.func50, Tryz.ntmps50
  go_upto_region 1 with (fail)
  rw [← HW0.out]
  go_wp2_with fail
  go_loopw [12] (fun iv wr => ∃ i : Nat, i ≤ L.length ∧ iv = .int .i64 (i : Int) ∧ Hid (∀ k (hk : k < L.length), k < i → ∀ j (hj : j < M.length), agrN L[k] M[j] = false) ∧ Hid (Gq w0 wr)) (fun iv _ => L.length - (intOf iv).toNat)
  case atStart => exact ⟨0, Nat.zero_le _, rfl, by intro k hk hk0; omega, Gq.refl _⟩
  case round =>
    clear z0 z1
    obtain ⟨i, hi, rfl, HALL, HG⟩ := hrel
    obtain ⟨wo, hwo⟩ : ∃ wo, wo = wr := ⟨_, rfl⟩
    subst hwo
    obtain ⟨hbw, z0, z1⟩ := HPX.out wo HG.out
    have HBW := Lib.hid hbw
    clear hbw
    by_cases hil : i < L.length
    case neg =>
      have hd1 : decide (i < L.length) = false := by simpa using hil
      have HE : Hid (r = false) := by show _ = _; rw [← HR.out, agrP_f fun k hk j hj => HALL.out k hk (by omega) j hj]
      go_wp2_with fail
      go_ret
      exact ⟨by rw [HE.out]; rfl, HBW.out⟩
    have hd1 : decide (i < L.length) = true := by simpa using hil
    obtain ⟨b, off, rfl, hb, hcs⟩ := (HRX.out.below HBW.out).at_ (by rw [sb_len]; omega)
    have d0 := hcs i _ (sb_at L i hil)
    clear hcs
    have HXS := Lib.hid (HSX.out _ (List.getElem_mem hil))
    have HIN : Hid ((∀ j (hj : j < M.length), agrN L[i] M[j] = false) → ∀ k (hk : k < L.length), k < i + 1 → ∀ j (hj : j < M.length), agrN L[k] M[j] = false) := fun hh k hk hk1 j hj => by
      by_cases e : k = i
      · subst e; exact hh j hj
      · exact HALL.out k hk (by omega) j hj
    have HTR : Hid (∀ j (hj : j < M.length), agrN L[i] M[j] = true → r = true) := fun j hj h => by rw [← HR.out]; exact agrP_t hil hj h
    generalize L[i] = s at *
    go_wp2_with fail
    go_loopw [19] (fun jv wr => ∃ j : Nat, j ≤ M.length ∧ jv = .int .i64 (j : Int) ∧ Hid (∀ k (hk : k < M.length), k < j → agrN s M[k] = false) ∧ Hid (Gq w0 wr)) (fun jv _ => M.length - (intOf jv).toNat)
    case atStart => exact ⟨0, Nat.zero_le _, rfl, by intro k hk hk0; omega, HG⟩
    case round =>
      clear z0 z1
      obtain ⟨j, hj, rfl, HAJ, HGJ⟩ := hrel
      obtain ⟨wq, hwq⟩ : ∃ wq, wq = wr := ⟨_, rfl⟩
      subst hwq
      by_cases hjl : j < M.length
      case neg =>
        have hd2 : decide (j < M.length) = false := by simpa using hjl
        have HN := Lib.hid (HIN.out fun k hk => HAJ.out k hk (by omega))
        go_wp2_with fail
        go_roundw
        case rel => exact ⟨i + 1, by omega, by go_num, HN.out, HGJ⟩
        case measure => simp [intOf]; omega
      have hd2 : decide (j < M.length) = true := by simpa using hjl
      have HBQ := Lib.hid (HPX.out wq HGJ.out).1
      obtain ⟨b2, off2, rfl, hb2, hcs⟩ := (HRY.out.below HBQ.out).at_ (by rw [sb_len]; omega)
      have e0 := hcs j _ (sb_at M j hjl)
      clear hcs
      have HA := Lib.hid (rAgree_any s M[j] wq HXS.out (HSY.out _ (List.getElem_mem hjl)))
      obtain ⟨v, hv⟩ : ∃ v, agrN s M[j] = v := ⟨_, rfl⟩
      have HTJ : Hid (v = true → r = true) := fun h => HTR.out j hjl (by rw [hv]; exact h)
      have HNJ : Hid (v = false → ∀ k (hk : k < M.length), k < j + 1 → agrN s M[k] = false) := fun h k hk hk1 => by
        by_cases e : k = j
        · subst e; rw [hv]; exact h
        · exact HAJ.out k hk (by omega)
      unfold agrN at hv
      rw [hv] at HA
      clear hv
      generalize M[j] = t at *
      go_wp2_with fail
      refine HA.out.mono ?_
      rintro e w5 ⟨rfl, hq5⟩
      have HG5 : Hid (Gq w0 w5) := Below.trans HGJ.out (hq5.mono (Below.size HGJ.out))
      have HB5 := Lib.hid (HPX.out w5 HG5.out).1
      clear hq5 d0 e0
      cases v with
      | true =>
        have HE := Lib.hid (HTJ.out rfl)
        go_wp2_with fail
        go_ret
        exact ⟨by rw [HE.out]; rfl, HB5.out⟩
      | false =>
        have HN := Lib.hid (HNJ.out rfl)
        go_wp2_with fail
        go_roundw
        case rel => exact ⟨j + 1, by omega, by go_num, HN.out, HG5⟩
        case measure => simp [intOf]; omega
end Go.Proofs.YtnpdekgmiphagaaGreatDoor
