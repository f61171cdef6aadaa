/- The contract of match.Cost. -/
import Derived.Test.YtdgkchdobmhpnaaAlnF
import Derived.Deep.DeepCutAuto
namespace Go.Proofs.Ytdgkchdobmhpnaa
open Go.RowKit Go.Dw
attribute [local go_sem ↓] Go.wp_at_zero Go.wp_at_succ

/-- Cost -/
def coR (a b : List Int) (l : List (Int × Int)) (g : Int) : Int × Int := if chA a b g ≠ 0 then (0, chA a b g) else coGo g a b none (g * ((a.length : Int) + b.length)) l
def prv (l : List (Int × Int)) (k : Nat) : Option (Int × Int) := if k = 0 then none else some (l.getD (k - 1) (0, 0))
theorem prv_0 (l : List (Int × Int)) : prv l 0 = none := rfl
theorem prv_s (l : List (Int × Int)) (k : Nat) (h : k < l.length) : prv l (k + 1) = some l[k] := by
  unfold prv
  rw [if_neg (by omega), Nat.add_sub_cancel, List.getD_eq_getElem?_getD, List.getElem?_eq_getElem h]; rfl
section
variable {g : Int} {a b : List Int} {l : List (Int × Int)} {c : Int} {k : Nat}
/-- one link -/
theorem co_range (pr : Option (Int × Int)) (h : k < l.length) (hr : ¬ (0 ≤ l[k].1 ∧ l[k].1 < a.length ∧ 0 ≤ l[k].2 ∧ l[k].2 < b.length)) : coGo g a b pr c (l.drop k) = (0, 1) := by
  rw [List.drop_eq_getElem_cons h, coGo, if_pos hr]
theorem co_order (pr : Option (Int × Int)) (h : k < l.length) (hr : 0 ≤ l[k].1 ∧ l[k].1 < a.length ∧ 0 ≤ l[k].2 ∧ l[k].2 < b.length) (ho : ordB l[k] pr = true) : coGo g a b pr c (l.drop k) = (0, 8) := by
  rw [List.drop_eq_getElem_cons h, coGo, if_neg (fun hh => hh hr), if_pos ho]
theorem co_next (pr : Option (Int × Int)) (h : k < l.length) (hr : 0 ≤ l[k].1 ∧ l[k].1 < a.length ∧ 0 ≤ l[k].2 ∧ l[k].2 < b.length) (ho : ordB l[k] pr = false) :
    coGo g a b pr c (l.drop k) = coGo g a b (prv l (k + 1)) (c + bd (a.getD l[k].1.toNat 0) (b.getD l[k].2.toNat 0) - 2 * g) (l.drop (k + 1)) := by
  rw [List.drop_eq_getElem_cons h, coGo, if_neg (fun hh => hh hr), ho, prv_s l k h]; rfl
theorem co_end (pr : Option (Int × Int)) (h : l.length ≤ k) : coGo g a b pr c (l.drop k) = (c, 0) := by
  rw [List.drop_of_length_le h, coGo]
end
/-- the links ahead of k are right -/
def Rit (a : List Int) (l : List (Int × Int)) (k : Nat) : Prop := 0 < k → ((k : Int) - 1 ≤ (l.getD (k - 1) (0, 0)).1 ∧ (l.getD (k - 1) (0, 0)).1 < a.length)
theorem Rit.le {a : List Int} {l : List (Int × Int)} {k : Nat} (h : Rit a l k) : k ≤ a.length := by
  by_cases h0 : 0 < k
  · have := h h0; omega
  · omega
theorem Rit.next {a : List Int} {l : List (Int × Int)} {k : Nat} (h : Rit a l k) (hk : k < l.length) (hr : 0 ≤ l[k].1 ∧ l[k].1 < a.length) (ho : ordB l[k] (prv l k) = false) : Rit a l (k + 1) := by
  intro _
  have e : l.getD (k + 1 - 1) (0, 0) = l[k] := by rw [Nat.add_sub_cancel, List.getD_eq_getElem?_getD, List.getElem?_eq_getElem hk]; rfl
  rw [e]
  by_cases h0 : k = 0
  · subst h0; omega
  · have h1 := h (by omega)
    unfold prv at ho
    rw [if_neg h0] at ho
    simp only [ordB, decide_eq_false_iff_not, not_or] at ho
    omega
theorem mark_cell {w : World} {A : Option Addr} {xs : List Int} (h : Rd w A (ic xs)) {i : Nat} (hi : i < xs.length) : ∃ b off, A = some ⟨b, off, none⟩ ∧ b < w.heap.size ∧ w.cell? ⟨b, off + i, none⟩ = some (.int .i64 (xs.getD i 0)) := by
  obtain ⟨b, off, rfl, hb, hc⟩ := h.at_ (by rw [ic_length]; omega)
  refine ⟨b, off, rfl, hb, ?_⟩
  rw [hc i _ (ic_at _ i hi), List.getD_eq_getElem?_getD, List.getElem?_eq_getElem hi]; rfl

set_option maxRecDepth 100000 in
set_option maxHeartbeats 2000000 in
theorem cost_any (Aa Ab Al : Option Addr) (ca cb cl : Nat) (a b : List Int) (l : List (Int × Int)) (g : Int) (w : World) (ha : Rd w Aa (ic a)) (hb : Rd w Ab (ic b)) (hl : Rd w Al (pc l)) (hna : a.length ≤ 9223372036854775807) (hnb : b.length ≤ 9223372036854775807) (hnl : l.length ≤ 9223372036854775807) :
    Calls Try.prog 21 #[.slice Aa a.length ca, .slice Ab b.length cb, .slice Al l.length cl, .int .i64 g] w fun e w' => e = .returned (.tuple #[.int .i64 (coR a b l g).1, .int .i64 (coR a b l g).2]) ∧ Below w.heap.size w w' := by
  have HCK := Lib.hid (checkAlign_any Aa Ab ca cb a b g w ha hb hna hnb)
  go_enter Try.func21, Try.ntmps21
  go_wp2_with fail
  refine HCK.out.mono ?_
  rintro e w1 ⟨rfl, hb1⟩
  have HB1 := Lib.hid hb1
  by_cases hz : chA a b g = 0
  case neg =>
    have hzb : (chA a b g != 0) = true := by simpa using hz
    have HR : Hid (coR a b l g = (0, chA a b g)) := by show _ = _; unfold coR; rw [if_pos hz]
    clear hz hb1
    go_wp2_with fail
    go_ret2
    exact ⟨by rw [HR.out]; rfl, HB1.out⟩
  have hzb : (chA a b g != 0) = false := by simpa using hz
  have HR : Hid (coR a b l g = coGo g a b none (g * ((a.length : Int) + b.length)) l) := by show _ = _; unfold coR; rw [if_neg (fun h => h hz)]
  obtain ⟨hz1, hz2, hl1, hl2, hg1, hg2⟩ := chA_zero hz
  have HMA := Lib.hid (chkA_zero hz1).2
  have HMB := Lib.hid (chkA_zero hz2).2
  have HA1 := Lib.hid (ha.below hb1)
  have HA2 := Lib.hid (hb.below hb1)
  have HA3 := Lib.hid (hl.below hb1)
  have hmu : 0 ≤ g * ((a.length : Int) + b.length) ∧ g * ((a.length : Int) + b.length) ≤ 60000 := by
    have : g * ((a.length : Int) + b.length) ≤ 100 * 600 := Int.mul_le_mul hg2 (by omega) (by omega) (by omega)
    exact ⟨Int.mul_nonneg hg1 (by omega), by omega⟩
  clear hz hz1 hz2 hb1 HCK ha hb hl
  go_wp2_with fail
  go_loopw [11, 30] (fun cv iv wr => ∃ (k : Nat) (c : Int), k ≤ l.length ∧ iv = .int .i64 (k : Int) ∧ cv = .int .i64 c ∧ Hid (coGo g a b (prv l k) c (l.drop k) = coR a b l g) ∧ Hid (Rit a l k) ∧ -(200 * (k : Int)) ≤ c ∧ c ≤ 60000 + 8 * k ∧ Below w1.heap.size w1 wr) (fun _ iv _ => l.length - (intOf iv).toNat)
  case atStart => exact ⟨0, g * ((a.length : Int) + b.length), Nat.zero_le _, rfl, rfl, by rw [HR.out]; exact rfl, fun h => absurd h (Nat.lt_irrefl _), by omega, by omega, Below.refl _ _⟩
  case round =>
    obtain ⟨k, c, hk, rfl, rfl, HCO, HRI, hc1, hc2, hB⟩ := hrel
    have hk3 := HRI.out.le
    have HBF := Lib.hid (HB1.out.trans (hB.mono HB1.out.size))
    by_cases hkl : k < l.length
    case neg =>
      have HE : Hid (coR a b l g = (c, 0)) := by show _ = _; rw [← HCO.out, co_end _ (by omega)]
      clear hB
      go_wp2_with fail
      go_ret2
      exact ⟨by rw [HE.out]; rfl, HBF.out⟩
    have h31 : decide ((k : Int) < (l.length : Int)) = true := by simp; omega
    have h31' : decide (k < l.length) = true := by simp; omega
    obtain ⟨bl, ol, rfl, hblz, hlc⟩ := (HA3.out.below hB).at_ (by rw [pc_length]; omega)
    have hlk := pc_at l k hkl
    have l0 := hlc _ _ hlk.1
    have l1 := hlc _ _ hlk.2
    rw [← Nat.add_assoc] at l1
    have HLC := Lib.hid hlc
    have HRN : Hid (¬ (0 ≤ l[k].1 ∧ l[k].1 < a.length ∧ 0 ≤ l[k].2 ∧ l[k].2 < b.length) → coR a b l g = (0, 1)) := fun h => by rw [← HCO.out, co_range _ hkl h]
    have HON : Hid (0 ≤ l[k].1 ∧ l[k].1 < a.length ∧ 0 ≤ l[k].2 ∧ l[k].2 < b.length → ordB l[k] (prv l k) = true → coR a b l g = (0, 8)) := fun h h2 => by rw [← HCO.out, co_order _ hkl h h2]
    have HNX : Hid (0 ≤ l[k].1 ∧ l[k].1 < a.length ∧ 0 ≤ l[k].2 ∧ l[k].2 < b.length → ordB l[k] (prv l k) = false → coGo g a b (prv l (k + 1)) (c + bd (a.getD l[k].1.toNat 0) (b.getD l[k].2.toNat 0) - 2 * g) (l.drop (k + 1)) = coR a b l g ∧ Rit a l (k + 1)) := fun h h2 => ⟨by rw [← HCO.out, co_next _ hkl h h2], HRI.out.next hkl ⟨h.1, h.2.1⟩ h2⟩
    clear hlk hlc HCO
    generalize l[k] = kk at *
    obtain ⟨xa, xb⟩ := kk
    simp only at l0 l1 HRN HON HNX
    have HB := Lib.hid hB
    clear hB
    by_cases h1 : xa < 0
    · have HE := Lib.hid (HRN.out (by omega))
      go_wp2_with fail
      go_ret2
      exact ⟨by rw [HE.out]; rfl, HBF.out.alloc HBF.out.size _⟩
    by_cases h2 : (a.length : Int) ≤ xa
    · have HE := Lib.hid (HRN.out (by omega))
      go_wp2_with fail
      go_ret2
      exact ⟨by rw [HE.out]; rfl, HBF.out.alloc HBF.out.size _⟩
    by_cases h3 : xb < 0
    · have HE := Lib.hid (HRN.out (by omega))
      go_wp2_with fail
      go_ret2
      exact ⟨by rw [HE.out]; rfl, HBF.out.alloc HBF.out.size _⟩
    by_cases h4 : (b.length : Int) ≤ xb
    · have HE := Lib.hid (HRN.out (by omega))
      go_wp2_with fail
      go_ret2
      exact ⟨by rw [HE.out]; rfl, HBF.out.alloc HBF.out.size _⟩
    obtain ⟨na, rfl⟩ := Int.eq_ofNat_of_zero_le (show 0 ≤ xa by omega)
    obtain ⟨nb, rfl⟩ := Int.eq_ofNat_of_zero_le (show 0 ≤ xb by omega)
    have hna2 : na < a.length := by omega
    have hnb2 : nb < b.length := by omega
    have HON2 := Lib.hid (HON.out ⟨by omega, by omega, by omega, by omega⟩)
    have HNX2 := Lib.hid (HNX.out ⟨by omega, by omega, by omega, by omega⟩)
    clear HON HNX HRN
    have hd1 : ¬ ((na : Int) < 0) := by omega
    have hd2 : ¬ ((a.length : Int) ≤ (na : Int)) := by omega
    have hd3 : ¬ ((nb : Int) < 0) := by omega
    have hd4 : ¬ ((b.length : Int) ≤ (nb : Int)) := by omega
    have hd2' : ¬ (a.length ≤ na) := by omega
    have hd4' : ¬ (b.length ≤ nb) := by omega
    clear h1 h2 h3 h4
    go_wp2_with fail
    have hBB : Below w1.heap.size w1 (wr.alloc (.cells #[.int .i64 (na : Int), .int .i64 (nb : Int)] 52)) := HB.out.alloc HB.out.size _
    have hbx : Blk (wr.alloc (.cells #[.int .i64 (na : Int), .int .i64 (nb : Int)] 52)) wr.heap.size 52 [.int .i64 (na : Int), .int .i64 (nb : Int)] := Blk.new wr _ _
    have hlc2 : ∀ j u, (pc l)[j]? = some u → (wr.alloc (.cells #[.int .i64 (na : Int), .int .i64 (nb : Int)] 52)).cell? ⟨bl, ol + j, none⟩ = some u := fun j u hu => by
      rw [Below.cell ((Below.refl _ _).alloc (Nat.le_refl _) _) (by exact hblz)]; exact HLC.out j u hu
    generalize wr.alloc (.cells #[.int .i64 (na : Int), .int .i64 (nb : Int)] 52) = wB at *
    have y0 := hbx.cell 0
    have y1 := hbx.cell 1
    simp only [List.getElem?_cons_zero, List.getElem?_cons_succ] at y0 y1
    have HL2 := Lib.hid hlc2
    have HBB := Lib.hid hBB
    obtain ⟨ob, hob⟩ : ∃ v, ordB ((na : Int), (nb : Int)) (prv l k) = v := ⟨_, rfl⟩
    rw [hob] at HON2 HNX2
    have HOB := Lib.hid hob
    clear hob hBB hlc2 hbx l0 l1 HLC
    go_cut [80] (fun v wx => v = .bool ob ∧ ∃ n, wx = wB.drewN n)
    case first =>
      as_aux_lemma =>
      by_cases hk0 : k = 0
      · have hd : decide (0 < k) = false := by simp; exact hk0
        have HE : Hid (ob = false) := by show _ = _; rw [← HOB.out, hk0]; rfl
        clear hk0
        go_quiet (fail)
        go_wp2_with fail
        go_meet
        case rel => exact ⟨by rw [HE.out], _, rfl⟩
      · have hd : decide (0 < k) = true := by simp; omega
        have hpp := pc_at l (k - 1) (by omega)
        have q0 := HL2.out _ _ hpp.1
        have q1 := HL2.out _ _ hpp.2
        rw [← Nat.add_assoc] at q1
        have hpr : prv l k = some (l[k - 1]'(by omega)) := by
          unfold prv
          rw [if_neg hk0, List.getD_eq_getElem?_getD, List.getElem?_eq_getElem (by omega)]; rfl
        rw [hpr] at HOB
        clear hpp hpr
        generalize l[k - 1]'(by omega) = pp at *
        obtain ⟨pa, pb⟩ := pp
        simp only at q0 q1
        have hw : IntKind.i64.wrap ((k : Int) - 1) = (k : Int) - 1 := IntWalk.i64_in _ (by omega)
        have hi1 : ((k : Int) - 1).toNat = k - 1 := by omega
        have hi2 : 0 ≤ (k : Int) - 1 := by omega
        have hi3 : (k : Int) - 1 < (l.length : Int) := by omega
        clear hk0
        by_cases o1 : (na : Int) ≤ pa
        · have HE : Hid (ob = true) := by show _ = _; rw [← HOB.out]; simp [ordB, o1]
          have d1 : decide ((na : Int) ≤ pa) = true := by simpa using o1
          go_quiet (fail)
          go_wp2_with fail
          go_meet
          case rel => exact ⟨by rw [HE.out], _, rfl⟩
        · have d1 : decide ((na : Int) ≤ pa) = false := by simpa using o1
          by_cases o2 : (nb : Int) ≤ pb
          · have HE : Hid (ob = true) := by show _ = _; rw [← HOB.out]; simp [ordB, o2]
            have d2 : decide ((nb : Int) ≤ pb) = true := by simpa using o2
            go_quiet (fail)
            go_wp2_with fail
            go_meet
            case rel => exact ⟨by rw [HE.out], _, rfl⟩
          · have HE : Hid (ob = false) := by show _ = _; rw [← HOB.out]; simp [ordB]; omega
            have d2 : decide ((nb : Int) ≤ pb) = false := by simpa using o2
            go_quiet (fail)
            go_wp2_with fail
            go_meet
            case rel => exact ⟨by rw [HE.out], _, rfl⟩
    case rest =>
    obtain ⟨rfl, n, hwx⟩ := hcut
    have hBC : Below w1.heap.size w1 wc := by rw [hwx]; exact below_drewN HBB.out n
    have z0 : wc.cell? ⟨wr.heap.size, 0, none⟩ = some (.int .i64 (na : Int)) := by rw [hwx]; exact y0
    have z1 : wc.cell? ⟨wr.heap.size, 1, none⟩ = some (.int .i64 (nb : Int)) := by rw [hwx]; exact y1
    clear hwx y0 y1 HL2 HBB
    have HBC := Lib.hid hBC
    cases ob with
    | true =>
      have HE := Lib.hid (HON2.out rfl)
      clear hBC
      go_wp2_with fail
      go_ret2
      exact ⟨by rw [HE.out]; rfl, HB1.out.trans (HBC.out.mono HB1.out.size)⟩
    | false =>
      have hnn := HNX2.out rfl
      rw [Int.toNat_natCast, Int.toNat_natCast] at hnn
      obtain ⟨ba, oa, rfl, _, ac⟩ := mark_cell (HA1.out.below hBC) hna2
      obtain ⟨bb, obb, rfl, _, bc'⟩ := mark_cell (HA2.out.below hBC) hnb2
      obtain ⟨ma, hma, hma2⟩ := HMA.out na
      obtain ⟨mb, hmb, hmb2⟩ := HMB.out nb
      rw [hma] at ac hnn
      rw [hmb] at bc' hnn
      have HNN := Lib.hid hnn.1
      have HRI2 := Lib.hid hnn.2
      have hxor := xor_nat ma mb hma2 hmb2
      have hlt := xor_lt ma mb hma2 hmb2
      have HBD : Hid (bd (ma : Int) (mb : Int) = (popN 8 (ma ^^^ mb) : Int)) := by show _ = _; unfold bd; rw [Int.toNat_natCast, Int.toNat_natCast]
      clear hnn hBC hma hmb
      generalize ma ^^^ mb = x0 at *
      have hbd := popN_le 8 x0
      have HO := Lib.hid (fun W => ones_any x0 W hlt)
      have hw1 : IntKind.i64.wrap (2 * g) = 2 * g := IntWalk.i64_in _ (by omega)
      have hw2 : IntKind.i64.wrap ((popN 8 x0 : Int) - 2 * g) = (popN 8 x0 : Int) - 2 * g := IntWalk.i64_in _ (by omega)
      have hw3 : IntKind.i64.wrap (c + ((popN 8 x0 : Int) - 2 * g)) = c + ((popN 8 x0 : Int) - 2 * g) := IntWalk.i64_in _ (by omega)
      have hw4 : IntKind.u64.wrap (x0 : Int) = (x0 : Int) := by
        show (x0 : Int) % 18446744073709551616 = _
        omega
      have hi0 : (0 : Int) ≤ (na : Int) := by omega
      have hj0 : (0 : Int) ≤ (nb : Int) := by omega
      have hi1 : (na : Int) < (a.length : Int) := by omega
      have hj1 : (nb : Int) < (b.length : Int) := by omega
      go_wp2_with fail
      go_region_held3 (fun W => W.cell? ⟨wr.heap.size, 0, none⟩ = some (.int .i64 (na : Int)) ∧ W.cell? ⟨wr.heap.size, 1, none⟩ = some (.int .i64 (nb : Int)) ∧ W.cell? ⟨ba, oa + na, none⟩ = some (.int .i64 (ma : Int)) ∧ W.cell? ⟨bb, obb + nb, none⟩ = some (.int .i64 (mb : Int)))
        (first | assumption | go_keep)
        (first | (go_at_call 41; refine (HO.out _).mono ?_; rintro e w' ⟨rfl, rfl⟩))
      clear hw1 hw2 hw3 hw4
      go_wp2_with fail
      go_roundw
      case rel => exact ⟨k + 1, c + ((popN 8 x0 : Int) - 2 * g), by omega, by go_num, rfl, by rw [← HNN.out, HBD.out]; show _ = _; congr 1; omega, HRI2, by omega, by omega, HBC.out.drew⟩
      case measure => simp [intOf]; omega
end Go.Proofs.Ytdgkchdobmhpnaa
