/- The contract of the reference's divide. -/
import Derived.Test.YtlmgdofhmgpljaaDoorLmbF
import Derived.Deep.DeepCutAuto
import Derived.Deep.CutBlock
import Derived.Deep.RegionHeld3
namespace Go.Proofs.YtlmgdofhmgpljaaDoor
open Go.RowKit Go.Dw

def DivR (a b : Nat) (w : World) (e : Ending) (w' : World) : Prop := ∃ v1 v2, e = .returned (.tuple #[v1, v2]) ∧ LimV w' v1 (a / b) ∧ LimV w' v2 (a % b) ∧ Below w.heap.size w w'
/-- a rest with the next limb ahead of it -/
def NxtR (wr : World) (r : Nat) (v : Value) (W : World) : Prop := LimV W v r ∧ FrB wr.heap.size v ∧ Below wr.heap.size wr W
set_option maxRecDepth 100000 in
set_option maxHeartbeats 8000000 in
theorem divideR_any (va vb : Value) (a b : Nat) (w : World) (h : LimV w va a) (g : LimV w vb b) (hb : 0 < b) (k k' : Nat) (hk : Lim k a) (gk : Lim k' b) (hk2 : k ≤ 100000000) (hk3 : k' ≤ 100000000) :
    Calls Tryd.prog 38 #[va, vb] w (DivR a b w) := by
  obtain ⟨A, c, l, rfl, hr, hn, rfl⟩ := h
  have hL := Lim.len4 hn hk
  have HDl := Lib.hid hn.1
  have HRl := Lib.hid hr
  have HVB := Lib.hid g
  have HLB := Lib.hid gk
  have HB0 := Lib.hid hb
  have hw : L4 = 10000 := rfl
  have HW := Lib.hid hw
  clear hr hn hk hw g gk hb
  obtain ⟨wz, hwz⟩ : ∃ wz, wz = w.alloc (.cells (zs l.length (.int .i64 0)).toArray 3) := ⟨_, rfl⟩
  have HMK : ∀ W : World, (Instr.makeSlice 25 (.int .i64 (l.length : Int)) (.int .i64 (l.length : Int))).run Tryd.prog W = .ok (.slice (some ⟨W.heap.size, 0, none⟩) l.length l.length) (W.alloc (.cells (zs l.length (.int .i64 0)).toArray 3)) := fun W => run_mkI _ _ (by omega) (by omega) W
  have HST : Hid (DvI w (w.alloc (.cells (zs l.length (.int .i64 0)).toArray 3)) w.heap.size l b l.length (List.replicate l.length 0) (.slice none 0 0) 0) := by
    refine ⟨by simp, ?_, ?_, HB0.out, ?_, (Below.refl _ _).alloc (Nat.le_refl _) _, ⟨none, 0, [], rfl, .inl rfl, Nm.nil, rfl⟩, ⟨fun b hb => by simp [Value.ownBlock] at hb, fun n c h => by injection h with _ _ h3; exact h3.symm⟩⟩
    · intro x hx; rw [List.eq_of_mem_replicate hx]; decide
    · rw [List.drop_of_length_le (Nat.le_refl _), List.drop_of_length_le (by simp)]; simp [val]
    · have e : nc (List.replicate l.length 0) = zs l.length (.int .i64 0) := by simp [nc, zs]
      rw [e]; exact Blk.new _ _ _
  go_enter Tryd.func38, Tryd.ntmps38
  go_wp2_with fail
  go_loopw [7, 8] (fun rv iv wr => ∃ (i R : Nat) (o : List Nat), i ≤ l.length ∧ iv = .int .i64 ((i : Int) - 1) ∧ Hid (DvI w wr w.heap.size l b i o rv R)) (fun _ iv _ => (intOf iv + 1).toNat)
  case atStart => exact ⟨l.length, 0, _, Nat.le_refl _, by go_num, HST⟩
  case round =>
    clear HST
    obtain ⟨i, R, o, hi, rfl, HI⟩ := hrel
    obtain ⟨wo, hwo⟩ : ∃ wo, wo = wr := ⟨_, rfl⟩
    subst hwo
    have HBL := Lib.hid HI.out.bel
    cases i with
    | zero =>
      have HV : Hid (val L4 o = val L4 l / b ∧ R = val L4 l % b) := by
        have h1 := HI.out.eq
        have h2 := HI.out.lt
        rw [List.drop_zero, List.drop_zero] at h1
        rw [h1, Nat.mul_comm, Nat.mul_add_div HB0.out, Nat.mul_add_mod, Nat.div_eq_of_lt h2, Nat.mod_eq_of_lt h2]
        exact ⟨rfl, rfl⟩
      have HRD := Lib.hid (Blk.rd HI.out.blk)
      have HTR : Hid (Calls Tryd.prog 40 #[.slice (some ⟨w.heap.size, 0, none⟩) l.length l.length] wo fun e w' => e = .returned (.slice (some ⟨w.heap.size, 0, none⟩) (trimL o).length l.length) ∧ wo = w') := by
        have := trimR_any (some ⟨w.heap.size, 0, none⟩) l.length o wo HRD.out (by rw [HI.out.len]; omega) (by rw [HI.out.len]; omega) (by omega) (fun h => by cases h)
        rw [HI.out.len] at this
        exact this
      go_wp2_with fail
      refine HTR.out.mono ?_
      rintro e w' ⟨rfl, rfl⟩
      go_wp2_with fail
      go_ret2
      refine ⟨_, _, rfl, ?_, ?_, HBL.out⟩
      · have := lim_of_trim (c := l.length) HRD.out HI.out.ds
        rw [HV.out.1] at this
        exact this
      · have := HI.out.rest
        rw [HV.out.2] at this
        exact this
    | succ k =>
      obtain ⟨b1, o1, rfl, hb1, hc1⟩ := nc_cell (HRl.out.below HBL.out) (by omega)
      have d1 := hc1 k (by omega)
      have x1 := HDl.out.getD (by decide) k
      rw [HW.out] at x1
      have i0 : (0 : Int) ≤ (k : Int) := by omega
      have i1 : (k : Int) < (l.length : Int) := by omega
      have j0 : decide ((0 : Int) ≤ (k : Int) + 1 - 1) = true := decide_eq_true (by omega)
      have j1 : (k : Int) + 1 - 1 = (k : Int) := by omega
      obtain ⟨B2, c2, m, rfl, hm, hmn, hmv⟩ := HI.out.rest
      have HM := Lib.hid (show _ from hm)
      have HMD : Hid (Ds L4 m ∧ val L4 m = R) := ⟨hmn.1, hmv⟩
      have hml : m.length ≤ 3 * k' := by
        refine Lim.len4 hmn (k := k') ?_
        rw [hmv]
        exact Nat.lt_trans HI.out.lt HLB.out
      have HMB : Hid (B2 = none → c2 = 0) := fun e => HI.out.fr.2 m.length c2 (by rw [e])
      clear hm hmn hmv hc1
      obtain ⟨x, hx⟩ : ∃ x, l.getD k 0 = x := ⟨_, rfl⟩
      have HX := Lib.hid hx
      rw [hx] at d1 x1
      clear hx
      have HOA : Hid ((wo.alloc (.cells #[.int .i64 (x : Int)] 3)).ownsRow wo.heap.size 3 1 (.slice (some ⟨wo.heap.size, 0, none⟩) 1 1) 1 (nc [x])) := by
        refine ⟨rfl, .inr ⟨wo.heap.size, 1, #[.int .i64 (x : Int)], rfl, Nat.le_refl _, heap_alloc_new wo _, Nat.le_refl _, by decide, rfl, rfl⟩⟩
      have HMA : Hid (Rd (wo.alloc (.cells #[.int .i64 (x : Int)] 3)) B2 (nc m)) := HM.out.below ((Below.refl _ _).alloc (Nat.le_refl _) _)
      go_wp2_with (at_builtin; refine app_lim rfl _ _ rfl wo.heap.size _ _ _ rfl HOA.out B2 c2 m rfl HMA.out HMB.out (by omega) (by simp) ?_; intro v1 w5 hown2 hgrow2)
      obtain ⟨A5, c5, rfl⟩ := slice_of_own hown2
      have hHO : w5.ownsRow wo.heap.size 3 1 (.slice A5 (x :: m).length c5) (x :: m).length (nc (x :: m)) := by
        have e : nc (x :: m) = nc [x] ++ nc m := rfl
        rw [e, show (x :: m).length = 1 + m.length by simp; omega]; exact hown2
      have HB5 : Hid (Below wo.heap.size wo w5) := Below.grown ((Below.refl _ _).alloc (Nat.le_refl _) _) hgrow2 (by simp) (fun b hb => by injection hb with hb; exact Nat.le_of_eq hb)
      have HTR : Hid (Calls Tryd.prog 40 #[.slice A5 (1 + m.length) c5] w5 fun e w' => e = .returned (.slice A5 (trimL (x :: m)).length c5) ∧ w5 = w') := by
        have := trimR_any A5 c5 (x :: m) w5 (Rd.of_own hHO) (by simp; omega) (own_capL hHO).1 (own_capL hHO).2.1 (own_capL hHO).2.2
        rw [show (x :: m).length = 1 + m.length by simp; omega] at this
        exact this
      obtain ⟨rN, hrN⟩ : ∃ rN, rN = x + L4 * R := ⟨_, rfl⟩
      have HRN := Lib.hid hrN
      have HNX : Hid (NxtR wo rN (.slice A5 (trimL (x :: m)).length c5) w5) := by
        refine ⟨?_, ⟨fun b hb => (hHO.lt b (by cases A5 <;> exact hb)).1, fun n c h => by injection h with h1 h2 h3; subst h3; exact (own_capL hHO).2.2 h1⟩, HB5.out⟩
        have := lim_of_trim (c := c5) (Rd.of_own hHO) (fun d hd => (List.mem_cons.1 hd).elim (fun e => by rw [e, HW.out]; exact x1) (fun e => HMD.out.1 d e) : Ds L4 (x :: m))
        rw [show val L4 (x :: m) = rN by rw [hrN, val, HMD.out.2]] at this
        exact this
      have hrb : rN < b * L4 := by
        have := dv_lt (a := l) (i := k) (by decide : 0 < L4) HDl.out HI.out.lt
        rw [HX.out] at this
        omega
      have HRB := Lib.hid hrb
      have HRL : Hid (Lim (k' + 1) rN) := by
        show rN < W32 ^ (k' + 1)
        rw [Nat.pow_succ]
        exact Nat.lt_of_lt_of_le hrb (Nat.mul_le_mul (Nat.le_of_lt HLB.out) (by decide))
      clear hHO hown2 hgrow2 hrN hrb HOA HMA HM HMD hml HMB
      go_wp2_with fail
      refine HTR.out.mono ?_
      rintro e w' ⟨rfl, rfl⟩
      clear HTR
      generalize Value.slice A5 (trimL (x :: m)).length c5 = rv at *
      go_upto_block 2 with (fail)
      go_cut [10] (fun v wx => ∃ d : Nat, v = .int .i64 (d : Int) ∧ d < 10000 ∧ Hid (DI b rN d d) ∧ Hid (Below w5.heap.size w5 wx))
      case first =>
        have HST : Hid (DI b rN 0 9999) := DI.start (B := L4) (by decide) HRB.out
        go_wp2_with fail
        go_loopw [10, 11, 12] (fun lv hv mv wi => ∃ lo hi : Nat, lv = .int .i64 (lo : Int) ∧ hv = .int .i64 (hi : Int) ∧ lo ≤ hi ∧ hi < 10000 ∧ Hid (DI b rN lo hi) ∧ Hid (Below w5.heap.size w5 wi)) (fun lv hv mv wi => (intOf hv).toNat - (intOf lv).toNat)
        case atStart => exact ⟨0, 9999, rfl, rfl, by omega, by omega, HST, Below.refl _ _⟩
        case round =>
          clear HST
          obtain ⟨lo, hi2, rfl, rfl, hlh, hh, HD, HBI⟩ := hrel
          by_cases hlt : lo < hi2
          case neg =>
            have he : lo = hi2 := by omega
            subst he
            have hd0 : decide (lo < lo) = false := by simp
            go_wp2_with fail
            go_meet
            case rel => exact ⟨lo, rfl, hh, HD, HBI⟩
          have hd1 : decide (lo < hi2) = true := by simpa using hlt
          obtain ⟨md, hmd⟩ : ∃ md, md = (lo + hi2 + 1) / 2 := ⟨_, rfl⟩
          obtain ⟨m1, m2⟩ := mid_lt hlt
          rw [← hmd] at m1 m2
          have W1 : IntKind.i64.wrap ((lo : Int) + (hi2 : Int)) = (lo : Int) + (hi2 : Int) := IntWalk.i64_in _ (by omega)
          have W2 : IntKind.i64.wrap ((lo : Int) + (hi2 : Int) + 1) = (lo : Int) + (hi2 : Int) + 1 := IntWalk.i64_in _ (by omega)
          have W3 : IntKind.i64.wrap (((lo : Int) + (hi2 : Int) + 1).tdiv 2) = (md : Int) := by
            rw [Int.tdiv_eq_ediv_of_nonneg (by omega), show ((lo : Int) + (hi2 : Int) + 1) / 2 = (md : Int) by omega]; exact IntWalk.i64_in _ (by omega)
          have W4 : IntKind.i64.wrap ((md : Int) - 1) = ((md - 1 : Nat) : Int) := by rw [show (md : Int) - 1 = ((md - 1 : Nat) : Int) by omega]; exact IntWalk.i64_in _ (by omega)
          have HSM := Lib.hid (smallR_any vb b md wr (HVB.out.below (HBL.out.trans (HB5.out.mono HBL.out.size) |>.trans (HBI.out.mono (Nat.le_trans HBL.out.size HB5.out.size)))) k' HLB.out (by omega) (by omega))
          have HRV := Lib.hid (HNX.out.1.below HBI.out)
          clear hmd
          go_wp2_with fail
          refine HSM.out.mono ?_
          rintro e w6 ⟨v6, rfl, hv6, _, hb6⟩
          have HLM : Hid (Lim (k' + 1) (b * md)) := by
            show b * md < W32 ^ (k' + 1)
            rw [Nat.pow_succ]
            have : W32 = 4294967296 := rfl
            refine Nat.lt_of_le_of_lt (Nat.mul_le_mul (Nat.le_of_lt HLB.out) (show md ≤ W32 - 1 by omega)) ?_
            exact Nat.mul_lt_mul_of_pos_left (by omega) (Nat.pow_pos (by omega))
          have HCP := Lib.hid (cmpR_any v6 rv (b * md) rN w6 hv6 (HRV.out.below hb6) (k' + 1) HLM.out HRL.out (by omega))
          have HB6 := Lib.hid (HBI.out.trans (hb6.mono HBI.out.size))
          clear HSM HRV hv6 hb6 HLM HBI
          unfold CmpRes at HCP
          by_cases hle : b * md ≤ rN
          · have HDN := Lib.hid (HD.out.low hle)
            have hr0 : decide (cmpN (b * md) rN ≤ 0) = true := by
              rcases Nat.lt_or_ge (b * md) rN with q | q
              · rw [cmpN_lt q]; rfl
              · rw [show b * md = rN by omega, cmpN_eq]; rfl
            generalize cmpN (b * md) rN = cr at *
            clear hle HD
            go_wp2_with fail
            refine HCP.out.mono ?_
            rintro e w7 ⟨rfl, hq7⟩
            have HB7 := Lib.hid (HB6.out.trans (hq7.below.mono HB6.out.size))
            clear hq7 HB6 HCP
            go_wp2_with fail
            go_roundw
            case rel => exact ⟨md, hi2, rfl, rfl, by omega, hh, HDN, HB7⟩
            case measure => simp [intOf]; omega
          · have HDN := Lib.hid (HD.out.high (by omega) hle)
            have hr0 : decide (cmpN (b * md) rN ≤ 0) = false := by rw [cmpN_gt (by omega)]; rfl
            generalize cmpN (b * md) rN = cr at *
            clear hle HD
            go_wp2_with fail
            refine HCP.out.mono ?_
            rintro e w7 ⟨rfl, hq7⟩
            have HB7 := Lib.hid (HB6.out.trans (hq7.below.mono HB6.out.size))
            clear hq7 HB6 HCP
            go_wp2_with fail
            go_roundw
            case rel => exact ⟨lo, md - 1, rfl, by go_num, by omega, by omega, HDN, HB7⟩
            case measure => simp [intOf]; omega
      case rest =>
        obtain ⟨d, rfl, hd, HDD, HBC⟩ := hcut
        have HDE := Lib.hid HDD.out.end
        have HBC2 : Hid (Below wo.heap.size wo wc) := HB5.out.trans (HBC.out.mono HB5.out.size)
        have hgl := HI.out.blk.lt
        have HBLK : Hid (Blk wc w.heap.size 3 (nc o)) := (HBC2.out.block _ hgl).trans HI.out.blk
        obtain ⟨e1, f1⟩ : wc.cell? ⟨w.heap.size, k, none⟩ = some (.int .i64 (o.getD k 0 : Nat)) ∧ wc.frozen? ⟨w.heap.size, k, none⟩ = false := ⟨by rw [HBLK.out.cell, nc_at _ _ (by rw [HI.out.len]; omega)], HBLK.out.frozen _⟩
        obtain ⟨w8, hw8⟩ : ∃ w8, w8 = wc.setCell ⟨w.heap.size, k, none⟩ (.int .i64 (d : Int)) := ⟨_, rfl⟩
        have HW8 := Lib.hid hw8
        have HSZ : Hid (w8.heap.size = wc.heap.size) := by show _ = _; rw [hw8]; simp [World.setCell]
        have HRV : Hid (LimV w8 rv rN) := by
          rw [hw8]
          exact LimV.set (HNX.out.1.below HBC.out) (fun e => by have := HNX.out.2.1.1 _ e; omega) _
        have HB8 : Hid (Below w.heap.size w w8) := by
          rw [hw8]
          exact (HBL.out.trans (HBC2.out.mono HBL.out.size)).setCell (p := ⟨w.heap.size, k, none⟩) (Nat.le_refl _) _
        have HSM := Lib.hid (smallR_any vb b d w8 (HVB.out.below HB8.out) k' HLB.out (by omega) hd)
        have HLS : Hid (∀ v W, LimV W v (b * d) → LimV W rv rN → Calls Tryd.prog 46 #[rv, v] W (LesR rN (b * d) W)) := fun v W h1 h2 => lessR_any rv v rN (b * d) W h2 h1 (k' + 1) HRL.out HDD.out.1 (by omega)
        generalize o.getD k 0 = od at *
        clear hw8 HBLK
        go_wp2_with fail
        rw [← HW8.out]
        refine HSM.out.mono ?_
        rintro e w9 ⟨v9, rfl, hv9, _, hb9⟩
        have HB9 := Lib.hid hb9
        have HCL := Lib.hid (HLS.out v9 w9 hv9 (HRV.out.below hb9))
        clear HSM HLS hv9 hb9
        go_wp2_with fail
        refine HCL.out.mono ?_
        rintro e w10 ⟨v10, rfl, hv10, hf10, hb10⟩
        have HNW : Hid (DvI w w10 w.heap.size l b k (o.set k d) v10 (rN % b)) := by
          have hv : LimV w10 v10 (rN % b) := by rw [← HDE.out.2]; exact hv10
          refine HI.out.step (wx := wc) (by omega) rfl (by rw [HX.out, HRN.out]) (by rw [HW.out]; exact hd) HDE.out.1 HBC2.out ?_ hv (hf10.mono (by have := HB9.out.size; have := HSZ.out; omega))
          rw [← HW8.out]
          exact HB9.out.trans (hb10.mono HB9.out.size)
        clear hv10 hf10 hb10 HI
        go_wp2_with fail
        go_roundw
        case rel => exact ⟨k, rN % b, _, by omega, by go_num, HNW⟩
        case measure => simp [intOf]
end Go.Proofs.YtlmgdofhmgpljaaDoor
