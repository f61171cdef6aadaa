/- The contract of match.Votes. -/
import Derived.Test.YtoiobhjbikfpmaaVotA
import Derived.Test.YtoiobhjbikfpmaaVotM
import Derived.Test.YtoiobhjbikfpmaaClVt
import Derived.Test.YtoiobhjbikfpmaaMatchT
import Derived.Test.YtoiobhjbikfpmaaBoth
import Derived.Deep.DeepCutAuto
import Derived.Deep.CutBlock
namespace Go.Proofs.Ytoiobhjbikfpmaa
open Go.RowKit Go.Dw Go.Maps
attribute [local go_sem ↓] Go.wp_at_zero Go.wp_at_succ

def VotPost (w : World) (r : List Vot × Int) (e : Ending) (w' : World) : Prop :=
  ∃ A c, e = .returned (.tuple #[.slice A r.1.length c, .int .i64 r.2]) ∧ Rd w' A (r.1.flatMap encVt) ∧ Below w.heap.size w w'
theorem votPost_none {w w' : World} {f : Int} {r : List Vot × Int} (hr : r = ([], f)) (hb : Below w.heap.size w w') : VotPost w r (.returned (.tuple #[.slice none 0 0, .int .i64 f])) w' := by
  subst hr; exact ⟨none, 0, rfl, .inl rfl, hb⟩
theorem lawI : Keyed Try.prog 3 := int_keyed Try.underlying3
theorem zeroI (w : World) : (zeroValue 3).run Try.prog w = .ok (.int .i64 0) w := by kernel_rfl
theorem chks_two (Aa Ab : Option Addr) (ca cb : Nat) (a b : List Int) : chks [⟨Aa, ca, a⟩, ⟨Ab, cb, b⟩] = bothF a b := by
  unfold chks chks chks bothF
  by_cases h : chk a = 0
  · by_cases h2 : chk b = 0
    · simp [h, h2]
    · simp [h, h2]
  · simp [h]
theorem bothF_zero {a b : List Int} (h : bothF a b = 0) : chk a = 0 ∧ chk b = 0 := by
  unfold bothF at h
  by_cases h1 : chk a = 0
  · rw [if_neg (by simpa using h1)] at h; exact ⟨h1, h⟩
  · rw [if_pos h1] at h; exact absurd h h1
theorem checkMarks2 (Aa Ab : Option Addr) (ca cb : Nat) (a b : List Int) (w : World) (ha : Rd w Aa (ic a)) (hb : Rd w Ab (ic b)) (hna : a.length ≤ 9223372036854775807) (hnb : b.length ≤ 9223372036854775807) :
    Calls Try.prog 14 #[.slice (some ⟨w.heap.size, 0, none⟩) 2 2] (w.alloc (.cells #[.slice Aa a.length ca, .slice Ab b.length cb] 22)) fun e w' => e = .returned (.int .i64 (bothF a b)) ∧ (w.alloc (.cells #[.slice Aa a.length ca, .slice Ab b.length cb] 22)) = w' := by
  have hbel : Below w.heap.size w (w.alloc (.cells #[.slice Aa a.length ca, .slice Ab b.length cb] 22)) := (Below.refl _ _).alloc (Nat.le_refl _) _
  have hcm := checkMarks_any (some ⟨w.heap.size, 0, none⟩) 2 [⟨Aa, ca, a⟩, ⟨Ab, cb, b⟩] (w.alloc (.cells #[.slice Aa a.length ca, .slice Ab b.length cb] 22))
    ((Blk.new w 22 [.slice Aa a.length ca, .slice Ab b.length cb]).rds (S := fun _ => True) trivial).rd (by simp) (by
      intro s hs
      simp at hs
      rcases hs with rfl | rfl
      · exact ⟨ha.below hbel, hna⟩
      · exact ⟨hb.below hbel, hnb⟩)
  rw [chks_two] at hcm
  exact hcm
theorem info_vt : (Try.prog.info? 39).map (fun i => (i.zero, i.size, i.bytes)) = some (some (.agg #[.int .i64 0, .int .i64 0]), 2, 16) := by kernel_rfl
theorem rd_take {w : World} {A : Option Addr} {l : List Vot} {q : Nat} (h : Rd w A (l.flatMap encVt)) (_ : q ≤ l.length) : Rd w A ((l.take q).flatMap encVt) := by
  rw [← (flat_take encVt 2 (fun _ => rfl) l q).1]
  rcases h with h | ⟨b, off, e, hb, hc⟩
  · exact .inl (by rw [h]; simp)
  · refine .inr ⟨b, off, e, hb, fun j u hu => hc j u ?_⟩
    rw [List.getElem?_take] at hu
    split at hu
    · exact hu
    · cases hu
theorem own_lower {w : World} {base base' e size n : Nat} {v : Value} {xs : List Value} (h : w.ownsRow base e size v n xs) (hb : base' ≤ base) : w.ownsRow base' e size v n xs :=
  ⟨h.1, h.2.imp id fun ⟨g, cap, cur, h1, h2, h3⟩ => ⟨g, cap, cur, h1, Nat.le_trans hb h2, h3⟩⟩
theorem own_cap {w : World} {base e size n c : Nat} {A : Option Addr} {xs : List Value} (h : w.ownsRow base e size (.slice A n c) n xs) : n ≤ c := by
  rcases h.2 with ⟨h0, h1⟩ | ⟨g, cap, cur, hv, hb, hg, hc, _⟩
  · injection h0 with _ h0 h3; omega
  · injection hv with _ _ hv; omega
set_option maxRecDepth 100000 in
set_option maxHeartbeats 2000000 in
theorem votes_any (Aa Ab : Option Addr) (ca cb : Nat) (xs ys : List Int) (most : Int) (w : World) (ha : Rd w Aa (ic xs)) (hb : Rd w Ab (ic ys)) (hna : xs.length ≤ 9223372036854775807) (hnb : ys.length ≤ 9223372036854775807) :
    Calls Try.prog 11 #[.slice Aa xs.length ca, .slice Ab ys.length cb, .int .i64 most] w (VotPost w (votF xs ys (bothF xs ys) most)) := by
  have HCK := Lib.hid (checkMarks2 Aa Ab ca cb xs ys w ha hb hna hnb)
  have hbx : Below w.heap.size w (w.alloc (.cells #[.slice Aa xs.length ca, .slice Ab ys.length cb] 22)) := (Below.refl _ _).alloc (Nat.le_refl _) _
  have HRA := Lib.hid (ha.below hbx)
  have HRB := Lib.hid (hb.below hbx)
  have HBX := Lib.hid hbx
  clear ha hb hbx
  by_cases hz : bothF xs ys = 0
  case neg =>
    have hzb : (bothF xs ys != 0) = true := by simpa using hz
    have HR : Hid (votF xs ys (bothF xs ys) most = ([], bothF xs ys)) := by show _ = _; unfold votF; rw [if_pos hz]
    clear hz
    go_enter Try.func11, Try.ntmps11
    go_wp2_with fail
    refine HCK.out.mono ?_
    rintro e w1 ⟨rfl, rfl⟩
    go_wp2_with fail
    go_ret2
    exact votPost_none HR.out HBX.out
  have hzb : (bothF xs ys != 0) = false := by simpa using hz
  obtain ⟨hza, hzb2⟩ := bothF_zero hz
  obtain ⟨hxl, hxs⟩ := chk_zero hza
  obtain ⟨hyl, hys⟩ := chk_zero hzb2
  clear hxs hys hza hzb2
  by_cases hle : 1 ≤ most ∧ most ≤ 1000
  case neg =>
    have HR : Hid (votF xs ys (bothF xs ys) most = ([], 1)) := by show _ = _; unfold votF; rw [if_neg (by simpa using hz), if_neg hle]
    rcases (show most < 1 ∨ (¬ most < 1 ∧ 1000 < most) by omega) with h3 | h3
    all_goals
      clear hz hle
      go_enter Try.func11, Try.ntmps11
      go_wp2_with fail
      refine HCK.out.mono ?_
      rintro e w1 ⟨rfl, rfl⟩
      go_wp2_with fail
      go_ret2
      exact votPost_none HR.out HBX.out
  have HR : Hid (votF xs ys (bothF xs ys) most = ((refV xs ys).take most.toNat, 0)) := by show _ = _; unfold votF; rw [if_neg (by simpa using hz), if_pos hle]
  obtain ⟨hle1, hle2⟩ := hle
  obtain ⟨m, rfl⟩ := Int.eq_ofNat_of_zero_le (show 0 ≤ most by omega)
  simp only [Int.toNat_natCast] at HR
  obtain ⟨ii, hii, hzi0, hzi1, hzi2⟩ := info_parts info_vt
  have HII := Lib.hid (And.intro hii (And.intro hzi0 (And.intro hzi1 hzi2)))
  clear hz hii hzi0 hzi1 hzi2
  have hmm := @run_makeMap Try.prog
  go_enter Try.func11, Try.ntmps11
  go_wp2_with fail
  refine HCK.out.mono ?_
  rintro e w1 ⟨rfl, rfl⟩
  have hw1s : w.heap.size ≤ (w.alloc (.cells #[.slice Aa xs.length ca, .slice Ab ys.length cb] 22)).heap.size := by simp
  generalize w.alloc (.cells #[.slice Aa xs.length ca, .slice Ab ys.length cb] 22) = w1 at *
  go_wp2_with fail
  go_loopw [33] (fun iv wr => ∃ (i n : Nat) (D : DataW Unit), i ≤ xs.length ∧ iv = .int .i64 (i : Int) ∧ n ≤ 500 * i ∧ Hid (wr.ownsMap Try.prog 3 (plainElem Try.prog 3) w1.heap.size n D) ∧ Hid (MapIs D (fun d => matC xs ys d i)) ∧ Hid (Below w1.heap.size w1 wr)) (fun iv _ => xs.length - (intOf iv).toNat)
  case atStart => exact ⟨0, 0, .map [], by omega, rfl, by omega, World.ownsMap_made _ _ _ _, mapIs_start (fun _ => rfl), (Below.refl _ _).alloc (Nat.le_refl _) _⟩
  case round =>
    obtain ⟨i, n, D, hi, rfl, hn, HOWN, HM, HB⟩ := hrel
    by_cases hlt : i < xs.length
    · obtain ⟨ba, oa, rfl, hba, hca⟩ := HRA.out.at_ (by rw [ic_length]; omega)
      have c1 : wr.cell? ⟨ba, oa + i, none⟩ = some (.int .i64 xs[i]) := by rw [HB.out.cell (by exact hba)]; exact hca i _ (ic_at xs i hlt)
      have gx : xs.getD i 0 = xs[i] := by rw [List.getD_eq_getElem?_getD, List.getElem?_eq_getElem hlt, Option.getD_some]
      have HGX := Lib.hid gx
      clear hca gx
      obtain ⟨x, hx⟩ : ∃ x, xs[i] = x := ⟨_, rfl⟩
      rw [hx] at c1 HGX
      clear hx
      go_wp2_with fail
      go_loopw [40] (fun kv wr => ∃ (k n : Nat) (D : DataW Unit), k ≤ ys.length ∧ kv = .int .i64 (k : Int) ∧ n ≤ 500 * i + k ∧ Hid (wr.ownsMap Try.prog 3 (plainElem Try.prog 3) w1.heap.size n D) ∧ Hid (MapIs D (fun d => matC xs ys d i + rowC xs ys i d k)) ∧ Hid (Below w1.heap.size w1 wr)) (fun kv _ => ys.length - (intOf kv).toNat)
      case atStart => exact ⟨0, n, D, by omega, rfl, by omega, HOWN, HM, HB⟩
      case round =>
        clear HOWN HM HB c1 hn
        clear n D
        obtain ⟨k, n, D, hk, rfl, hn, HOWN, HM, HB⟩ := hrel
        by_cases hkl : k < ys.length
        · obtain ⟨bb, ob, rfl, hbb, hcb⟩ := HRB.out.at_ (by rw [ic_length]; omega)
          have c2 : wr.cell? ⟨bb, ob + k, none⟩ = some (.int .i64 ys[k]) := by rw [HB.out.cell (by exact hbb)]; exact hcb k _ (ic_at ys k hkl)
          have gy : ys.getD k 0 = ys[k] := by rw [List.getD_eq_getElem?_getD, List.getElem?_eq_getElem hkl, Option.getD_some]
          have HGY := Lib.hid gy
          clear hcb gy
          obtain ⟨y, hy⟩ : ∃ y, ys[k] = y := ⟨_, rfl⟩
          rw [hy] at c2 HGY
          clear hy
          have HSN : Hid (∀ d, rowC xs ys i d (k + 1) = rowC xs ys i d k + if x = y ∧ (i : Int) - k = d then 1 else 0) := fun d => by rw [rowC, HGX.out, HGY.out]
          by_cases hxy : x = y
          · have hw0 : IntKind.i64.wrap ((i : Int) - (k : Int)) = (i : Int) - (k : Int) := IntWalk.i64_in _ (by omega)
            have hw0' : wrap64 ((i : Int) - (k : Int)) = (i : Int) - (k : Int) := IntWalk.wrap64_in _ (by omega)
            have hkey : keyOf Try.prog 3 (.int .i64 ((i : Int) - (k : Int))) = some (.int .i64 ((i : Int) - (k : Int))) := keyOf_int_mk Try.underlying3 (WalkArith.wf_i64 (by omega))
            have HF : Hid (∀ d, matC xs ys d i + rowC xs ys i d (k + 1) = if d = (i : Int) - k then matC xs ys d i + rowC xs ys i d k + 1 else matC xs ys d i + rowC xs ys i d k) := fun d => by
              rw [HSN.out d]
              by_cases hd : d = (i : Int) - k
              · subst hd; simp [hxy]; omega
              · rw [if_neg (fun h => hd h.2.symm), if_neg hd]; rfl
            have HLE : Hid (∀ d, matC xs ys d i + rowC xs ys i d k ≤ 1000) := fun d => by
              have h1 := matC_eq xs ys d i
              have h2 := cntN_le xs ys i d ys.length
              have h3 := rowC_le xs ys i d k
              omega
            subst hxy
            go_wp2_with (first
              | (at_lookup; refine wpList_lookup_own_int _ rfl _ _ 54 rfl 3 3 .i64 lawI Try.underlying54 Try.underlying3 (zeroI _) w1.heap.size n _ rfl HOWN.out _ _ rfl hkey ?_; intro c hat hwc)
              | (at_mapUpdate; refine wpList_mapUpdate_own _ rfl _ _ _ 54 rfl 3 3 lawI Try.underlying54 _ w1.heap.size n _ rfl HOWN.out (by unfold maxLen; omega) _ _ _ rfl rfl hkey _ [] (plainElem_int Try.underlying3 (wrap64_wf _)) ?_; intro w2 hown2 hgrow2))
            have hce := mapIs_look HM.out hat
            have hle := HLE.out ((i : Int) - k)
            have hwc2 : wrap64 (c + 1) = ((matC xs ys ((i : Int) - k) i + rowC xs ys i ((i : Int) - k) k + 1 : Nat) : Int) := by
              rw [IntWalk.wrap64_in _ (by omega), hce]; rfl
            have HM2 := Lib.hid (mapIs_put HM.out hwc2 HF.out)
            have HOWN2 := Lib.hid hown2
            have HB2 := Lib.hid (HB.out.grown hgrow2 HB.out.size (fun j hj => by cases hj; exact Nat.le_refl _))
            clear hce hle hwc2 hown2 hgrow2 hat hwc
            go_wp2_with fail
            go_roundw
            case rel => exact ⟨k + 1, n + 1, _, by omega, by go_num, by omega, HOWN2, HM2, HB2⟩
            case measure => simp [intOf]; omega
          · have hne : (x == y) = false := by simpa using hxy
            have HM2 : Hid (MapIs D (fun d => matC xs ys d i + rowC xs ys i d (k + 1))) := mapIs_congr HM.out (fun d => by rw [HSN.out d, if_neg (fun h => hxy h.1)]; rfl)
            go_wp2_with fail
            go_roundw
            case rel => exact ⟨k + 1, n, D, by omega, by go_num, by omega, HOWN, HM2, HB⟩
            case measure => simp [intOf]; omega
        · have hke : k = ys.length := by omega
          have HM2 : Hid (MapIs D (fun d => matC xs ys d (i + 1))) := mapIs_congr HM.out (fun d => by rw [matC, hke])
          clear hke
          go_wp2_with fail
          go_roundw
          case rel => exact ⟨i + 1, n, D, by omega, by go_num, by omega, HOWN, HM2, HB⟩
          case measure => simp [intOf]; omega
    · have hie : i = xs.length := by omega
      have HM2 : Hid (MapIs D (cntV xs ys)) := mapIs_congr HM.out (fun d => by rw [hie, matC_all])
      have hn2 : n ≤ 250000 := by omega
      have HSZ : Hid (Maps.size D ≤ n) := owns_size HOWN.out
      clear hie HM
      obtain ⟨wo, hwo⟩ : ∃ wo, wo = wr := ⟨_, rfl⟩
      subst hwo
      go_wp2_with (first
        | (at_range; refine wpList_range_own _ rfl _ 54 rfl 3 3 lawI Try.underlying54 _ w1.heap.size n _ rfl HOWN.out ?_; intro w0 hrg0 hg0 hs0))
      go_frame
      have HB0 := Lib.hid (HB.out.grown hg0 HB.out.size (fun j hj => by cases hj))
      have hms := HOWN.out.lt
      have HRG0 := Lib.hid hrg0
      clear hrg0 hg0 HOWN HB
      go_loopw [14] (fun ov wq => ∃ (left : Lit → Bool) (cnt : Nat) (V : List Vot), Hid (wq.ranges Try.prog 3 (plainElem Try.prog 3) w1.heap.size wo.heap.size n D left cnt) ∧ V.length + cnt ≤ 250000 ∧ Hid (Coll (cntV xs ys) left V) ∧ Hid (wq.ownsRow w0.heap.size 39 2 ov V.length (V.flatMap encVt)) ∧ Hid (Below w1.heap.size w1 wq) ∧ w0.heap.size ≤ wq.heap.size) (fun _ wq => wq.rangeLeft w1.heap.size wo.heap.size)
      case atStart => exact ⟨_, _, [], HRG0, by have := HSZ.out; simp; omega, coll_start HM2.out, ⟨rfl, .inl ⟨rfl, rfl⟩⟩, HB0, Nat.le_refl _⟩
      case round =>
        obtain ⟨left, cnt, V, HRG, hvl, HC, HOW, HBQ, hsq⟩ := hrel
        go_wp2_with (first
          | (at_next; refine wpList_next_ranges_ii _ rfl _ rfl 3 3 .i64 .i64 lawI Try.underlying3 Try.underlying3 w1.heap.size wo.heap.size n _ _ _ rfl HRG.out ?_ ?_))
        · intro hc0 hl0
          obtain ⟨A2, c2, rfl⟩ := slice_of_own HOW.out
          have HEND := Lib.hid (coll_end HC.out hl0)
          have HCP := Lib.hid (own_cap HOW.out)
          have HSO := Lib.hid (sortV_any w.heap.size w0.heap.size A2 V.length c2 V wr (by omega) HOW.out rfl (by omega))
          clear hl0 hc0
          go_wp2_with fail
          refine HSO.out.mono ?_
          rintro e w3 ⟨rfl, l', hp, hpw, hrd, hbl⟩
          have HE : Hid (l' = refV xs ys) := sorted_isV xs ys HC.out.1 HEND.out hp (hpw.imp (fun {x y} hh => (ltOf_cfV' y x).1 hh))
          have hpl : l'.length = V.length := hp.length_eq
          have HB3 := Lib.hid (hbl.trans (Below.refl _ _))
          have HB4 : Hid (Below w.heap.size w w3) := (HBX.out.trans (HBQ.out.mono hw1s)).trans hbl
          have HRD3 := Lib.hid hrd
          clear hp hpw hrd hbl HB3 HC HEND HSO
          obtain ⟨q, hq, hqm, hqv⟩ : ∃ q : Nat, q = min m V.length ∧ q ≤ m ∧ q ≤ V.length := ⟨_, rfl, by omega, by omega⟩
          have HQ : Hid (l'.take q = (refV xs ys).take m) := by
            show _ = _
            rw [HE.out, hq, ← hpl, HE.out]
            rw [List.take_eq_take_iff]; omega
          have hcp := HCP.out
          have HCL := Lib.hid (fun c3 => clone_Vt A2 q c3 ((l'.take q).flatMap encVt) w3 (rd_take HRD3.out (by omega)) (by rw [flat_len encVt 2 (fun _ => rfl), List.length_take]; congr 1; omega) (fun u hu => by obtain ⟨x, _, hx⟩ := List.mem_flatMap.1 hu; simp [encVt] at hx; rcases hx with rfl | rfl <;> rfl) (by omega))
          by_cases hmv : m ≤ V.length
          · have hqe : q = m := by omega
            subst hqe
            have hmn : min (q : Int) (V.length : Int) = (q : Int) := by omega
            have hd5 : decide ((q : Int) ≤ (V.length : Int)) = true := by simpa using hmv
            have hd6 : decide ((V.length : Int) < (q : Int)) = false := by simp; omega
            have hd7 : decide ((q : Int) < (V.length : Int)) = decide (q < V.length) := by simp
            clear hq
            go_wp2_with fail
            refine (HCL.out _).mono ?_
            rintro e w6 ⟨A6, c6, rfl, hr6, hb6⟩
            have HR6 := Lib.hid hr6
            have HB6 := Lib.hid (HB4.out.trans (hb6.mono HB4.out.size))
            clear hr6 hb6
            go_wp2_with fail
            go_ret2
            refine ⟨A6, c6, ?_, ?_, HB6.out⟩
            · rw [HR.out, ← HQ.out, List.length_take, hpl, Nat.min_eq_left hmv]; rfl
            · rw [HR.out, ← HQ.out]; exact HR6.out
          · have hqe : q = V.length := by omega
            subst hqe
            have hmn : min (m : Int) (V.length : Int) = (V.length : Int) := by omega
            have hd5 : decide ((m : Int) ≤ (V.length : Int)) = false := by simpa using hmv
            have hd6 : decide ((V.length : Int) < (m : Int)) = true := by simp; omega
            have hd7 : decide ((m : Int) < (V.length : Int)) = false := by simp; omega
            clear hq
            go_wp2_with fail
            refine (HCL.out _).mono ?_
            rintro e w6 ⟨A6, c6, rfl, hr6, hb6⟩
            have HR6 := Lib.hid hr6
            have HB6 := Lib.hid (HB4.out.trans (hb6.mono HB4.out.size))
            clear hr6 hb6
            go_wp2_with fail
            go_ret2
            refine ⟨A6, c6, ?_, ?_, HB6.out⟩
            · rw [HR.out, ← HQ.out, List.length_take, hpl, Nat.min_self]; rfl
            · rw [HR.out, ← HQ.out]; exact HR6.out
        · intro x c w2 cnt1 hwx hwc hlx hat hrg1 hlt2 hg1 hs1 hen
          obtain ⟨hce, hcp⟩ := coll_at HM2.out hat
          have HCS := Lib.hid (coll_step HC.out hcp hlx)
          have HRG1 := Lib.hid hrg1
          have hgr := hg1
          have HOW1 : Hid (w2.ownsRow w0.heap.size 39 2 u14 V.length (V.flatMap encVt)) := HOW.out.kept hg1 (.inr (fun e => by have := (HOW.out.lt _ e).1; omega))
          have HBQ1 : Hid (Below w1.heap.size w1 w2) := HBQ.out.grown hg1 HBQ.out.size (fun j hj => by cases hj; omega)
          have hfl := cntV_le xs ys x
          subst hce
          have HS1 := Lib.hid hs1
          clear hat hrg1 hg1 hgr hwx hwc hlx hs1
          go_wp2_with (at_builtin; (refine wpList_append_own _ rfl _ _ 34 rfl w0.heap.size 39 ii _ 2 16 Try.underlying34 HII.out.1 HII.out.2.1 HII.out.2.2.1 HII.out.2.2.2 rfl (by decide) _ _ _ rfl (HOW1.out.alloc _) ⟨w2.heap.size, 0, none⟩ 1 1 [.int .i64 x, .int .i64 (cntV xs ys x : Int)] (by rfl) (by rfl) (World.news_of_block (cs := #[.int .i64 x, .int .i64 (cntV xs ys x : Int)]) (t := 39) (fr := (0, 0)) (by exact heap_alloc_new w2 _)) (by simp [Value.oneCell']) (by unfold maxLen; omega) (by omega) (by have := HS1.out; simp; omega) ?_); intro v1 w5 hown5 hgrow5 _)
          have hs1 := HS1.out
          have hB5 : Hid (Below w1.heap.size w1 w5) := below_app' HBQ1.out HBQ1.out.size (e := 39) (size := 2) (own_lower HOW1.out (by omega)) hgrow5
          have hO5 : Hid (w5.ownsRow w0.heap.size 39 2 v1 (V ++ [(⟨x, cntV xs ys x⟩ : Vot)]).length ((V ++ [(⟨x, cntV xs ys x⟩ : Vot)]).flatMap encVt)) := by
            show World.ownsRow _ _ _ _ _ _ _
            rw [flat_snoc, List.length_append, List.length_singleton]
            exact hown5
          have hgq : ∀ j, u14.ownBlock = some j → w0.heap.size ≤ j := fun j hj => (HOW.out.lt _ hj).1
          have hrg5 := (HRG1.out.alloc (.cells #[.int .i64 x, .int .i64 (cntV xs ys x : Int)] 39)).kept hgrow5 (fun e => by have := hgq _ e.symm; omega) (fun e => by have := hgq _ e.symm; omega)
          have HRG5 := Lib.hid hrg5
          have hs5 : w0.heap.size ≤ w5.heap.size := by have := hgrow5.size; simp at this; omega
          have HME : Hid (w5.rangeLeft w1.heap.size wo.heap.size < wr.rangeLeft w1.heap.size wo.heap.size) := by
            show _ < _
            rw [hrg5.left_eq, HRG.out.left_eq]; exact hlt2
          clear hown5 hgrow5 hrg5 hgq hs1
          go_wp2_with fail
          go_roundw
          case rel => exact ⟨_, cnt1, _, HRG5, by rw [List.length_append, List.length_singleton]; omega, HCS, hO5, hB5, hs5⟩
          case measure => exact HME.out
end Go.Proofs.Ytoiobhjbikfpmaa
