/- The contract of match.Repeats. -/
import Derived.Test.YtoiobhjbikfpmaaRepA
import Derived.Test.YtoiobhjbikfpmaaMatchT
namespace Go.Proofs.Ytoiobhjbikfpmaa
open Go.RowKit Go.Dw
attribute [local go_sem ↓] Go.wp_at_zero Go.wp_at_succ

/-- what Repeats answers -/
def repF (xs : List Int) (least : Int) : List Rep × Int :=
  if chk xs ≠ 0 then ([], chk xs) else if 1 ≤ least ∧ least ≤ 500 then if 1000 < (rOut xs least.toNat xs.length).length then ([], 2) else (refR xs least.toNat, 0) else ([], 1)
def RepPost (w : World) (r : List Rep × Int) (e : Ending) (w' : World) : Prop :=
  ∃ A c, e = .returned (.tuple #[.slice A r.1.length c, .int .i64 r.2]) ∧ Rd w' A (r.1.flatMap encRp) ∧ Below w.heap.size w w'
theorem repPost_none {w w' : World} {f : Int} {r : List Rep × Int} (hr : r = ([], f)) (hb : Below w.heap.size w w') : RepPost w r (.returned (.tuple #[.slice none 0 0, .int .i64 f])) w' := by
  subst hr; exact ⟨none, 0, rfl, .inl rfl, hb⟩
theorem eqD_at {l : List Int} {d j : Nat} (h : j + d < l.length) : eqD l d j = (l[j] == l[j + d]) := by
  unfold eqD
  rw [decide_eq_true h, List.getD_eq_getElem?_getD, List.getD_eq_getElem?_getD, List.getElem?_eq_getElem (show j < l.length by omega), List.getElem?_eq_getElem h, Option.getD_some, Option.getD_some]
  by_cases e : l[j] = l[j + d] <;> simp [e]
theorem info_rp : (Try.prog.info? 29).map (fun i => (i.zero, i.size, i.bytes)) = some (some (.agg #[.int .i64 0, .int .i64 0, .int .i64 0]), 3, 24) := by kernel_rfl
theorem flat_snoc {α : Type} (f : α → List Value) (l : List α) (x : α) : (l ++ [x]).flatMap f = l.flatMap f ++ f x := by simp
theorem own_belowL {B : Nat} {e : TypeId} {k : Nat} {v : Value} {n : Nat} {xs : List Value} {w w' : World} (h : w.ownsRow B e k v n xs) (hb : Below w.heap.size w w') : w'.ownsRow B e k v n xs :=
  h.kept (row := none) ⟨hb.os, hb.tape, hb.output, hb.size, fun j hj _ => hb.block j hj⟩ (by cases hv : v.ownBlock <;> simp)
theorem mIn_same {xs : List Int} {L d k : Nat} (h : eqD xs d k = true) : mIn xs L d (k + 1) = mIn xs L d k := by rw [mIn, if_pos h]
theorem mIn_new {xs : List Int} {L d k f : Nat} {P Q : List Rep} (h : eqD xs d k = false) (hf : f = (mIn xs L d k).1) (hQ : Q = P ++ (mIn xs L d k).2) (hl : L ≤ k - f) :
    k + 1 = (mIn xs L d (k + 1)).1 ∧ Q ++ [⟨f, f + d, k - f⟩] = P ++ (mIn xs L d (k + 1)).2 := by
  rw [mIn, if_neg (by simp [h])]
  subst hf
  rw [if_pos hl]
  exact ⟨rfl, by rw [hQ, List.append_assoc]⟩
theorem mIn_old {xs : List Int} {L d k f : Nat} {P Q : List Rep} (h : eqD xs d k = false) (hf : f = (mIn xs L d k).1) (hQ : Q = P ++ (mIn xs L d k).2) (hl : ¬ L ≤ k - f) :
    k + 1 = (mIn xs L d (k + 1)).1 ∧ Q = P ++ (mIn xs L d (k + 1)).2 := by
  rw [mIn, if_neg (by simp [h])]
  subst hf
  rw [if_neg hl]
  exact ⟨rfl, hQ⟩
theorem own_drewN {B e size n : Nat} {w : World} {v : Value} {xs : List Value} (h : w.ownsRow B e size v n xs) (m : Nat) : (w.drewN m).ownsRow B e size v n xs := h
theorem below_appQ {e size n : Nat} {w wr w1 : World} {o : Obj} {v : Value} {xs : List Value} {m : Nat} (hbel : Below w.heap.size w wr)
    (hown : wr.ownsRow w.heap.size e size v n xs) (hg : ((wr.alloc o).drewN m).grownBy w1 v.ownBlock) : Below w.heap.size w w1 :=
  (below_drewN (hbel.alloc hbel.size o) m).grown hg (by have := hbel.size; show w.heap.size ≤ (wr.alloc o).heap.size; simp; omega) (fun k hk => (hown.lt k hk).1)
set_option maxRecDepth 100000 in
set_option maxHeartbeats 2000000 in
theorem repeats_any (A : Option Addr) (c : Nat) (xs : List Int) (least : Int) (w : World) (h : Rd w A (ic xs)) (hn : xs.length ≤ 9223372036854775807) :
    Calls Try.prog 5 #[.slice A xs.length c, .int .i64 least] w (RepPost w (repF xs least)) := by
  have hbx : Below w.heap.size w (w.alloc (.cells #[.slice A xs.length c] 22)) := (Below.refl _ _).alloc (Nat.le_refl _) _
  have hchk := checkMarks_any (some ⟨w.heap.size, 0, none⟩) 1 [⟨A, c, xs⟩] (w.alloc (.cells #[.slice A xs.length c] 22))
    (.inr ⟨_, _, rfl, by simp, fun j u hu => by
      cases j with
      | zero => simp [Sl.v] at hu; subst hu; simp
      | succ j => simp at hu⟩) (by simp) (by
        intro s hs
        simp at hs
        subst hs
        exact ⟨h.below hbx, hn⟩)
  rw [chks_one] at hchk
  simp only [List.length_singleton] at hchk
  have HRD := Lib.hid (h.below hbx)
  have HBX := Lib.hid hbx
  have HCK := Lib.hid hchk
  clear hbx hchk h
  by_cases hz : chk xs = 0
  case neg =>
    have hzb : (chk xs != 0) = true := by simpa using hz
    have HR : Hid (repF xs least = ([], chk xs)) := by show _ = _; unfold repF; rw [if_pos hz]
    clear hz
    go_enter Try.func5, Try.ntmps5
    go_wp2_with fail
    refine HCK.out.mono ?_
    rintro e w1 ⟨rfl, rfl⟩
    go_wp2_with fail
    go_ret2
    exact repPost_none HR.out HBX.out
  have hzb : (chk xs != 0) = false := by simpa using hz
  obtain ⟨hxl, hxs⟩ := chk_zero hz
  by_cases hle : 1 ≤ least ∧ least ≤ 500
  case neg =>
    have HR : Hid (repF xs least = ([], 1)) := by show _ = _; unfold repF; rw [if_neg (by simpa using hz), if_neg hle]
    rcases (show least < 1 ∨ (¬ least < 1 ∧ 500 < least) by omega) with h3 | h3
    all_goals
      clear hz hxs hle
      go_enter Try.func5, Try.ntmps5
      go_wp2_with fail
      refine HCK.out.mono ?_
      rintro e w1 ⟨rfl, rfl⟩
      go_wp2_with fail
      go_ret2
      exact repPost_none HR.out HBX.out
  have HR : Hid (repF xs least = if 1000 < (rOut xs least.toNat xs.length).length then ([], 2) else (refR xs least.toNat, 0)) := by show _ = _; unfold repF; rw [if_neg (by simpa using hz), if_pos hle]
  obtain ⟨hle1, hle2⟩ := hle
  obtain ⟨L, rfl⟩ := Int.eq_ofNat_of_zero_le (show 0 ≤ least by omega)
  simp only [Int.toNat_natCast] at HR
  have hL1 : 1 ≤ L := by omega
  have HZ := Lib.hid (And.intro hz hxs)
  obtain ⟨ii, hii, hzi0, hzi1, hzi2⟩ := info_parts info_rp
  have HII := Lib.hid (And.intro hii (And.intro hzi0 (And.intro hzi1 hzi2)))
  clear hz hxs hii hzi0 hzi1 hzi2
  go_enter Try.func5, Try.ntmps5
  go_wp2_with fail
  refine HCK.out.mono ?_
  rintro e w1 ⟨rfl, rfl⟩
  have hw1s : w.heap.size ≤ (w.alloc (.cells #[.slice A xs.length c] 22)).heap.size := by simp
  generalize w.alloc (.cells #[.slice A xs.length c] 22) = w1 at *
  go_wp2_with fail
  go_loopw [7, 8] (fun ov dv wr => ∃ (d : Nat) (O : List Rep), 1 ≤ d ∧ d ≤ xs.length + 1 ∧ dv = .int .i64 (d : Int) ∧ Hid (O = mOut xs L (d - 1) ∧ (d ≤ xs.length ∨ d = 1)) ∧ Hid (wr.ownsRow w1.heap.size 29 3 ov O.length (O.flatMap encRp)) ∧ Hid (Below w1.heap.size w1 wr)) (fun _ dv _ => xs.length + 1 - (intOf dv).toNat)
  case atStart => exact ⟨1, [], by omega, by omega, rfl, ⟨rfl, .inr rfl⟩, ⟨rfl, .inl ⟨rfl, rfl⟩⟩, Below.refl _ _⟩
  case round =>
    obtain ⟨d, O, hd1, hd2, rfl, HO, HOWN, HB⟩ := hrel
    obtain ⟨A2, c2, rfl⟩ := slice_of_own HOWN.out
    by_cases hlt : d < xs.length
    case neg =>
      have hOE : O = mOut xs L (xs.length - 1) := by
        have := HO.out
        rw [this.1]; congr 1; omega
      have hlen : O.length = (rOut xs L xs.length).length := by rw [hOE]; exact same_length xs L hL1
      have hob := (mOut_inv xs L hL1 (xs.length - 1) (by omega)).2.2
      rw [← hOE] at hob
      have hob2 : O.length ≤ 250500 := Nat.le_trans hob (Nat.le_trans (Nat.mul_le_mul (show xs.length - 1 ≤ 500 by omega) (show xs.length + 1 ≤ 501 by omega)) (by omega))
      have hd3 : decide (d < xs.length) = false := by simpa using hlt
      have HOE := Lib.hid hOE
      have HLEN := Lib.hid hlen
      by_cases hbig : 1000 < O.length
      · have HRR : Hid (repF xs (L : Int) = ([], 2)) := by show _ = _; rw [HR.out, if_pos (by rw [← HLEN.out]; exact hbig)]
        clear hOE hlen hob
        go_wp2_with fail
        go_ret2
        exact repPost_none HRR.out (HBX.out.trans (HB.out.mono hw1s))
      · have HRR : Hid (repF xs (L : Int) = (refR xs L, 0)) := by show _ = _; rw [HR.out, if_neg (by rw [← HLEN.out]; exact hbig)]
        have HSO := Lib.hid (sortR_any w1.heap.size w1.heap.size A2 O.length c2 O wr (Nat.le_refl _) HOWN.out rfl (by omega))
        clear hOE hlen hob
        go_wp2_with fail
        refine HSO.out.mono ?_
        rintro e w3 ⟨rfl, l', hp, hpw, hrd, hbl⟩
        have HE : Hid (l' = refR xs L) := sorted_is xs L hL1 (by rw [← HOE.out]; exact hp) (hpw.imp (fun {x y} hh => (ltOf_cfR' y x).1 hh))
        have HRD2 := Lib.hid hrd
        have HB2 := Lib.hid (HB.out.trans hbl)
        have HPL := Lib.hid hp.length_eq
        clear hp hpw hrd hbl
        go_wp2_with fail
        go_ret2
        refine ⟨A2, c2, ?_, ?_, HBX.out.trans (HB2.out.mono hw1s)⟩
        · rw [HRR.out, ← HE.out, HPL.out]; rfl
        · rw [HRR.out, ← HE.out]; exact HRD2.out
    have hd3 : decide (d < xs.length) = true := by simpa using hlt
    have HOB : Hid ((mOut xs L (d - 1)).length ≤ 500 * 501) := Nat.le_trans (mOut_inv xs L hL1 (d - 1) (by omega)).2.2 (Nat.mul_le_mul (by omega) (by omega))
    go_wp2_with fail
    go_loopw [7, 9, 10] (fun ov fv iv wr => ∃ (k f : Nat) (Q : List Rep), k ≤ xs.length - d + 1 ∧ iv = .int .i64 (k : Int) ∧ fv = .int .i64 (f : Int) ∧ f ≤ k ∧ Hid (f = (mIn xs L d k).1 ∧ Q = mOut xs L (d - 1) ++ (mIn xs L d k).2) ∧ Hid (wr.ownsRow w1.heap.size 29 3 ov Q.length (Q.flatMap encRp)) ∧ Hid (Below w1.heap.size w1 wr)) (fun _ _ iv _ => xs.length - d + 1 - (intOf iv).toNat)
    case atStart => exact ⟨0, 0, O, by omega, rfl, rfl, by omega, ⟨rfl, by rw [HO.out.1]; simp [mIn]⟩, HOWN, HB⟩
    case round =>
      clear HOWN HB
      obtain ⟨k, f, Q, hk, rfl, rfl, hfk, HQ, HOWN, HB⟩ := hrel
      have hQl : Q.length ≤ 251500 := by
        have h1 := HQ.out.2
        have h2 := HOB.out
        have h3 := (mIn_inv xs L d k).2.2.2.2.2
        rw [h1, List.length_append]; omega
      by_cases hin : k + d ≤ xs.length
      case neg =>
        have hke : k = xs.length - d + 1 := by omega
        have HM : Hid (Q = mOut xs L (d + 1 - 1)) := by
          show _ = _
          have h2 : d + 1 - 1 = d - 1 + 1 := by omega
          have h3 : d - 1 + 1 = d := by omega
          rw [HQ.out.2, h2, mOut, h3, hke]
        clear hke
        go_wp2_with fail
        go_roundw
        case rel => exact ⟨d + 1, Q, by omega, by omega, by go_num, ⟨HM.out, .inl (by omega)⟩, HOWN, HB⟩
        case measure => simp [intOf]; omega
      have hw0 : IntKind.i64.wrap ((k : Int) + (d : Int)) = (k : Int) + (d : Int) := IntWalk.i64_in _ (by omega)
      have j0 : (0 : Int) ≤ (k : Int) := by omega
      have j1 : (k : Int) < (xs.length : Int) := by omega
      have j2 : (0 : Int) ≤ (k : Int) + (d : Int) := by omega
      have j3 : ((k : Int) + (d : Int)).toNat = k + d := by omega
      have hin' : (k : Int) + (d : Int) ≤ (xs.length : Int) := by omega
      obtain ⟨q, hq⟩ : ∃ q, eqD xs d k = q := ⟨_, rfl⟩
      have HEQ := Lib.hid hq
      have hstep : q = true ∨ q = false := by cases q <;> simp
      by_cases hkd : k + d < xs.length
      · obtain ⟨b, off, rfl, hbs, hcell⟩ := HRD.out.at_ (by rw [ic_length]; omega)
        have c1 : wr.cell? ⟨b, off + k, none⟩ = some (.int .i64 xs[k]) := by rw [HB.out.cell (by exact hbs)]; exact hcell k _ (ic_at xs k (by omega))
        have c2 : wr.cell? ⟨b, off + (k + d), none⟩ = some (.int .i64 xs[k + d]) := by rw [HB.out.cell (by exact hbs)]; exact hcell (k + d) _ (ic_at xs (k + d) hkd)
        have hv : (xs[k] == xs[k + d]) = q := by rw [← eqD_at hkd]; exact hq
        have j4 : (k : Int) + (d : Int) < (xs.length : Int) := by omega
        have hg0 : decide ((k : Int) + (d : Int) < (xs.length : Int)) = true := by simpa using j4
        generalize xs[k] = x1 at *
        generalize xs[k + d] = x2 at *
        clear hcell hq
        cases q with
        | true =>
          go_wp2_with fail
          go_quiet (fail)
          go_wp2_with fail
          go_roundw
          case rel => exact ⟨k + 1, f, Q, by omega, by go_num, rfl, by omega, ⟨by rw [mIn_same HEQ.out]; exact HQ.out.1, by rw [mIn_same HEQ.out]; exact HQ.out.2⟩, HOWN, below_drewN HB.out _⟩
          case measure => simp [intOf]; omega
        | false =>
          by_cases hnl : L ≤ k - f
          · have hns : ((k : Int) - (f : Int)) = ((k - f : Nat) : Int) := by omega
            have hnl2 : (L : Int) ≤ (k : Int) - (f : Int) := by omega
            have HMN := Lib.hid (mIn_new (P := mOut xs L (d - 1)) (Q := Q) HEQ.out HQ.out.1 HQ.out.2 hnl)
            have HNS := Lib.hid hns
            clear hns
            go_wp2_with fail
            go_quiet (fail)
            go_wp2_with (at_builtin; (refine wpList_append_own _ rfl _ _ 23 rfl w1.heap.size 29 ii _ 3 24 Try.underlying23 HII.out.1 HII.out.2.1 HII.out.2.2.1 HII.out.2.2.2 rfl (by decide) _ _ _ rfl (own_drewN (HOWN.out.alloc _) _) ⟨wr.heap.size, 0, none⟩ 1 1 [.int .i64 (f : Int), .int .i64 ((f : Int) + d), .int .i64 ((k : Int) - f)] (by rfl) (by rfl) (World.news_of_block (cs := #[.int .i64 (f : Int), .int .i64 ((f : Int) + d), .int .i64 ((k : Int) - f)]) (t := 29) (fr := (0, 0)) (by exact heap_alloc_new wr _)) (by simp [Value.oneCell']) (by unfold maxLen; omega) (by omega) (by simp; have := HB.out.size; omega) ?_); intro v1 w5 hown5 hgrow5 _)
            have hB5 := Lib.hid (below_appQ HB.out HOWN.out hgrow5)
            have hO5 : Hid (w5.ownsRow w1.heap.size 29 3 v1 (Q ++ [(⟨f, f + d, k - f⟩ : Rep)]).length ((Q ++ [(⟨f, f + d, k - f⟩ : Rep)]).flatMap encRp)) := by
              show World.ownsRow _ _ _ _ _ _ _
              rw [flat_snoc, List.length_append, List.length_singleton]
              have : encRp ⟨f, f + d, k - f⟩ = [.int .i64 (f : Int), .int .i64 ((f : Int) + d), .int .i64 ((k : Int) - f)] := by unfold encRp; simp only; rw [← HNS.out]; rfl
              rw [this]; exact hown5
            clear hown5 hgrow5
            go_wp2_with fail
            go_roundw
            case rel => exact ⟨k + 1, k + 1, _, by omega, by go_num, by go_num, by omega, HMN, hO5, hB5⟩
            case measure => simp [intOf]; omega
          · have hnl2 : ¬ (L : Int) ≤ (k : Int) - (f : Int) := by omega
            have HMN := Lib.hid (mIn_old (P := mOut xs L (d - 1)) (Q := Q) HEQ.out HQ.out.1 HQ.out.2 hnl)
            go_wp2_with fail
            go_quiet (fail)
            go_wp2_with fail
            go_roundw
            case rel => exact ⟨k + 1, k + 1, Q, by omega, by go_num, by go_num, by omega, HMN, HOWN, below_drewN HB.out _⟩
            case measure => simp [intOf]; omega
      · have hg0 : decide ((k : Int) + (d : Int) < (xs.length : Int)) = false := by simp; omega
        have hqf : q = false := by rw [← hq]; exact eqD_out xs hkd
        subst hqf
        clear hq
        by_cases hnl : L ≤ k - f
        · have hns : ((k : Int) - (f : Int)) = ((k - f : Nat) : Int) := by omega
          have hnl2 : (L : Int) ≤ (k : Int) - (f : Int) := by omega
          have HMN := Lib.hid (mIn_new (P := mOut xs L (d - 1)) (Q := Q) HEQ.out HQ.out.1 HQ.out.2 hnl)
          have HNS := Lib.hid hns
          clear hns
          go_wp2_with fail
          go_quiet (fail)
          go_wp2_with (at_builtin; (refine wpList_append_own _ rfl _ _ 23 rfl w1.heap.size 29 ii _ 3 24 Try.underlying23 HII.out.1 HII.out.2.1 HII.out.2.2.1 HII.out.2.2.2 rfl (by decide) _ _ _ rfl (own_drewN (HOWN.out.alloc _) _) ⟨wr.heap.size, 0, none⟩ 1 1 [.int .i64 (f : Int), .int .i64 ((f : Int) + d), .int .i64 ((k : Int) - f)] (by rfl) (by rfl) (World.news_of_block (cs := #[.int .i64 (f : Int), .int .i64 ((f : Int) + d), .int .i64 ((k : Int) - f)]) (t := 29) (fr := (0, 0)) (by exact heap_alloc_new wr _)) (by simp [Value.oneCell']) (by unfold maxLen; omega) (by omega) (by simp; have := HB.out.size; omega) ?_); intro v1 w5 hown5 hgrow5 _)
          have hB5 := Lib.hid (below_appQ HB.out HOWN.out hgrow5)
          have hO5 : Hid (w5.ownsRow w1.heap.size 29 3 v1 (Q ++ [(⟨f, f + d, k - f⟩ : Rep)]).length ((Q ++ [(⟨f, f + d, k - f⟩ : Rep)]).flatMap encRp)) := by
            show World.ownsRow _ _ _ _ _ _ _
            rw [flat_snoc, List.length_append, List.length_singleton]
            have : encRp ⟨f, f + d, k - f⟩ = [.int .i64 (f : Int), .int .i64 ((f : Int) + d), .int .i64 ((k : Int) - f)] := by unfold encRp; simp only; rw [← HNS.out]; rfl
            rw [this]; exact hown5
          clear hown5 hgrow5
          go_wp2_with fail
          go_roundw
          case rel => exact ⟨k + 1, k + 1, _, by omega, by go_num, by go_num, by omega, HMN, hO5, hB5⟩
          case measure => simp [intOf]; omega
        · have hnl2 : ¬ (L : Int) ≤ (k : Int) - (f : Int) := by omega
          have HMN := Lib.hid (mIn_old (P := mOut xs L (d - 1)) (Q := Q) HEQ.out HQ.out.1 HQ.out.2 hnl)
          go_wp2_with fail
          go_quiet (fail)
          go_wp2_with fail
          go_roundw
          case rel => exact ⟨k + 1, k + 1, Q, by omega, by go_num, by go_num, by omega, HMN, HOWN, below_drewN HB.out _⟩
          case measure => simp [intOf]; omega
end Go.Proofs.Ytoiobhjbikfpmaa
