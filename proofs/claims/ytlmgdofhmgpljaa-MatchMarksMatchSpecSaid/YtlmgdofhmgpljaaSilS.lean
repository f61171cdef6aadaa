/- The contract of the reference's Silences. -/
import Derived.Test.YtlmgdofhmgpljaaSilR
namespace Go.Proofs.Ytlmgdofhmgpljaa
open Go.RowKit Go.Dw
attribute [local go_sem ↓] Go.wp_at_zero Go.wp_at_succ

theorem info_bool : (Try.prog.info? 4).map (fun i => (i.zero, i.size, i.bytes)) = some (some (.bool false), 1, 1) := by kernel_rfl
/-- a row of m bools of the call's own -/
def Bls (w1 : World) (g m : Nat) (f : Nat → Bool) (wr : World) : Prop := Blk wr g 4 (((List.range m).map f).map Value.bool) ∧ Below g w1 wr
theorem Bls.store {w1 wr : World} {g m : Nat} {f f' : Nat → Bool} (h : Bls w1 g m f wr) (j : Nat) (v : Bool) (hf : ∀ k, k < m → f' k = if k = j then v else f k) : Bls w1 g m f' (wr.setCell ⟨g, j, none⟩ (.bool v)) := by
  refine ⟨?_, h.2.setCell (Nat.le_refl _) _⟩
  have h1 := h.1.set_ j (.bool v)
  have e : (((List.range m).map f).map Value.bool).set j (.bool v) = ((List.range m).map f').map Value.bool := by
    rw [← List.map_set, map_range_set, map_range_congr hf]
  rw [e] at h1
  exact h1
theorem Bls.cell {w1 wr : World} {g m : Nat} {f : Nat → Bool} (h : Bls w1 g m f wr) {j : Nat} (hj : j < m) : wr.cell? ⟨g, j, none⟩ = some (.bool (f j)) := by
  rw [h.1.cell j]; simp [hj]
theorem Bls.congr {w1 wr : World} {g m : Nat} {f f' : Nat → Bool} (h : Bls w1 g m f wr) (e : ∀ k, k < m → f k = f' k) : Bls w1 g m f' wr := by
  unfold Bls; rw [← map_range_congr e]; exact h
theorem Bls.below {w1 wr w2 : World} {g m : Nat} {f : Nat → Bool} (h : Bls w1 g m f wr) (hb : Below wr.heap.size wr w2) : Bls w1 g m f w2 :=
  ⟨h.1.same (S := fun _ => True) (Same.of_below hb) trivial, h.2.trans (hb.mono (Nat.le_of_lt h.1.lt))⟩
/-- what is in the row while place k is reckoned -/
def refB (T : List (List Int)) (level : Int) (k : Nat) (v : Bool) (j : Nat) : Bool := if j < k then qui T level j T.length else if j = k then v else false
theorem refB_start (T : List (List Int)) (level : Int) (k j : Nat) : refB T level (k + 1) false j = refB T level k (qui T level k T.length) j := by
  unfold refB
  by_cases h1 : j < k
  · rw [if_pos (by omega), if_pos h1]
  · by_cases h2 : j = k
    · subst h2; rw [if_pos (by omega), if_neg h1, if_pos rfl]
    · rw [if_neg (by omega), if_neg h1, if_neg h2]; split <;> rfl
theorem refB_set (T : List (List Int)) (level : Int) (k : Nat) (u v : Bool) (j : Nat) : refB T level k v j = if j = k then v else refB T level k u j := by
  unfold refB
  by_cases h2 : j = k
  · subst h2; simp
  · rw [if_neg h2, if_neg h2, if_neg h2]
theorem refB_at (T : List (List Int)) (level : Int) (k : Nat) (v : Bool) : refB T level k v k = v := by unfold refB; simp
theorem own_base {w : World} {base base' : Nat} {e : TypeId} {size : Nat} {v : Value} {n : Nat} {xs : List Value} (h : w.ownsRow base e size v n xs) (hb : base' ≤ base) : w.ownsRow base' e size v n xs := by
  obtain ⟨h1, h2⟩ := h
  refine ⟨h1, ?_⟩
  rcases h2 with h2 | ⟨g, cap, cur, hv, hg, h3⟩
  · exact .inl h2
  · exact .inr ⟨g, cap, cur, hv, by omega, h3⟩
/-- a slice of spans of the call's own and a fault -/
def SpnOwn (w : World) (r : List (Int × Int) × Int) (e : Ending) (w' : World) : Prop :=
  ∃ A c, e = .returned (.tuple #[.slice A r.1.length c, .int .i64 r.2]) ∧ w'.ownsRow w.heap.size 35 2 (.slice A r.1.length c) r.1.length (pc r.1) ∧ Below w.heap.size w w'
theorem spnOwn_none {w w' : World} {f : Int} {r : List (Int × Int) × Int} (hr : r = ([], f)) (hb : Below w.heap.size w w') : SpnOwn w r (.returned (.tuple #[.slice none 0 0, .int .i64 f])) w' := by
  subst hr; exact ⟨none, 0, rfl, ⟨rfl, .inl ⟨rfl, rfl⟩⟩, hb⟩
theorem spnOwn_some {w w' : World} {l : List (Int × Int)} {n : Nat} {A : Option Addr} {c : Nat} {r : List (Int × Int) × Int} (hr : r = (l, 0)) (hn : n = l.length) (hrd : w'.ownsRow w.heap.size 35 2 (.slice A n c) n (pc l)) (hb : Below w.heap.size w w') : SpnOwn w r (.returned (.tuple #[.slice A n c, .int .i64 0])) w' := by
  subst hr hn; exact ⟨A, c, rfl, hrd, hb⟩
theorem rowF_congr {q q' : Nat → Bool} {L : Nat} : ∀ {n : Nat}, (∀ i, i < n → q i = q' i) → rowF q L n = rowF q' L n
  | 0, _ => rfl
  | n + 1, h => by rw [rowF, rowF, rowF_congr (fun i hi => h i (by omega)), h n (by omega)]
theorem rowsOf_list (q : Nat → Bool) (L n : Nat) : rowsOf q L n = (rowF (SpF ((List.range n).map q)) L (n + 1)).2 := by
  unfold rowsOf
  rw [rowF_congr]
  intro i hi
  unfold SpF
  rw [List.length_map, List.length_range]
  by_cases h : i < n
  · rw [decide_eq_true h, Bool.true_and, Bool.true_and, List.getD_eq_getElem?_getD]; simp [h]
  · rw [decide_eq_false h]; rfl
theorem zs_bool (m : Nat) : zs m (.bool false) = ((List.range m).map fun _ => false).map Value.bool := by
  apply List.ext_getElem
  · simp [zs]
  · intro i h1 h2; simp [zs]
set_option maxHeartbeats 4000000 in
theorem rSilences_any (x : Snd) (level least : Int) (w : World) (h : x.Ok w) :
    Calls Try.prog 20 #[x.v, .int .i64 level, .int .i64 least] w (SpnOwn w (silF x.rate x.rows level least)) := by
  have hb0 : Below w.heap.size w (w.alloc (.cells #[.int .i64 x.rate, x.p.v] 24)) := (Below.refl _ _).alloc (Nat.le_refl _) _
  have HCK := Lib.hid (rsndCheck_any x _ (h.below hb0))
  have HB0 := Lib.hid hb0
  by_cases hz : chkS x.rate x.rows = 0
  case neg =>
    have hzb : (chkS x.rate x.rows != 0) = true := by simpa using hz
    have HR := Lib.hid (silF_bad (level := level) (least := least) hz)
    clear hz h hb0
    simp only [Snd.v, Slc.v] at *
    go_enter Try.func20, Try.ntmps20
    go_wp2_with fail
    refine HCK.out.mono ?_
    rintro e w1 ⟨rfl, hb1⟩
    have HB1 := Lib.hid (HB0.out.trans (hb1.mono HB0.out.size))
    clear hb1
    go_wp2_with fail
    go_ret2
    exact spnOwn_none HR.out HB1.out
  rw [hz] at HCK
  by_cases hrg : 0 ≤ level ∧ level ≤ 8388608 ∧ 1 ≤ least ∧ least ≤ 100000
  case neg =>
    have HR := Lib.hid (silF_rng hz hrg)
    have hcs : level < 0 ∨ 8388608 < level ∧ 0 ≤ level ∨ (0 ≤ level ∧ level ≤ 8388608) ∧ least < 1 ∨ (0 ≤ level ∧ level ≤ 8388608) ∧ 1 ≤ least ∧ 100000 < least := by omega
    clear hz h hb0 hrg
    simp only [Snd.v, Slc.v] at *
    rcases hcs with g1 | ⟨g1, g2⟩ | ⟨⟨g1, g2⟩, g3⟩ | ⟨⟨g1, g2⟩, g3, g4⟩
    all_goals
      go_enter Try.func20, Try.ntmps20
      go_wp2_with fail
      refine HCK.out.mono ?_
      rintro e w1 ⟨rfl, hb1⟩
      have HB1 := Lib.hid (HB0.out.trans (hb1.mono HB0.out.size))
      clear hb1
      go_wp2_with fail
      go_ret2
      exact spnOwn_none HR.out HB1.out
  obtain ⟨g1, g2, g3, g4⟩ := hrg
  obtain ⟨LL, rfl⟩ := Int.eq_ofNat_of_zero_le (show 0 ≤ least by omega)
  have hs := chkS_zero hz
  have HR := Lib.hid (silF_ok (L := LL) hz ⟨g1, g2, by omega, by omega⟩ (rowsOf_list _ _ _))
  have h1 := h.below hb0
  have HX := Lib.hid h1
  have HRA := Lib.hid x.rows_at
  have HRL := Lib.hid x.rows_len
  have hn0 : x.n ≤ 100000 := hs.2.2.2.2.1
  have hT0 : 0 < x.p.xs.length := by rw [← x.rows_len]; exact hs.2.2.1
  have hT1 : x.p.xs.length ≤ 16 := by rw [← x.rows_len]; exact hs.2.2.2.1
  have HLT : Hid (∀ k (hk : k < x.p.xs.length), x.p.xs[k].xs.length = x.n ∧ ∀ y ∈ x.p.xs[k].xs, -8388608 ≤ y ∧ y ≤ 8388607) := fun k hk => by
    have := hs.2.2.2.2.2 k (by rw [x.rows_len]; exact hk)
    have e : x.rows[k]'(by rw [x.rows_len]; exact hk) = x.p.xs[k].xs := by simp [Snd.rows]
    rw [e] at this
    exact this
  have HNE : Hid (x.n = (x.rows.getD 0 []).length) := rfl
  rw [← HNE.out] at HR
  have HLG := Lib.hid (fun (W : World) (hW : x.Ok W) => long_any x W hW hT0)
  obtain ⟨qs, hqs⟩ : ∃ qs, (List.range x.n).map (fun i => qui x.rows level i x.rows.length) = qs := ⟨_, rfl⟩
  rw [hqs] at HR
  have hql : qs.length = x.n := by rw [← hqs]; simp
  rw [← hql] at HR
  have HQS := Lib.hid hqs
  have HQL := Lib.hid hql
  have HSP := Lib.hid (fun (A : Option Addr) (c : Nat) (W : World) (hr : Rd W A (qs.map Value.bool)) => spansOf_any A c qs LL W (by omega) (by omega) hr)
  obtain ⟨l, hl⟩ : ∃ l, (rowF (SpF qs) LL (qs.length + 1)).2 = l := ⟨_, rfl⟩
  rw [hl] at HR
  simp only [hl] at HSP
  have HOKB := Lib.hid (fun (W W' : World) (hW : x.Ok W) (hb : Below W.heap.size W W') => hW.below hb)
  simp only [hql] at HSP
  clear hb0 hs hz h hqs hql hl
  generalize x.n = n0 at *
  generalize x.rows = rows at *
  obtain ⟨rate, ⟨A, c, L⟩⟩ := x
  obtain ⟨hn, hrd, hrs⟩ := h1
  simp only [Snd.v, Slc.v] at *
  have HRS := Lib.hid hrs
  clear hrs
  obtain ⟨b, off, rfl, hb, hc⟩ := hrd.at_ (by simp; omega)
  have HCE : Hid (∀ k (hk : k < L.length), (w.alloc (.cells #[.int .i64 rate, .slice (some ⟨b, off, none⟩) L.length c] 24)).cell? ⟨b, off + k, none⟩ = some (.slice L[k].a n0 L[k].c)) := fun k hk => by
    have := hc k (L[k].v) (by simp [hk])
    rw [this, ← (HLT.out k hk).1]; rfl
  clear hc
  obtain ⟨i0, hi0, hz00, hz01, hz02⟩ := info_parts info_bool
  have hmk := run_mk (P := Try.prog) 53 4 i0 _ 1 Try.underlying53 hi0 hz00 hz01 hz02 rfl (n0 : Int) n0 rfl (by omega) (by omega)
  have HMK := Lib.hid hmk
  have hc1 : (w.alloc (.cells #[.int .i64 rate, .slice (some ⟨b, off, none⟩) L.length c] 24)).cell? ⟨w.heap.size, 1, none⟩ = some (.slice (some ⟨b, off, none⟩) L.length c) := new_cell (cs := [_, _]) rfl rfl
  have hc0 : (w.alloc (.cells #[.int .i64 rate, .slice (some ⟨b, off, none⟩) L.length c] 24)).cell? ⟨w.heap.size, 0, none⟩ = some (.int .i64 rate) := new_cell (cs := [_, _]) rfl rfl
  have hws : w.heap.size < (w.alloc (.cells #[.int .i64 rate, .slice (some ⟨b, off, none⟩) L.length c] 24)).heap.size := by simp
  clear hi0 hz00 hz01 hz02 hmk
  go_enter Try.func20, Try.ntmps20
  go_wp2_with fail
  refine HCK.out.mono ?_
  generalize w.alloc (.cells #[.int .i64 rate, .slice (some ⟨b, off, none⟩) L.length c] 24) = w0 at *
  rintro e w1 ⟨rfl, hb1⟩
  have HX1 := Lib.hid (HOKB.out _ _ HX.out hb1)
  have k1 : w1.cell? ⟨w.heap.size, 1, none⟩ = some (.slice (some ⟨b, off, none⟩) L.length c) := by rw [hb1.cell (by exact hws)]; exact hc1
  have k0 : w1.cell? ⟨w.heap.size, 0, none⟩ = some (.int .i64 rate) := by rw [hb1.cell (by exact hws)]; exact hc0
  have HB1 := Lib.hid hb1
  clear hb1 hc1 hc0
  go_wp2_with fail
  refine (HLG.out _ HX1.out).mono ?_
  rintro e w2 ⟨rfl, hb2⟩
  have HX2 := Lib.hid (HOKB.out _ _ HX1.out hb2)
  have HB2 := Lib.hid (HB1.out.trans (hb2.mono HB1.out.size))
  have K1 : Hid (w2.cell? ⟨w.heap.size, 1, none⟩ = some (.slice (some ⟨b, off, none⟩) L.length c)) := by show _ = _; rw [hb2.cell (by exact Nat.lt_of_lt_of_le hws HB1.out.size)]; exact k1
  have K0 : Hid (w2.cell? ⟨w.heap.size, 0, none⟩ = some (.int .i64 rate)) := by show _ = _; rw [hb2.cell (by exact Nat.lt_of_lt_of_le hws HB1.out.size)]; exact k0
  have HCW : Hid (∀ k (hk : k < L.length), w2.cell? ⟨b, off + k, none⟩ = some (.slice L[k].a n0 L[k].c)) := fun k hk => by rw [HB2.out.cell (by exact hb)]; exact HCE.out k hk
  have HRW : Hid (∀ s ∈ L, Rd w2 s.a (ic s.xs) ∧ s.xs.length ≤ s.c) := fun s hs => ⟨(HRS.out s hs).2.1.below HB2.out, (HRS.out s hs).2.2⟩
  have hbw : b < w2.heap.size := Nat.lt_of_lt_of_le hb HB2.out.size
  have hww : w.heap.size < w2.heap.size := Nat.lt_of_lt_of_le hws HB2.out.size
  have hmk := HMK.out
  clear hb2 HCE HRS k0 k1
  go_wp2_with fail
  have hn1 : Bls w2 w2.heap.size n0 (refB rows level 0 false) (w2.alloc (.cells (zs n0 (.bool false)).toArray 4)) := by
    refine ⟨?_, (Below.refl _ _).alloc (Nat.le_refl _) _⟩
    have := Blk.new w2 4 (zs n0 (.bool false))
    rw [zs_bool] at this ⊢
    have e : (List.range n0).map (refB rows level 0 false) = (List.range n0).map fun _ => false := map_range_congr (fun k _ => by unfold refB; simp)
    rw [e]
    exact this
  have HN1 := Lib.hid hn1
  clear hn1 hmk HMK
  obtain ⟨g, hg⟩ : ∃ g, w2.heap.size = g := ⟨_, rfl⟩
  rw [hg] at HN1 hbw hww
  rw [hg]
  have HG := Lib.hid hg
  clear hg
  go_loopw [10] (fun kv wr => ∃ k : Nat, k ≤ n0 ∧ kv = .int .i64 (k : Int) ∧ Hid (Bls w2 g n0 (refB rows level k false) wr)) (fun kv _ => n0 - (intOf kv).toNat)
  case atStart => exact ⟨0, Nat.zero_le _, rfl, HN1⟩
  case round =>
    clear HN1
    obtain ⟨k, hk, rfl, HN⟩ := hrel
    have k1 : wr.cell? ⟨w.heap.size, 1, none⟩ = some (.slice (some ⟨b, off, none⟩) L.length c) := by rw [HN.out.2.cell (by exact hww)]; exact K1.out
    have k0 : wr.cell? ⟨w.heap.size, 0, none⟩ = some (.int .i64 rate) := by rw [HN.out.2.cell (by exact hww)]; exact K0.out
    have HXR := Lib.hid (HOKB.out _ _ HX2.out (by have := HN.out.2; rw [← HG.out] at this; exact this))
    go_wp2_with fail
    refine (HLG.out _ HXR.out).mono ?_
    rintro e w3 ⟨rfl, hb3⟩
    have HN3 := Lib.hid (HN.out.below hb3)
    clear hb3 HN k0 k1 HXR
    by_cases hlt : k < n0
    case neg =>
      have hke : k = n0 := by omega
      have HRD : Hid (Rd w3 (some ⟨g, 0, none⟩) (qs.map Value.bool)) := by
        have := (HN3.out.1.rds (S := fun _ => True) trivial).rd
        rw [hke] at this
        have e : qs = (List.range n0).map (refB rows level n0 false) := by
          rw [← HQS.out]; exact map_range_congr (fun j hj => by unfold refB; rw [if_pos hj])
        show Rd _ _ _
        rw [e]
        exact this
      have HBB : Hid (Below w.heap.size w w3) := HB0.out.trans ((HB2.out.trans (HN3.out.2.mono (by rw [← HG.out]; exact HB2.out.size))).mono HB0.out.size)
      have hd0 : decide (k < n0) = false := by simpa using hlt
      clear hke
      go_wp2_with fail
      refine (HSP.out _ _ _ HRD.out).mono ?_
      rintro e w4 ⟨A4, c4, rfl, hr4, hb4⟩
      have HR4 := Lib.hid (own_base hr4 HBB.out.size)
      have HB4 := Lib.hid (HBB.out.trans (hb4.mono HBB.out.size))
      clear hr4 hb4
      by_cases hbig : 1000 < l.length
      · rw [if_pos hbig] at HR
        have HFW := Lib.hid (few_big A4 l.length c4 w4 hbig)
        go_wp2_with fail
        refine HFW.out.mono ?_
        rintro e w5 ⟨rfl, rfl⟩
        go_wp2_with fail
        go_ret2
        exact spnOwn_none HR.out HB4.out
      · rw [if_neg hbig] at HR
        have HFW := Lib.hid (few_ok A4 l.length c4 w4 hbig)
        go_wp2_with fail
        refine HFW.out.mono ?_
        rintro e w5 ⟨rfl, rfl⟩
        go_wp2_with fail
        go_ret2
        exact spnOwn_some HR.out rfl HR4.out HB4.out
    have hd0 : decide (k < n0) = true := by simpa using hlt
    have hfz := HN3.out.1.frozen k
    have hcq := HN3.out.cell hlt
    rw [refB_at] at hcq
    have HST : Hid (Bls w2 g n0 (refB rows level k true) (w3.setCell ⟨g, k, none⟩ (.bool true))) := HN3.out.store k true (fun j _ => refB_set rows level k false true j)
    have jk0 : (0 : Int) ≤ (k : Int) := by omega
    have jk1 : (k : Int) < (n0 : Int) := by omega
    clear HN3
    go_wp2_with fail
    go_loopw [11] (fun tv wr => ∃ t : Nat, t ≤ L.length ∧ tv = .int .i64 (t : Int) ∧ Hid (Bls w2 g n0 (refB rows level k (qui rows level k t)) wr)) (fun tv _ => L.length - (intOf tv).toNat)
    case atStart => exact ⟨0, Nat.zero_le _, rfl, HST⟩
    case round =>
      clear HST hcq hfz
      obtain ⟨t, ht, rfl, HN⟩ := hrel
      have k1 : wr.cell? ⟨w.heap.size, 1, none⟩ = some (.slice (some ⟨b, off, none⟩) L.length c) := by rw [HN.out.2.cell (by exact hww)]; exact K1.out
      by_cases htl : t < L.length
      case neg =>
        have hte : t = L.length := by omega
        have HN2 : Hid (Bls w2 g n0 (refB rows level (k + 1) false) wr) := HN.out.congr (fun j _ => by rw [refB_start, hte, HRL.out])
        have hd1 : decide (t < L.length) = false := by simpa using htl
        clear hte
        go_wp2_with fail
        go_roundw
        case rel => exact ⟨k + 1, by omega, by go_num, HN2⟩
        case measure => simp [intOf]; omega
      have hd1 : decide (t < L.length) = true := by simpa using htl
      have hck : wr.cell? ⟨b, off + t, none⟩ = some (.slice L[t].a n0 L[t].c) := by rw [HN.out.2.cell (by exact hbw)]; exact HCW.out t htl
      obtain ⟨hrdt, hcap⟩ := HRW.out L[t] (List.getElem_mem htl)
      obtain ⟨hlen, hrng⟩ := HLT.out t htl
      have e4' : rows.getD t [] = L[t].xs := HRA.out t htl
      have hix : k < L[t].xs.length := by rw [hlen]; exact hlt
      have hv : trA rows t k = ab L[t].xs[k] := by
        unfold trA; rw [e4', List.getD_eq_getElem?_getD, List.getElem?_eq_getElem hix, Option.getD_some]
      obtain ⟨hy1, hy2⟩ := hrng L[t].xs[k] (List.getElem_mem hix)
      clear hrng e4' hcap
      generalize L[t] = s at *
      obtain ⟨a, cc, xs⟩ := s
      simp only at hck hrdt hlen hix hv hy1 hy2
      obtain ⟨b2, off2, rfl, hb2, hc2⟩ := hrdt.at_ (by simp [ic_length]; omega)
      have hb2g : b2 < g := by rw [← HG.out]; exact hb2
      have hcj : wr.cell? ⟨b2, off2 + k, none⟩ = some (.int .i64 xs[k]) := by rw [HN.out.2.cell (by exact hb2g)]; exact hc2 k _ (ic_at xs k hix)
      have hcq := HN.out.cell hlt
      rw [refB_at] at hcq
      have hfz := HN.out.1.frozen k
      have HV : Hid (qui rows level k (t + 1) = (qui rows level k t && decide (ab xs[k] ≤ level))) := by show _ = _; rw [qui, hv]
      clear hv hlen hrdt hc2
      generalize xs[k] = y at *
      have HSZ := Lib.hid (fun W => size_any y W hy1 hy2)
      obtain ⟨z, hz⟩ : ∃ z, ab y = z := ⟨_, rfl⟩
      rw [hz] at HV
      simp only [hz] at HSZ
      clear hz
      have HST : Hid (∀ v, v = qui rows level k (t + 1) → Bls w2 g n0 (refB rows level k (qui rows level k (t + 1))) (wr.setCell ⟨g, k, none⟩ (.bool v))) := fun v hv2 => by
        rw [← hv2]
        exact HN.out.store k v (fun j _ => refB_set rows level k _ v j)
      clear HN
      obtain ⟨u, hu⟩ : ∃ u, qui rows level k t = u := ⟨_, rfl⟩
      rw [hu] at hcq HV
      have HU := Lib.hid hu
      clear hu
      cases u
      · go_wp2_with fail
        go_roundw
        case rel => exact ⟨t + 1, by omega, by go_num, HST.out _ (by rw [HV.out]; rfl)⟩
        case measure => simp [intOf]; omega
      · obtain ⟨d, hd⟩ : ∃ d, decide (z ≤ level) = d := ⟨_, rfl⟩
        rw [hd] at HV
        go_wp2_with fail
        refine (HSZ.out _).mono ?_
        rintro e w5 ⟨rfl, rfl⟩
        go_wp2_with fail
        go_roundw
        case rel => exact ⟨t + 1, by omega, by go_num, HST.out _ (by rw [HV.out]; rfl)⟩
        case measure => simp [intOf]; omega
end Go.Proofs.Ytlmgdofhmgpljaa
