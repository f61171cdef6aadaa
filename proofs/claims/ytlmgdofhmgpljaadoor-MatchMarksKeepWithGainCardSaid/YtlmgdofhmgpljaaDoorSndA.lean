/- The contract of sound.Check. -/
import Derived.Test.YtlmgdofhmgpljaaDoorSndP
import Derived.Test.YtlmgdofhmgpljaaDoorTab
import Derived.Test.YtlmgdofhmgpljaaDoorProg
import Derived.Deep.RegionHeld3
import Derived.Deep.DrawnRows
namespace Go.Proofs.YtlmgdofhmgpljaaDoor
open Go.RowKit Go.Dw
attribute [local go_sem ↓] Go.wp_at_zero Go.wp_at_succ

/-- a sound: its rate, its tracks -/
structure Snd where
  rate : Int
  p : Slc (Slc Int)
def Snd.cells (x : Snd) : List Value := [.int .i64 x.rate, x.p.v]
def Snd.v (x : Snd) : Value := .agg #[.int .i64 x.rate, x.p.v]
def Snd.rows (x : Snd) : List (List Int) := x.p.xs.map Slc.xs
def Snd.n (x : Snd) : Nat := (x.rows.getD 0 []).length
def Snd.Ok (w : World) (x : Snd) : Prop :=
  x.p.xs.length ≤ 9223372036854775807 ∧ Rd w x.p.a (x.p.xs.map Slc.v) ∧ ∀ s ∈ x.p.xs, s.xs.length ≤ 9223372036854775807 ∧ Rd w s.a (ic s.xs) ∧ s.xs.length ≤ s.c
theorem Snd.Ok.below {w w' : World} {x : Snd} (h : x.Ok w) (hb : Below w.heap.size w w') : x.Ok w' :=
  ⟨h.1, h.2.1.below hb, fun s hs => ⟨(h.2.2 s hs).1, (h.2.2 s hs).2.1.below hb, (h.2.2 s hs).2.2⟩⟩
theorem Snd.rows_at (x : Snd) (k : Nat) (h : k < x.p.xs.length) : x.rows.getD k [] = x.p.xs[k].xs := by
  rw [Snd.rows, List.getD_eq_getElem?_getD, List.getElem?_eq_getElem (by simpa using h)]; simp
theorem Snd.rows_len (x : Snd) : x.rows.length = x.p.xs.length := by simp [Snd.rows]
section
variable {rate : Int} {T : List (List Int)}
theorem chkS_1 (h : ¬ (1 ≤ rate ∧ rate ≤ 1000000)) : chkS rate T = 1 := by unfold chkS; rw [if_pos h]
theorem chkS_9 (h : 1 ≤ rate ∧ rate ≤ 1000000) (h2 : T.length = 0) : chkS rate T = 9 := by unfold chkS; rw [if_neg (fun hh => hh h), if_pos h2]
theorem chkS_2 (h : 1 ≤ rate ∧ rate ≤ 1000000) (h2 : ¬ T.length = 0) (h3 : 16 < T.length ∨ 100000 < (T.getD 0 []).length) : chkS rate T = 2 := by unfold chkS; rw [if_neg (fun hh => hh h), if_neg h2, if_pos h3]
theorem chkS_row (h : 1 ≤ rate ∧ rate ≤ 1000000) (h2 : ¬ T.length = 0) (h3 : ¬ (16 < T.length ∨ 100000 < (T.getD 0 []).length)) {k : Nat} (hk : k < T.length) (hall : ∀ j, j < k → trkF (T.getD 0 []).length (T.getD j []) = 0) (hb : trkF (T.getD 0 []).length (T.getD k []) ≠ 0) : chkS rate T = trkF (T.getD 0 []).length (T.getD k []) := by
  unfold chkS; rw [if_neg (fun hh => hh h), if_neg h2, if_neg h3, firstNZ_bad (f := fun j => trkF (T.getD 0 []).length (T.getD j [])) hall hb hk]
theorem chkS_end (h : 1 ≤ rate ∧ rate ≤ 1000000) (h2 : ¬ T.length = 0) (h3 : ¬ (16 < T.length ∨ 100000 < (T.getD 0 []).length)) (hall : ∀ j, j < T.length → trkF (T.getD 0 []).length (T.getD j []) = 0) : chkS rate T = 0 := by
  unfold chkS; rw [if_neg (fun hh => hh h), if_neg h2, if_neg h3, firstNZ_ok (f := fun j => trkF (T.getD 0 []).length (T.getD j [])) hall]
theorem trkF_3 {n : Nat} {l : List Int} (h : ¬ l.length = n) : trkF n l = 3 := by unfold trkF; rw [if_pos h]
theorem trkF_0 {n : Nat} {l : List Int} (h : l.length = n) (ha : l.all okS = true) : trkF n l = 0 := by unfold trkF; rw [if_neg (fun hh => hh h), ha]; rfl
theorem trkF_1 {n : Nat} {l : List Int} (h : l.length = n) {k : Nat} (hk : k < l.length) (hv : okS l[k] = false) : trkF n l = 1 := by
  have : l.all okS = false := by
    rw [List.all_eq_false]; exact ⟨l[k], List.getElem_mem hk, by simp [hv]⟩
  unfold trkF; rw [if_neg (fun hh => hh h), this]; rfl
theorem all_take_succ' {α : Type} (p : α → Bool) (xs : List α) (k : Nat) (h : k < xs.length) : (xs.take (k + 1)).all p = ((xs.take k).all p && p xs[k]) := by
  rw [List.take_succ_eq_append_getElem h, List.all_append]; simp
end
theorem isSample_any (n : Int) (w : World) : Calls Tryd.prog 37 #[.int .i64 n] w fun e w' => e = .returned (.bool (okS n)) ∧ w = w' := by
  by_cases h1 : -8388608 ≤ n
  · go_enter Tryd.func37, Tryd.ntmps37
    go_wp2
    go_ret
    exact ⟨ret_bool (by simp [okS, h1]), rfl⟩
  · go_enter Tryd.func37, Tryd.ntmps37
    go_wp2
    go_ret
    exact ⟨ret_bool (by simp [okS]; omega), rfl⟩
theorem isRate_any (n : Int) (w : World) : Calls Tryd.prog 35 #[.int .i64 n] w fun e w' => e = .returned (.bool (decide (1 ≤ n) && decide (n ≤ 1000000))) ∧ w = w' := by
  by_cases h1 : 1 ≤ n
  · go_enter Tryd.func35, Tryd.ntmps35
    go_wp2
    go_ret
    exact ⟨ret_bool (by simp [h1]), rfl⟩
  · go_enter Tryd.func35, Tryd.ntmps35
    go_wp2
    go_ret
    exact ⟨ret_bool (by simp; omega), rfl⟩
theorem length_any (x : Snd) (w : World) (h : x.Ok w) (hp : 0 < x.p.xs.length) :
    Calls Tryd.prog 36 #[x.v] w fun e w' => e = .returned (.int .i64 (x.n : Int)) ∧ Below w.heap.size w w' := by
  have hb0 : Below w.heap.size w (w.alloc (.cells #[.int .i64 x.rate, x.p.v] 24)) := (Below.refl _ _).alloc (Nat.le_refl _) _
  have h1 := h.below hb0
  have HB0 := Lib.hid hb0
  have HN : Hid (x.n = x.p.xs[0].xs.length) := by show _ = _; unfold Snd.n; rw [x.rows_at 0 hp]
  obtain ⟨r, ⟨A, c, L⟩⟩ := x
  obtain ⟨hn, hrd, hrs⟩ := h1
  have hp2 : 0 < L.length := hp
  simp only [Slc.v, Snd.v] at *
  obtain ⟨b, off, rfl, hb, hc⟩ := hrd.at_ (by simp; omega)
  have hck := hc 0 (L[0].v) (by simp [hp])
  have hl0 := (hrs L[0] (List.getElem_mem hp)).1
  generalize L[0] = s at *
  obtain ⟨a, cc, xs⟩ := s
  simp only [Slc.v] at hck hl0 HN
  rw [Nat.add_zero] at hck
  clear h hc hrs hrd hb0
  have hp' : (0 : Int) < (L.length : Int) := by omega
  go_enter Tryd.func36, Tryd.ntmps36
  go_wp2
  go_ret
  exact ⟨ret_int (by rw [HN.out]), HB0.out⟩
set_option maxHeartbeats 2000000 in
theorem sndCheck_any (x : Snd) (w : World) (h : x.Ok w) :
    Calls Tryd.prog 22 #[x.v] w fun e w' => e = .returned (.int .i64 (chkS x.rate x.rows)) ∧ Below w.heap.size w w' := by
  have HRA := Lib.hid x.rows_at
  have HRL := Lib.hid x.rows_len
  have hb0 : Below w.heap.size w (w.alloc (.cells #[.int .i64 x.rate, x.p.v] 24)) := (Below.refl _ _).alloc (Nat.le_refl _) _
  have h1 := h.below hb0
  have HB0 := Lib.hid hb0
  have HLN := Lib.hid (fun (hp : 0 < x.p.xs.length) (W : World) (hW : Below (w.alloc (.cells #[.int .i64 x.rate, x.p.v] 24)).heap.size (w.alloc (.cells #[.int .i64 x.rate, x.p.v] 24)) W) => length_any x W (h1.below hW) hp)
  have HNE : Hid (x.n = (x.rows.getD 0 []).length) := rfl
  clear hb0
  generalize x.n = n0 at *
  generalize x.rows = rows at *
  obtain ⟨rate, ⟨A, c, L⟩⟩ := x
  obtain ⟨hn, hrd, hrs⟩ := h1
  clear h
  simp only [Snd.v, Slc.v] at *
  have HRS := Lib.hid hrs
  clear hrs
  by_cases ht : 1 ≤ rate ∧ rate ≤ 1000000
  case neg =>
    have HE := Lib.hid (chkS_1 (T := rows) ht)
    have hrt : (decide (1 ≤ rate) && decide (rate ≤ 1000000)) = false := by simp; omega
    have HRT := Lib.hid (fun W => (by have := isRate_any rate W; rw [hrt] at this; exact this : Calls Tryd.prog 35 #[.int .i64 rate] W fun e w' => e = .returned (.bool false) ∧ W = w'))
    clear ht hrt
    go_enter Tryd.func22, Tryd.ntmps22
    go_wp2_with fail
    refine (HRT.out _).mono ?_
    rintro e w1 ⟨rfl, rfl⟩
    go_wp2_with fail
    go_ret
    exact ⟨ret_int HE.out.symm, HB0.out⟩
  have hrt : (decide (1 ≤ rate) && decide (rate ≤ 1000000)) = true := by simpa using ht
  have HRT := Lib.hid (fun W => (by have := isRate_any rate W; rw [hrt] at this; exact this : Calls Tryd.prog 35 #[.int .i64 rate] W fun e w' => e = .returned (.bool true) ∧ W = w'))
  have HT := Lib.hid ht
  clear ht hrt
  by_cases hl0 : L.length = 0
  · have HE := Lib.hid (chkS_9 (T := rows) HT.out (by rw [HRL.out]; exact hl0))
    have hl0' : ((L.length : Int) == 0) = true := by simpa using hl0
    clear hl0
    go_enter Tryd.func22, Tryd.ntmps22
    go_wp2_with fail
    refine (HRT.out _).mono ?_
    rintro e w1 ⟨rfl, rfl⟩
    go_wp2_with fail
    go_ret
    exact ⟨ret_int HE.out.symm, HB0.out⟩
  have hl0' : ((L.length : Int) == 0) = false := by simpa using hl0
  have HL0 := Lib.hid hl0
  by_cases hl : 16 < L.length
  · have HE := Lib.hid (chkS_2 (T := rows) HT.out (by rw [HRL.out]; exact hl0) (.inl (by rw [HRL.out]; exact hl)))
    have hl' : decide ((16 : Int) < (L.length : Int)) = true := by simp; omega
    clear hl0
    go_enter Tryd.func22, Tryd.ntmps22
    go_wp2_with fail
    refine (HRT.out _).mono ?_
    rintro e w1 ⟨rfl, rfl⟩
    go_wp2_with fail
    go_ret
    exact ⟨ret_int HE.out.symm, HB0.out⟩
  have hl' : decide ((16 : Int) < (L.length : Int)) = false := by simp; omega
  have hc0 : (w.alloc (.cells #[.int .i64 rate, .slice A L.length c] 24)).cell? ⟨w.heap.size, 0, none⟩ = some (.int .i64 rate) := new_cell (cs := [_, _]) rfl rfl
  have hc1 : (w.alloc (.cells #[.int .i64 rate, .slice A L.length c] 24)).cell? ⟨w.heap.size, 1, none⟩ = some (.slice A L.length c) := new_cell (cs := [_, _]) rfl rfl
  have hws : w.heap.size < (w.alloc (.cells #[.int .i64 rate, .slice A L.length c] 24)).heap.size := by simp
  have HC0 := Lib.hid hc0
  have HC1 := Lib.hid hc1
  have HWS := Lib.hid hws
  clear hc0 hc1 hws
  by_cases hl2 : 100000 < n0
  · have HE := Lib.hid (chkS_2 (T := rows) HT.out (by rw [HRL.out]; exact hl0) (.inr (by rw [← HNE.out]; exact hl2)))
    have hl2' : decide ((100000 : Int) < (n0 : Int)) = true := by simp; omega
    go_enter Tryd.func22, Tryd.ntmps22
    go_wp2_with fail
    refine (HRT.out _).mono ?_
    rintro e w1 ⟨rfl, rfl⟩
    go_wp2_with fail
    refine (HLN.out (by omega) _ (Below.refl _ _)).mono ?_
    rintro e w2 ⟨rfl, hb2⟩
    have HB2 := Lib.hid (HB0.out.trans (hb2.mono HB0.out.size))
    clear hb2
    go_wp2_with fail
    go_ret
    exact ⟨ret_int HE.out.symm, HB2.out⟩
  have hl2' : decide ((100000 : Int) < (n0 : Int)) = false := by simp; omega
  have HL3 : Hid (¬ (16 < rows.length ∨ 100000 < (rows.getD 0 []).length)) := by show ¬ _; rw [HRL.out, ← HNE.out]; show ¬ (16 < L.length ∨ _); omega
  go_enter Tryd.func22, Tryd.ntmps22
  go_wp2_with fail
  refine (HRT.out _).mono ?_
  rintro e w1 ⟨rfl, rfl⟩
  go_wp2_with fail
  refine (HLN.out (by omega) _ (Below.refl _ _)).mono ?_
  generalize w.alloc (.cells #[.int .i64 rate, .slice A L.length c] 24) = w1 at *
  rintro e w2 ⟨rfl, hb2⟩
  have HB2 := Lib.hid hb2
  clear hb2
  have c1 : w2.cell? ⟨w.heap.size, 1, none⟩ = some (.slice A L.length c) := by rw [HB2.out.cell (by exact HWS.out)]; exact HC1.out
  go_wp2_with fail
  go_loopw [30] (fun i wr => ∃ k : Nat, k ≤ L.length ∧ i = .int .i64 k ∧ Hid (∀ j, j < k → trkF n0 (rows.getD j []) = 0) ∧ Hid (Below w1.heap.size w1 wr)) (fun i _ => L.length - (intOf i).toNat)
  case atStart => exact ⟨0, Nat.zero_le _, rfl, by intro j hj; omega, HB2⟩
  case round =>
    clear c1 HB2
    obtain ⟨k, hk, rfl, hall, HB⟩ := hrel
    by_cases hlt : k < L.length
    case neg =>
      have HE := Lib.hid (chkS_end (T := rows) HT.out (by rw [HRL.out]; exact HL0.out) HL3.out (fun j hj => by rw [← HNE.out]; exact hall.out j (by rw [HRL.out] at hj; have hj' : j < L.length := hj; omega)))
      go_wp2_with fail
      go_ret
      exact ⟨ret_int HE.out.symm, HB0.out.trans (HB.out.mono HB0.out.size)⟩
    obtain ⟨b, off, rfl, hb, hc⟩ := hrd.at_ (by simp; omega)
    have hck : wr.cell? ⟨b, off + k, none⟩ = some L[k].v := by rw [HB.out.cell (by exact hb)]; exact hc k (L[k].v) (by simp [hlt])
    clear hc
    obtain ⟨hlen, hrdk, _⟩ := HRS.out L[k] (List.getElem_mem hlt)
    have HRK := Lib.hid (HRA.out k hlt)
    have HBAD : Hid (trkF n0 (rows.getD k []) ≠ 0 → chkS rate rows = trkF n0 (rows.getD k [])) := fun hh => by
      have := @chkS_row rate rows HT.out (by rw [HRL.out]; exact HL0.out) HL3.out k (by rw [HRL.out]; exact hlt)
      rw [← HNE.out] at this
      exact this hall.out hh
    have HSTEP := Lib.hid (@step_all (fun j => trkF n0 (rows.getD j [])) k hall.out)
    generalize L[k] = s at *
    obtain ⟨a, cc, xs⟩ := s
    simp only [Slc.v] at hck hrdk hlen
    have k0 : wr.cell? ⟨w.heap.size, 0, none⟩ = some (.int .i64 rate) := by rw [HB.out.cell (by exact HWS.out)]; exact HC0.out
    have k1 : wr.cell? ⟨w.heap.size, 1, none⟩ = some (.slice (some ⟨b, off, none⟩) L.length c) := by rw [HB.out.cell (by exact HWS.out)]; exact HC1.out
    go_wp2_with fail
    refine (HLN.out (by omega) _ HB.out).mono ?_
    rintro e w3 ⟨rfl, hb3⟩
    have HB3 := Lib.hid (HB.out.trans (hb3.mono HB.out.size))
    clear hb3 hck k0 k1
    have e4 : Hid (rows.getD k [] = xs) := HRK.out
    clear HRK
    by_cases hlx : xs.length = n0
    case neg =>
      have h3 : ((xs.length : Int) != (n0 : Int)) = true := by simp; omega
      have e3 := Lib.hid (trkF_3 hlx)
      clear hlx
      go_wp2_with fail
      go_ret
      exact ⟨ret_int (by rw [HBAD.out (by rw [e4.out, e3.out]; decide), e4.out, e3.out]), HB0.out.trans (HB3.out.mono HB0.out.size)⟩
    have h3 : ((xs.length : Int) != (n0 : Int)) = false := by simp; omega
    have HX := Lib.hid hlx
    have hx20 : xs.length ≤ 100000 := by omega
    clear hlx
    have HRX : Hid (Rd w3 a (ic xs)) := hrdk.below HB3.out
    have HIS := Lib.hid isSample_any
    go_wp2_with fail
    go_loop [41] (fun i => ∃ k : Nat, k ≤ xs.length ∧ i = .int .i64 k ∧ Hid ((xs.take k).all okS = true)) (fun i => xs.length - (intOf i).toNat)
    case atStart => exact ⟨0, Nat.zero_le _, rfl, by simp [Hid]⟩
    case round =>
      obtain ⟨j, hj, rfl, hall2⟩ := hrel
      by_cases hlj : j < xs.length
      · obtain ⟨b2, off2, rfl, hb2, hc2⟩ := HRX.out.at_ (by simp [ic_length]; omega)
        have hcj := hc2 j _ (ic_at xs j hlj)
        clear hc2
        have hsn : Hid ((xs.take (j + 1)).all okS = ((xs.take j).all okS && okS xs[j])) := all_take_succ' _ _ _ hlj
        have e3 := Lib.hid (fun hv => trkF_1 HX.out hlj hv)
        generalize xs[j] = y at *
        obtain ⟨q, hq⟩ : ∃ q, okS y = q := ⟨_, rfl⟩
        have HQ := Lib.hid hq
        clear hq
        go_wp2_with fail
        refine (HIS.out _ _).mono ?_
        rintro e w4 ⟨rfl, rfl⟩
        rw [HQ.out]
        cases q with
        | true =>
          go_wp2_with fail
          go_round
          case rel => exact ⟨j + 1, by omega, by go_num, by show _ = _; rw [hsn.out, hall2.out, HQ.out]; rfl⟩
          case measure => simp [intOf]; omega
        | false =>
          go_wp2_with fail
          go_ret
          exact ⟨ret_int (by rw [HBAD.out (by rw [e4.out, e3.out HQ.out]; decide), e4.out, e3.out HQ.out]), HB0.out.trans (HB3.out.mono HB0.out.size)⟩
      · have hfull : xs.take j = xs := List.take_of_length_le (by omega)
        have h4 := hall2.out
        rw [hfull] at h4
        have H4 := Lib.hid h4
        clear h4 hfull
        go_wp2_with fail
        go_roundw
        case rel => exact ⟨k + 1, by omega, by go_num, HSTEP.out (by rw [e4.out]; exact trkF_0 HX.out H4.out), HB3⟩
        case measure => simp [intOf]; omega
end Go.Proofs.YtlmgdofhmgpljaaDoor
