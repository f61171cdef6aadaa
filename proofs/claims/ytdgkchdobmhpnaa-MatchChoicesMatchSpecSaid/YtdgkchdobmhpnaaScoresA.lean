/- The contract of match.CheckScores. -/
import Derived.Test.YtdgkchdobmhpnaaMatchA
namespace Go.Proofs.Ytdgkchdobmhpnaa
open Go.RowKit Go.Dw

/-- scores: takes, the rows of points, what a cut costs, how many there can be -/
structure Sco where
  t : Int
  p : Slc (Slc Int)
  cost : Int
  most : Int
def Sco.cells (x : Sco) : List Value := [.int .i64 x.t, x.p.v, .int .i64 x.cost, .int .i64 x.most]
def Sco.rows (x : Sco) : List (List Int) := x.p.xs.map Slc.xs
def Sco.Ok (w : World) (x : Sco) : Prop :=
  x.p.xs.length ≤ 9223372036854775807 ∧ Rd w x.p.a (x.p.xs.map Slc.v) ∧ ∀ s ∈ x.p.xs, s.xs.length ≤ 9223372036854775807 ∧ Rd w s.a (ic s.xs)
theorem Sco.Ok.below {w w' : World} {x : Sco} (h : x.Ok w) (hb : Below w.heap.size w w') : x.Ok w' :=
  ⟨h.1, h.2.1.below hb, fun s hs => ⟨(h.2.2 s hs).1, (h.2.2 s hs).2.below hb⟩⟩

def okP (n : Int) : Bool := decide (-1 ≤ n) && decide (n ≤ 1000000)
theorem okP_t {m : Int} (h : okP m = true) : -1 ≤ m ∧ m ≤ 1000000 := by simpa [okP] using h
theorem okP_f {m : Int} (h : okP m = false) : ¬ (-1 ≤ m ∧ m ≤ 1000000) := by simp [okP] at h; omega
/-- the fault of a row of points -/
def rowF (t : Int) (l : List Int) : Int := if (l.length : Int) = t then (if l.all okP then 0 else 1) else 3
theorem rowF_3 {t : Int} {l : List Int} (h : ¬ (l.length : Int) = t) : rowF t l = 3 := by simp [rowF, h]
theorem rowF_0 {t : Int} {l : List Int} (h : (l.length : Int) = t) (ha : l.all okP = true) : rowF t l = 0 := by unfold rowF; rw [if_pos h, ha]; rfl
theorem rowF_1 {t : Int} {l : List Int} (h : (l.length : Int) = t) {k : Nat} (hk : k < l.length) (hv : okP l[k] = false) : rowF t l = 1 := by
  have : l.all okP = false := by
    rw [List.all_eq_false]; exact ⟨l[k], List.getElem_mem hk, by simp [hv]⟩
  unfold rowF; rw [if_pos h, this]; rfl
/-- CheckScores -/
def csc (t : Int) (rows : List (List Int)) (cost most : Int) : Int :=
  if ¬ (1 ≤ t ∧ t ≤ 20) then 1 else if 60 < rows.length then 2 else
  if firstNZ (fun k => rowF t (rows.getD k [])) rows.length ≠ 0 then firstNZ (fun k => rowF t (rows.getD k [])) rows.length else
  if ¬ (0 ≤ cost ∧ cost ≤ 1000000 ∧ 0 ≤ most ∧ most ≤ 60) then 1 else 0
section
variable {t : Int} {rows : List (List Int)} {cost most : Int}
theorem csc_1 (h : ¬ (1 ≤ t ∧ t ≤ 20)) : csc t rows cost most = 1 := by unfold csc; rw [if_pos h]
theorem csc_2 (h : 1 ≤ t ∧ t ≤ 20) (h2 : 60 < rows.length) : csc t rows cost most = 2 := by unfold csc; rw [if_neg (fun hh => hh h), if_pos h2]
theorem csc_row (h : 1 ≤ t ∧ t ≤ 20) (h2 : ¬ 60 < rows.length) {k : Nat} (hk : k < rows.length) (hall : ∀ j, j < k → rowF t (rows.getD j []) = 0) (hb : rowF t (rows.getD k []) ≠ 0) : csc t rows cost most = rowF t (rows.getD k []) := by
  unfold csc; rw [if_neg (fun hh => hh h), if_neg h2, firstNZ_bad (f := fun k => rowF t (rows.getD k [])) hall hb hk, if_pos hb]
theorem csc_end (h : 1 ≤ t ∧ t ≤ 20) (h2 : ¬ 60 < rows.length) (hall : ∀ j, j < rows.length → rowF t (rows.getD j []) = 0) : csc t rows cost most = if ¬ (0 ≤ cost ∧ cost ≤ 1000000 ∧ 0 ≤ most ∧ most ≤ 60) then 1 else 0 := by
  unfold csc; rw [if_neg (fun hh => hh h), if_neg h2, firstNZ_ok (f := fun k => rowF t (rows.getD k [])) hall, if_neg (by simp)]
end
theorem rows_at (x : Sco) (k : Nat) (h : k < x.p.xs.length) : x.rows.getD k [] = x.p.xs[k].xs := by
  rw [Sco.rows, List.getD_eq_getElem?_getD, List.getElem?_eq_getElem (by simpa using h)]; simp
theorem rows_len (x : Sco) : x.rows.length = x.p.xs.length := by simp [Sco.rows]

set_option maxHeartbeats 1000000 in
theorem checkScores_any (x : Sco) (w : World) (h : x.Ok w) :
    Calls Try.prog 23 #[.agg x.cells.toArray] w fun e w' => e = .returned (.int .i64 (csc x.t x.rows x.cost x.most)) ∧ Below w.heap.size w w' := by
  have HRA := Lib.hid (rows_at x)
  have HRL := Lib.hid (rows_len x)
  have hb0 : Below w.heap.size w (w.alloc (.cells x.cells.toArray 41)) := (Below.refl _ _).alloc (Nat.le_refl _) _
  have h1 := h.below hb0
  have HB0 := Lib.hid hb0
  clear hb0
  generalize x.rows = rows at *
  obtain ⟨t, ⟨A, c, L⟩, cost, most⟩ := x
  obtain ⟨hn, hrd, hrs⟩ := h1
  clear h
  simp only [Sco.cells, Slc.v] at *
  have HRS := Lib.hid hrs
  clear hrs
  by_cases ht : 1 ≤ t ∧ t ≤ 20
  case neg =>
    have HE := Lib.hid (csc_1 (rows := rows) (cost := cost) (most := most) ht)
    rcases (show t < 1 ∨ (¬ t < 1 ∧ 20 < t) by omega) with h3 | h3
    all_goals
      clear ht
      go_enter Try.func23, Try.ntmps23
      go_wp2
      go_ret
      exact ⟨ret_int HE.out.symm, HB0.out⟩
  have HT := Lib.hid ht
  obtain ⟨ht1, ht2⟩ := ht
  by_cases hl : 60 < L.length
  · have HE := Lib.hid (csc_2 (cost := cost) (most := most) HT.out (by rw [HRL.out]; exact hl))
    go_enter Try.func23, Try.ntmps23
    go_wp2
    go_ret
    exact ⟨ret_int HE.out.symm, HB0.out⟩
  go_enter Try.func23, Try.ntmps23
  go_wp2
  go_loop [22] (fun i => ∃ k : Nat, k ≤ L.length ∧ i = .int .i64 k ∧ Hid (∀ j, j < k → rowF t (rows.getD j []) = 0)) (fun i => L.length - (intOf i).toNat)
  case atStart => exact ⟨0, Nat.zero_le _, rfl, by intro j hj; omega⟩
  case round =>
    obtain ⟨k, hk, rfl, hall⟩ := hrel
    by_cases hlt : k < L.length
    · obtain ⟨b, off, rfl, hb, hc⟩ := hrd.at_ (by simp; omega)
      have hck := hc k (L[k].v) (by simp [hlt])
      clear hc
      obtain ⟨hlen, hrdk⟩ := HRS.out L[k] (List.getElem_mem hlt)
      have HRK := Lib.hid (HRA.out k hlt)
      have HBAD := Lib.hid (@csc_row t rows cost most HT.out (by rw [HRL.out]; exact hl) k (by rw [HRL.out]; exact hlt) hall.out)
      have HSTEP := Lib.hid (@step_all (fun j => rowF t (rows.getD j [])) k hall.out)
      clear HRA
      generalize L[k] = s at *
      obtain ⟨a, cc, xs⟩ := s
      simp only [Slc.v] at hck hrdk hlen
      by_cases hlx : (xs.length : Int) = t
      case neg =>
        have h3 : ((xs.length : Int) != t) = true := by simpa using hlx
        have HX := Lib.hid hlx
        clear hlx
        go_wp2
        go_ret
        have e3 := rowF_3 HX.out
        have e4 : rows.getD k [] = xs := HRK.out
        exact ⟨ret_int (by rw [HBAD.out (by rw [e4, e3]; decide), e4, e3]), HB0.out⟩
      · have h3 : ((xs.length : Int) != t) = false := by simpa using hlx
        have HX := Lib.hid hlx
        have hx20 : xs.length ≤ 20 := by omega
        clear hlx
        go_wp2
        go_loop [33] (fun i => ∃ k : Nat, k ≤ xs.length ∧ i = .int .i64 k ∧ Hid ((xs.take k).all okP = true)) (fun i => xs.length - (intOf i).toNat)
        case atStart => exact ⟨0, Nat.zero_le _, rfl, by simp [Hid]⟩
        case round =>
          obtain ⟨j, hj, rfl, hall2⟩ := hrel
          by_cases hlj : j < xs.length
          · obtain ⟨b2, off2, rfl, hb2, hc2⟩ := hrdk.at_ (by simp [ic_length]; omega)
            have hcj := hc2 j _ (ic_at xs j hlj)
            clear hc2 hrdk
            have hsn : Hid ((xs.take (j + 1)).all okP = ((xs.take j).all okP && okP xs[j])) := all_take_succ _ _ _ hlj
            cases hv : okP xs[j] with
            | true =>
              obtain ⟨hb1, hb2⟩ := okP_t hv
              have Hv := Lib.hid hv
              clear hv
              go_wp2
              go_round
              case rel => exact ⟨j + 1, by omega, by go_num, by show _ = _; rw [hsn.out, hall2.out, Hv.out]; rfl⟩
              case measure => simp [intOf]; omega
            | false =>
              have hb := okP_f hv
              have Hv := Lib.hid hv
              clear hv
              have e3 := Lib.hid (rowF_1 HX.out hlj Hv.out)
              rcases (show xs[j] < -1 ∨ (¬ xs[j] < -1 ∧ 1000000 < xs[j]) by omega) with hb1 | hb1
              all_goals
                clear hb
                go_wp2
                go_ret
                have e4 : rows.getD k [] = xs := HRK.out
                exact ⟨ret_int (by rw [HBAD.out (by rw [e4, e3.out]; decide), e4, e3.out]), HB0.out⟩
          · go_wp2
            have hfull : xs.take j = xs := List.take_of_length_le (by omega)
            have h5 := hall2.out
            rw [hfull] at h5
            go_round
            case rel => exact ⟨k + 1, by omega, by go_num, HSTEP.out (by show rowF t (rows.getD k []) = 0; rw [HRK.out]; exact rowF_0 HX.out h5)⟩
            case measure => simp [intOf]; omega
    · have HE := Lib.hid (csc_end (cost := cost) (most := most) HT.out (by rw [HRL.out]; exact hl) (fun j hj => hall.out j (by rw [HRL.out] at hj; omega)))
      by_cases hcm : 0 ≤ cost ∧ cost ≤ 1000000 ∧ 0 ≤ most ∧ most ≤ 60
      · have HC := Lib.hid hcm
        obtain ⟨hc1, hc2, hc3, hc4⟩ := hcm
        go_wp2
        go_ret
        exact ⟨ret_int (by rw [HE.out, if_neg (fun hh => hh HC.out)]), HB0.out⟩
      · have HC := Lib.hid hcm
        rcases (show cost < 0 ∨ (¬ cost < 0 ∧ 1000000 < cost) ∨ (¬ cost < 0 ∧ ¬ 1000000 < cost ∧ most < 0) ∨ (¬ cost < 0 ∧ ¬ 1000000 < cost ∧ ¬ most < 0 ∧ 60 < most) by omega) with h3 | h3 | h3 | h3
        all_goals
          clear hcm
          go_wp2
          go_ret
          exact ⟨ret_int (by rw [HE.out, if_pos HC.out]), HB0.out⟩
end Go.Proofs.Ytdgkchdobmhpnaa
