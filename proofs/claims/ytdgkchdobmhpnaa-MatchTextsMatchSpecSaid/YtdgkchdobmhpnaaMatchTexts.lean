/- The law MatchTextsMatchSpec returns true, whatever the marks and the text. -/
import Derived.Test.YtdgkchdobmhpnaaMatchG
import Derived.Test.YtdgkchdobmhpnaaMatchH
import Derived.Test.YtdgkchdobmhpnaaEqInts
namespace Go.Proofs.Ytdgkchdobmhpnaa
open Go.RowKit Go.Dw

theorem dg_hx (i : Int) (h0 : 0 ≤ i) (h1 : i < 16) : dg (hx i) = i := by
  obtain ⟨n, rfl⟩ := Int.eq_ofNat_of_zero_le h0
  have hn : n < 16 := by omega
  match n, hn with
  | 0, _ | 1, _ | 2, _ | 3, _ | 4, _ | 5, _ | 6, _ | 7, _ | 8, _ | 9, _ | 10, _ | 11, _ | 12, _ | 13, _ | 14, _ | 15, _ => rfl
theorem prs_txt (xs : List Int) (h : ∀ x ∈ xs, okM x = true) : prs (txt xs) = xs := by
  induction xs with
  | nil => rfl
  | cons x t ih =>
    have hxx := okM_t (h x (by simp))
    have : txt (x :: t) = hx (x / 16) :: hx (x % 16) :: txt t := by simp [txt, two]
    rw [this, prs, ih (fun y hy => h y (by simp [hy])), dg_hx _ (by omega) (by omega), dg_hx _ (by omega) (by omega)]
    congr 1; omega
theorem txt_dg (xs : List Int) (h : ∀ x ∈ xs, okM x = true) : ∀ c ∈ txt xs, 0 ≤ dg c := by
  intro c hc
  simp only [txt, List.mem_flatMap] at hc
  obtain ⟨x, hx, hc⟩ := hc
  have hb := okM_t (h x hx)
  simp [two] at hc
  rcases hc with rfl | rfl
  · rw [dg_hx _ (by omega) (by omega)]; omega
  · rw [dg_hx _ (by omega) (by omega)]; omega
theorem rdd_txt (xs : List Int) (h : chk xs = 0) : rdd (txt xs) = (xs, 0, 0) := by
  obtain ⟨hl, ha⟩ := chk_zero h
  have ha' : ∀ x ∈ xs, okM x = true := List.all_eq_true.1 ha
  have hlen := txt_length xs
  rw [rdd_ok (by omega) (fun j hj => txt_dg xs ha' _ (List.getElem_mem hj)), if_neg (by omega), prs_txt xs ha']
theorem rdd_len (l : List UInt8) : (rdd l).1.length ≤ 9223372036854775807 := by
  unfold rdd
  split
  · simp
  · split
    · simp
    · split
      · simp
      · have := prs_len l; simp only; omega
theorem str_mk (l : List UInt8) : (⟨l.toArray⟩ : ByteArray).data.toList = l := rfl

theorem below_drewN {B : Nat} {a w : World} (h : Below B a w) (n : Nat) : Below B a (w.drewN n) := ⟨h.os, h.tape, h.output, h.size, h.block⟩
set_option maxHeartbeats 1000000 in
theorem texts_walk (A : Option Addr) (c : Nat) (xs : List Int) (s : ByteArray) (w : World) (h : Rd w A (ic xs)) (hn : xs.length ≤ 9223372036854775807) (hs : s.size ≤ 9223372036854775807) :
    Calls Try.prog 3 #[.slice A xs.length c, .string s] w fun e w' => e = .returned (.bool true) ∧ Below w.heap.size w w' := by
  go_enter Try.func3, Try.ntmps3
  go_wp2_with fail
  refine (text_any A c xs _ h hn).mono ?_
  rintro e w1 ⟨rfl, hb1⟩
  have h1 := h.below hb1
  have HB1 := Lib.hid hb1
  clear hb1
  go_wp2_with fail
  refine (rtext_any A c xs _ h1 hn).mono ?_
  rintro e w2 ⟨rfl, hb2⟩
  have h2 := h1.below hb2
  have HB2 := Lib.hid (HB1.out.trans (hb2.mono HB1.out.size))
  clear hb2
  by_cases hc : chk xs = 0
  · have e1 : txr xs = (txt xs, 0) := by simp [txr, hc]
    have HX := Lib.hid (rdd_txt xs hc)
    rw [e1]
    have hlt : (⟨(txt xs).toArray⟩ : ByteArray).size ≤ 9223372036854775807 := by
      show (txt xs).length ≤ _
      have := txt_length xs
      have := (chk_zero hc).1
      omega
    clear e1 hc
    go_wp2_with fail
    refine (read_any _ _ hlt).mono ?_
    rintro e w3 ⟨A3, c3, rfl, hr3, hb3⟩
    rw [str_mk, HX.out] at hr3 ⊢
    have h3 := h2.below hb3
    have HB3 := Lib.hid (HB2.out.trans (hb3.mono HB2.out.size))
    clear hb3
    go_wp2_with fail
    refine (equal_any _ _ _ _ xs xs _ h3 hr3 hn).mono ?_
    rintro e w4 ⟨rfl, nq, rfl⟩
    rw [show decide (xs = xs) = true from by simp]
    have HB4 := Lib.hid (below_drewN HB3.out nq)
    generalize w3.drewN nq = w4 at *
    go_wp2_with fail
    refine (read_any s _ hs).mono ?_
    rintro e w5 ⟨A5, c5, rfl, hr5, hb5⟩
    have HB5 := Lib.hid (HB4.out.trans (hb5.mono HB4.out.size))
    clear hb5
    go_wp2_with fail
    refine (rread_any s _ hs).mono ?_
    rintro e w6 ⟨A6, c6, rfl, hr6, hb6⟩
    have hr5' := hr5.below hb6
    have HB6 := Lib.hid (HB5.out.trans (hb6.mono HB5.out.size))
    have hlr : (rdd s.data.toList).1.length ≤ 9223372036854775807 := rdd_len _
    clear hb6
    go_wp2_with fail
    refine (equal_any _ _ _ _ (rdd s.data.toList).1 (rdd s.data.toList).1 _ hr5' hr6 hlr).mono ?_
    rintro e w7 ⟨rfl, nq2, rfl⟩
    rw [show decide ((rdd s.data.toList).1 = (rdd s.data.toList).1) = true from by simp]
    have HB7 := Lib.hid (below_drewN HB6.out nq2)
    generalize w6.drewN nq2 = w7 at *
    go_wp2_with fail
    refine (awake4 _).mono ?_
    rintro e w8 ⟨rfl, hb8⟩
    have HB8 := Lib.hid (HB7.out.trans (hb8.mono HB7.out.size))
    clear hb8
    go_wp2_with fail
    go_ret
    exact ⟨rfl, HB8.out⟩
  · have e1 : txr xs = ([], chk xs) := by simp [txr, hc]
    rw [e1]
    have hc1 : (chk xs == 0) = false := by simp [hc]
    clear e1 hc
    have HB4 := HB2
    go_wp2_with fail
    refine (read_any s _ hs).mono ?_
    rintro e w5 ⟨A5, c5, rfl, hr5, hb5⟩
    have HB5 := Lib.hid (HB4.out.trans (hb5.mono HB4.out.size))
    clear hb5
    go_wp2_with fail
    refine (rread_any s _ hs).mono ?_
    rintro e w6 ⟨A6, c6, rfl, hr6, hb6⟩
    have hr5' := hr5.below hb6
    have HB6 := Lib.hid (HB5.out.trans (hb6.mono HB5.out.size))
    have hlr : (rdd s.data.toList).1.length ≤ 9223372036854775807 := rdd_len _
    clear hb6
    go_wp2_with fail
    refine (equal_any _ _ _ _ (rdd s.data.toList).1 (rdd s.data.toList).1 _ hr5' hr6 hlr).mono ?_
    rintro e w7 ⟨rfl, nq, rfl⟩
    rw [show decide ((rdd s.data.toList).1 = (rdd s.data.toList).1) = true from by simp]
    have HB7 := Lib.hid (below_drewN HB6.out nq)
    generalize w6.drewN nq = w7 at *
    go_wp2_with fail
    refine (awake4 _).mono ?_
    rintro e w8 ⟨rfl, hb8⟩
    have HB8 := Lib.hid (HB7.out.trans (hb8.mono HB7.out.size))
    clear hb8
    go_wp2_with fail
    go_ret
    exact ⟨rfl, HB8.out⟩
end Go.Proofs.Ytdgkchdobmhpnaa
