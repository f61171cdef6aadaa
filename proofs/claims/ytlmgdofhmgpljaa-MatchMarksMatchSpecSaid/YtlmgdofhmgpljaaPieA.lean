/- The contract of match.Pieces. -/
import Derived.Test.YtlmgdofhmgpljaaSilC
import Derived.Test.YtlmgdofhmgpljaaSwpC
namespace Go.Proofs.Ytlmgdofhmgpljaa
open Go.RowKit Go.Dw
attribute [local go_sem ↓] Go.wp_at_zero Go.wp_at_succ

theorem pieF_bad {rate : Int} {T : List (List Int)} {level least f : Int} {l : List Sp} (h : silF rate T level least = (l, f)) (hf : f ≠ 0) : pieF rate T level least = ([], f) := by
  unfold pieF; rw [h]; simp [hf]
theorem pieF_ok {rate : Int} {T : List (List Int)} {level least : Int} {l : List Sp} (h : silF rate T level least = (l, 0)) : pieF rate T level least = if 1000 < (pieR ((T.getD 0 []).length : Int) 0 l).length then ([], 2) else (pieR ((T.getD 0 []).length : Int) 0 l, 0) := by
  unfold pieF; rw [h]; rfl
theorem silF_gaps {rate : Int} {T : List (List Int)} {level least : Int} {l : List Sp} (h : silF rate T level least = (l, 0)) : chkS rate T = 0 ∧ Gaps l ∧ (∀ x ∈ l, 0 ≤ x.1 ∧ x.2 ≤ ((T.getD 0 []).length : Int)) ∧ l.length ≤ 1000 := by
  unfold silF at h
  by_cases h1 : chkS rate T ≠ 0
  · rw [if_pos h1] at h; injection h with _ h2; exact absurd h2 h1
  · rw [if_neg h1] at h
    refine ⟨Decidable.not_not.1 h1, ?_⟩
    by_cases h2 : 0 ≤ level ∧ level ≤ 8388608 ∧ 1 ≤ least ∧ least ≤ 100000
    · rw [if_pos h2] at h
      split at h
      · injection h with _ h3; omega
      · rename_i h3
        injection h with h4 _
        have := rowsOf_gaps (fun i => qui T level i T.length) least.toNat (T.getD 0 []).length (by omega)
        rw [h4] at this h3
        exact ⟨this.1, this.2.1, by omega⟩
    · rw [if_neg h2] at h; injection h with _ h3; omega
set_option maxHeartbeats 2000000 in
theorem Pieces_any (x : Snd) (level least : Int) (w : World) (h : x.Ok w) :
    Calls Try.prog 9 #[x.v, .int .i64 level, .int .i64 least] w (SpnPost w (pieF x.rate x.rows level least)) := by
  have hb0 : Below w.heap.size w (w.alloc (.cells #[.int .i64 x.rate, x.p.v] 24)) := (Below.refl _ _).alloc (Nat.le_refl _) _
  have HSL := Lib.hid (Silences_any x level least _ (h.below hb0))
  have HB0 := Lib.hid hb0
  have hc1 : (w.alloc (.cells #[.int .i64 x.rate, x.p.v] 24)).cell? ⟨w.heap.size, 1, none⟩ = some x.p.v := new_cell (cs := [_, _]) rfl rfl
  have hws : w.heap.size < (w.alloc (.cells #[.int .i64 x.rate, x.p.v] 24)).heap.size := by simp
  obtain ⟨⟨l, f⟩, hlf⟩ : ∃ r, silF x.rate x.rows level least = r := ⟨_, rfl⟩
  rw [hlf] at HSL
  by_cases hf : f = 0
  case neg =>
    have hzb : (f != 0) = true := by simpa using hf
    have HR := Lib.hid (pieF_bad hlf hf)
    clear hf h hb0 hlf hc1
    simp only [Snd.v, Slc.v] at *
    go_enter Try.func9, Try.ntmps9
    go_wp2_with fail
    refine HSL.out.mono ?_
    rintro e w1 ⟨A1, c1, rfl, _, hb1⟩
    have HB1 := Lib.hid (HB0.out.trans (hb1.mono HB0.out.size))
    clear hb1
    go_wp2_with fail
    go_ret2
    exact spnPost_none HR.out HB1.out
  subst hf
  have HR := Lib.hid (pieF_ok hlf)
  obtain ⟨hz, hg, hx, hl⟩ := silF_gaps hlf
  have hso := chkS_zero hz
  have HNE : Hid (x.n = (x.rows.getD 0 []).length) := rfl
  rw [← HNE.out] at HR hx
  have HSW := Lib.hid (sweep_is hg hx)
  have HGX := Lib.hid (And.intro hg hx)
  have hn0 : x.n ≤ 100000 := hso.2.2.2.2.1
  have hp : 0 < x.p.xs.length := by rw [← x.rows_len]; exact hso.2.2.1
  have HN : Hid (x.n = x.p.xs[0].xs.length) := by show _ = _; unfold Snd.n; rw [x.rows_at 0 hp]
  have hXB := h.below hb0
  generalize x.n = n at *
  have hpl : (pieR (n : Int) 0 l).length ≤ 1001 := by have := pieR_length (n := (n : Int)) (l := l) (at_ := 0); omega
  obtain ⟨P, hP⟩ : ∃ P, pieR (n : Int) 0 l = P := ⟨_, rfl⟩
  rw [hP] at HR hpl HSW
  obtain ⟨ii, hii, hzi0, hzi1, hzi2⟩ := info_parts info_spn
  have HII := Lib.hid (And.intro hii (And.intro hzi0 (And.intro hzi1 hzi2)))
  clear hz hg hx hso hlf h hb0 hP hii hzi0 hzi1 hzi2
  obtain ⟨r, ⟨A, c, L⟩⟩ := x
  obtain ⟨hn, hrd, hrs⟩ := hXB
  have hp2 : 0 < L.length := hp
  simp only [Slc.v, Snd.v] at *
  obtain ⟨b, off, rfl, hb, hc⟩ := hrd.at_ (by simp; omega)
  have hck := hc 0 (L[0].v) (by simp [hp])
  generalize L[0] = s at *
  obtain ⟨a, cc, xs⟩ := s
  simp only [Slc.v] at hck HN
  rw [Nat.add_zero, ← HN.out] at hck
  clear hc hrs hrd
  have hp' : (0 : Int) < (L.length : Int) := by omega
  generalize hW0 : w.alloc (.cells #[.int .i64 r, .slice (some ⟨b, off, none⟩) L.length c] 24) = w0 at *
  have HW0 := Lib.hid hW0
  clear hW0
  go_enter Try.func9, Try.ntmps9
  go_wp2_with fail
  rw [HW0.out]
  refine HSL.out.mono ?_
  rintro e w1 ⟨A1, c1, rfl, hr1, hb1⟩
  have k1 : w1.cell? ⟨w.heap.size, 1, none⟩ = some (.slice (some ⟨b, off, none⟩) L.length c) := by rw [hb1.cell (by exact hws)]; exact hc1
  have k2 : w1.cell? ⟨b, off, none⟩ = some (.slice a n cc) := by rw [hb1.cell (by exact hb)]; exact hck
  have HB1 := Lib.hid (HB0.out.trans (hb1.mono HB0.out.size))
  have HR1 := Lib.hid hr1
  clear hb1 hr1 hc1 hck
  by_cases hn : 0 < n
  · have hd0 : decide (0 < n) = true := by simpa using hn
    rw [if_pos hn] at HSW
    go_wp2_with (at_builtin; refine wpList_append_own _ rfl _ _ 30 rfl w1.heap.size 35 ii _ 2 16 Try.underlying30 HII.out.1 HII.out.2.1 HII.out.2.2.1 HII.out.2.2.2 rfl (by decide) _ _ _ rfl (World.ownsRow.alloc (n := 0) (xs := []) ⟨rfl, .inl ⟨rfl, rfl⟩⟩ _) ⟨w1.heap.size, 0, none⟩ 1 1 [.int .i64 0, .int .i64 (n : Int)] (by rfl) (by rfl) (World.news_of_block (cs := #[.int .i64 0, .int .i64 (n : Int)]) (t := 35) (fr := (0, 0)) (by exact heap_alloc_new w1 _)) (by simp [Value.oneCell']) (by unfold maxLen; omega) (by omega) (by simp) ?_; intro v1 w5 hown5 hgrow5 _)
    obtain ⟨A5, c5, rfl⟩ := slice_of_own hown5
    have HB5 : Hid (Below w1.heap.size w1 w5) := ((Below.refl _ _).alloc (Nat.le_refl _) _).grown hgrow5 (by simp) (fun g hg => by cases hg)
    have HRD := Lib.hid (Rd.of_own hown5)
    have HSWP := Lib.hid (sweep_any A5 c5 [(0, (n : Int))] A1 c1 l w5 (by simp) (by omega) HRD.out (HR1.out.below HB5.out))
    rw [HSW.out] at HSWP
    clear hown5 hgrow5
    go_wp2_with fail
    refine HSWP.out.mono ?_
    rintro e w6 ⟨A6, c6, rfl, hr6, hb6⟩
    have HR6 := Lib.hid hr6
    have HB6 := Lib.hid (HB1.out.trans ((HB5.out.trans (hb6.mono HB5.out.size)).mono HB1.out.size))
    clear hr6 hb6
    by_cases hbig : 1000 < P.length
    · rw [if_pos hbig] at HR
      have hd : decide (1000 < P.length) = true := by simpa using hbig
      go_wp2_with fail
      go_ret2
      exact spnPost_none HR.out HB6.out
    · rw [if_neg hbig] at HR
      have hd : decide (1000 < P.length) = false := by simpa using hbig
      go_wp2_with fail
      go_ret2
      exact spnPost_some HR.out rfl HR6.out HB6.out
  · have hd0 : decide (0 < n) = false := by simpa using hn
    rw [if_neg hn] at HSW
    have HSWP := Lib.hid (sweep_any none 0 [] A1 c1 l w1 (by simp) (by omega) (.inl rfl) HR1.out)
    rw [HSW.out] at HSWP
    go_wp2_with fail
    refine HSWP.out.mono ?_
    rintro e w6 ⟨A6, c6, rfl, hr6, hb6⟩
    have HR6 := Lib.hid hr6
    have HB6 := Lib.hid (HB1.out.trans (hb6.mono HB1.out.size))
    clear hr6 hb6
    by_cases hbig : 1000 < P.length
    · rw [if_pos hbig] at HR
      have hd : decide (1000 < P.length) = true := by simpa using hbig
      go_wp2_with fail
      go_ret2
      exact spnPost_none HR.out HB6.out
    · rw [if_neg hbig] at HR
      have hd : decide (1000 < P.length) = false := by simpa using hbig
      go_wp2_with fail
      go_ret2
      exact spnPost_some HR.out rfl HR6.out HB6.out
end Go.Proofs.Ytlmgdofhmgpljaa
