/- The reference's long, size, few, spansOf. -/
import Derived.Test.YtlmgdofhmgpljaaSilC
import Derived.Test.YtlmgdofhmgpljaaSndR
namespace Go.Proofs.Ytlmgdofhmgpljaa
open Go.RowKit Go.Dw
attribute [local go_sem ↓] Go.wp_at_zero Go.wp_at_succ

theorem long_any (x : Snd) (w : World) (h : x.Ok w) (hp : 0 < x.p.xs.length) :
    Calls Try.prog 30 #[x.v] w fun e w' => e = .returned (.int .i64 (x.n : Int)) ∧ Below w.heap.size w w' := by
  have hb0 : Below w.heap.size w (w.alloc (.cells #[.int .i64 x.rate, x.p.v] 24)) := (Below.refl _ _).alloc (Nat.le_refl _) _
  have h1 := h.below hb0
  have HB0 := Lib.hid hb0
  have HN : Hid (x.n = x.p.xs[0].xs.length) := by show _ = _; unfold Snd.n; rw [x.rows_at 0 hp]
  obtain ⟨r, ⟨A, c, L⟩⟩ := x
  obtain ⟨hn, hrd, hrs⟩ := h1
  have hp2 : 0 < L.length := hp
  simp only [Slc.v, Snd.v] at *
  obtain ⟨b, off, rfl, hb, hc⟩ := hrd.at_ (by simp; omega)
  have hck := hc 0 (L[0].v) (by simp [hp])
  have hl0 := (hrs L[0] (List.getElem_mem hp)).1
  generalize L[0] = s at *
  obtain ⟨a, cc, xs⟩ := s
  simp only [Slc.v] at hck hl0 HN
  rw [Nat.add_zero] at hck
  clear h hc hrs hrd hb0
  have hp' : (0 : Int) < (L.length : Int) := by omega
  go_enter Try.func30, Try.ntmps30
  go_wp2
  go_ret
  exact ⟨ret_int (by rw [HN.out]), HB0.out⟩
theorem size_any (y : Int) (w : World) (h1 : -8388608 ≤ y) (h2 : y ≤ 8388607) :
    Calls Try.prog 31 #[.int .i64 y] w fun e w' => e = .returned (.int .i64 (ab y)) ∧ w = w' := by
  by_cases hn : y < 0
  · have HA : Hid (ab y = -y) := by show _ = _; unfold ab; rw [if_pos hn]
    go_enter Try.func31, Try.ntmps31
    go_wp2
    go_ret
    exact ⟨ret_int HA.out.symm, rfl⟩
  · have HA : Hid (ab y = y) := by show _ = _; unfold ab; rw [if_neg hn]
    go_enter Try.func31, Try.ntmps31
    go_wp2
    go_ret
    exact ⟨ret_int HA.out.symm, rfl⟩
theorem few_big (A : Option Addr) (n c : Nat) (w : World) (h : 1000 < n) :
    Calls Try.prog 32 #[.slice A n c] w fun e w' => e = .returned (.tuple #[.slice none 0 0, .int .i64 2]) ∧ w = w' := by
  have hd : decide (1000 < n) = true := by simpa using h
  go_enter Try.func32, Try.ntmps32
  go_wp2
  go_ret2
  exact ⟨rfl, rfl⟩
theorem few_ok (A : Option Addr) (n c : Nat) (w : World) (h : ¬ 1000 < n) :
    Calls Try.prog 32 #[.slice A n c] w fun e w' => e = .returned (.tuple #[.slice A n c, .int .i64 0]) ∧ w = w' := by
  have hd : decide (1000 < n) = false := by simpa using h
  go_enter Try.func32, Try.ntmps32
  go_wp2
  go_ret2
  exact ⟨rfl, rfl⟩
/-- where the row that is open begins, or -1 -/
def opn (k fr : Nat) : Int := if fr = k then -1 else fr
/-- the loop of spansOf -/
def SpF (bs : List Bool) (i : Nat) : Bool := decide (i < bs.length) && bs.getD i false
set_option maxHeartbeats 4000000 in
theorem spansOf_any (A : Option Addr) (c : Nat) (bs : List Bool) (L : Nat) (w : World) (hL : 1 ≤ L) (hn : bs.length ≤ 100000) (hr : Rd w A (bs.map Value.bool)) :
    Calls Try.prog 33 #[.slice A bs.length c, .int .i64 (L : Int)] w fun e w' =>
      ∃ A' c', e = .returned (.slice A' (rowF (SpF bs) L (bs.length + 1)).2.length c') ∧ w'.ownsRow w.heap.size 35 2 (.slice A' (rowF (SpF bs) L (bs.length + 1)).2.length c') (rowF (SpF bs) L (bs.length + 1)).2.length (pc (rowF (SpF bs) L (bs.length + 1)).2) ∧ Below w.heap.size w w' := by
  have HINV := Lib.hid (rowF_inv (SpF bs) L hL)
  obtain ⟨F, hF⟩ : ∃ F : Nat → Nat × List (Int × Int), F = rowF (SpF bs) L := ⟨_, rfl⟩
  have HF := Lib.hid hF
  rw [← hF] at HINV
  rw [← hF]
  clear hF
  obtain ⟨n, hne⟩ : ∃ n, n = bs.length := ⟨_, rfl⟩
  have HN := Lib.hid hne
  rw [← hne] at hn ⊢
  clear hne
  have HRD := Lib.hid hr
  clear hr
  obtain ⟨ii, hii, hzi0, hzi1, hzi2⟩ := info_parts info_span
  have HII := Lib.hid (And.intro hii (And.intro hzi0 (And.intro hzi1 hzi2)))
  clear hii hzi0 hzi1 hzi2
  go_enter Try.func33, Try.ntmps33
  go_wp2_with fail
  go_loopw [5, 6, 7] (fun ov fv kv wr => ∃ (k fr m : Nat) (o : Int), k ≤ n + 1 ∧ kv = .int .i64 (k : Int) ∧ fv = .int .i64 o ∧ o = opn k fr ∧ fr ≤ k ∧ m ≤ k ∧ Hid (fr = (F k).1) ∧ Hid (m = (F k).2.length) ∧ Hid (wr.ownsRow w.heap.size 35 2 ov m (pc (F k).2)) ∧ Hid (Below w.heap.size w wr)) (fun _ _ kv _ => n + 1 - (intOf kv).toNat)
  case atStart => exact ⟨0, 0, 0, -1, by omega, rfl, rfl, rfl, by omega, by omega, by rw [HF.out]; rfl, by rw [HF.out]; rfl, by rw [HF.out]; exact ⟨rfl, .inl ⟨rfl, rfl⟩⟩, Below.refl _ _⟩
  case round =>
    obtain ⟨k, fr, m, o, hk, rfl, rfl, ho, hfk, hmk, HFR, HM, HOWN, HB⟩ := hrel
    rename_i ov
    obtain ⟨A3, c3, rfl⟩ := slice_of_own HOWN.out
    by_cases hlt : k < n + 1
    case neg =>
      have hke : k = n + 1 := by omega
      have hd1 : decide (k ≤ n) = false := by simp; omega
      have HM2 : Hid (m = (F (n + 1)).2.length) := by show _ = _; rw [HM.out, hke]
      have HO2 : Hid (wr.ownsRow w.heap.size 35 2 (.slice A3 m c3) m (pc (F (n + 1)).2)) := by rw [← hke]; exact HOWN
      clear hke ho
      go_wp2_with fail
      go_ret
      exact ⟨A3, c3, by rw [← HM2.out]; rfl, by rw [← HM2.out]; exact HO2.out, HB.out⟩
    have hd1 : decide (k ≤ n) = true := by simp; omega
    obtain ⟨b, hb⟩ : ∃ b, SpF bs k = b := ⟨_, rfl⟩
    have HBB := Lib.hid hb
    clear hb
    have hcell : k < n → ∃ b2 off, A = some ⟨b2, off, none⟩ ∧ wr.cell? ⟨b2, off + k, none⟩ = some (.bool b) := fun hkn => by
      have hkb : k < bs.length := by rw [← HN.out]; exact hkn
      obtain ⟨b2, off, e1, hb2, hc⟩ := HRD.out.at_ (by rw [List.length_map]; omega)
      refine ⟨b2, off, e1, ?_⟩
      rw [HB.out.cell (by exact hb2)]
      have := HBB.out
      unfold SpF at this
      rw [decide_eq_true hkb, Bool.true_and, List.getD_eq_getElem?_getD, List.getElem?_eq_getElem hkb, Option.getD_some] at this
      rw [← this]
      exact hc k _ (by simp [hkb])
    have hnb : ¬ k < n → b = false := fun hkn => by
      rw [← HBB.out]; unfold SpF; rw [decide_eq_false (by rw [← HN.out]; exact hkn)]; rfl
    have hnn : n ≤ 9223372036854775807 := by omega
    cases b
    · -- nothing here
      have HQF := HBB
      by_cases hfe : fr = k
      · have HFS := Lib.hid (rowF_short (L := L) HQF.out (by rw [← HF.out, ← HFR.out]; omega))
        have ho1 : o = -1 := by rw [ho]; unfold opn; rw [if_pos hfe]
        subst ho1
        clear ho hfe
        by_cases hkn : k < n
        · obtain ⟨b2, off, rfl, hck⟩ := hcell hkn
          have hd2 : decide (k < n) = true := by simpa using hkn
          clear hcell hnb
          go_wp2_with fail
          go_roundw
          case rel => exact ⟨k + 1, k + 1, m, -1, by omega, by go_num, rfl, by unfold opn; rw [if_pos rfl], by omega, by omega, by rw [HF.out, HFS.out]; rfl, by rw [HF.out, HFS.out, ← HF.out, ← HM.out]; rfl, by show World.ownsRow _ _ _ _ _ _ _; rw [HF.out, HFS.out, ← HF.out]; exact HOWN.out, HB⟩
          case measure => simp [intOf]; omega
        · have hd2 : decide (k < n) = false := by simpa using hkn
          clear hcell hnb
          go_wp2_with fail
          go_roundw
          case rel => exact ⟨k + 1, k + 1, m, -1, by omega, by go_num, rfl, by unfold opn; rw [if_pos rfl], by omega, by omega, by rw [HF.out, HFS.out]; rfl, by rw [HF.out, HFS.out, ← HF.out, ← HM.out]; rfl, by show World.ownsRow _ _ _ _ _ _ _; rw [HF.out, HFS.out, ← HF.out]; exact HOWN.out, HB⟩
          case measure => simp [intOf]; omega
      · have ho1 : o = (fr : Int) := by rw [ho]; unfold opn; rw [if_neg hfe]
        subst ho1
        clear ho
        have hf0 : decide ((0 : Int) ≤ (fr : Int)) = true := by simp
        by_cases hlg : L ≤ k - fr
        · have HFL := Lib.hid (rowF_long (L := L) HQF.out (by rw [← HF.out, ← HFR.out]; exact hlg))
          have hd3 : decide ((L : Int) ≤ (k : Int) - (fr : Int)) = true := by simp; omega
          by_cases hkn : k < n
          · obtain ⟨b2, off, rfl, hck⟩ := hcell hkn
            have hd2 : decide (k < n) = true := by simpa using hkn
            clear hcell hnb
            go_wp2_with (at_builtin; refine wpList_append_own _ rfl _ _ 30 rfl w.heap.size 35 ii _ 2 16 Try.underlying30 HII.out.1 HII.out.2.1 HII.out.2.2.1 HII.out.2.2.2 rfl (by decide) _ _ _ rfl (HOWN.out.alloc _) ⟨wr.heap.size, 0, none⟩ 1 1 [.int .i64 (fr : Int), .int .i64 (k : Int)] (by rfl) (by rfl) (World.news_of_block (cs := #[.int .i64 (fr : Int), .int .i64 (k : Int)]) (t := 35) (fr := (0, 0)) (by exact heap_alloc_new wr _)) (by simp [Value.oneCell']) (by unfold maxLen; omega) (by omega) (by have := HB.out.size; simp; omega) ?_; intro v1 w5 hown5 hgrow5 _)
            have hB5 : Hid (Below w.heap.size w w5) := below_app' HB.out HB.out.size HOWN.out hgrow5
            have hO5 : Hid (w5.ownsRow w.heap.size 35 2 v1 (m + 1) (pc (F (k + 1)).2)) := by
              show World.ownsRow _ _ _ _ _ _ _
              rw [HF.out, HFL.out, pc_one, ← HF.out, ← HFR.out]
              exact hown5
            clear hown5 hgrow5
            go_wp2_with fail
            go_roundw
            case rel => exact ⟨k + 1, k + 1, m + 1, -1, by omega, by go_num, rfl, by unfold opn; rw [if_pos rfl], by omega, by omega, by rw [HF.out, HFL.out]; rfl, by rw [HF.out, HFL.out, List.length_append, ← HF.out, ← HM.out]; rfl, hO5, hB5⟩
            case measure => simp [intOf]; omega
          · have hd2 : decide (k < n) = false := by simpa using hkn
            clear hcell hnb
            go_wp2_with (at_builtin; refine wpList_append_own _ rfl _ _ 30 rfl w.heap.size 35 ii _ 2 16 Try.underlying30 HII.out.1 HII.out.2.1 HII.out.2.2.1 HII.out.2.2.2 rfl (by decide) _ _ _ rfl (HOWN.out.alloc _) ⟨wr.heap.size, 0, none⟩ 1 1 [.int .i64 (fr : Int), .int .i64 (k : Int)] (by rfl) (by rfl) (World.news_of_block (cs := #[.int .i64 (fr : Int), .int .i64 (k : Int)]) (t := 35) (fr := (0, 0)) (by exact heap_alloc_new wr _)) (by simp [Value.oneCell']) (by unfold maxLen; omega) (by omega) (by have := HB.out.size; simp; omega) ?_; intro v1 w5 hown5 hgrow5 _)
            have hB5 : Hid (Below w.heap.size w w5) := below_app' HB.out HB.out.size HOWN.out hgrow5
            have hO5 : Hid (w5.ownsRow w.heap.size 35 2 v1 (m + 1) (pc (F (k + 1)).2)) := by
              show World.ownsRow _ _ _ _ _ _ _
              rw [HF.out, HFL.out, pc_one, ← HF.out, ← HFR.out]
              exact hown5
            clear hown5 hgrow5
            go_wp2_with fail
            go_roundw
            case rel => exact ⟨k + 1, k + 1, m + 1, -1, by omega, by go_num, rfl, by unfold opn; rw [if_pos rfl], by omega, by omega, by rw [HF.out, HFL.out]; rfl, by rw [HF.out, HFL.out, List.length_append, ← HF.out, ← HM.out]; rfl, hO5, hB5⟩
            case measure => simp [intOf]; omega
        · have HFS := Lib.hid (rowF_short (L := L) HQF.out (by rw [← HF.out, ← HFR.out]; omega))
          have hd3 : decide ((L : Int) ≤ (k : Int) - (fr : Int)) = false := by simp; omega
          by_cases hkn : k < n
          · obtain ⟨b2, off, rfl, hck⟩ := hcell hkn
            have hd2 : decide (k < n) = true := by simpa using hkn
            clear hcell hnb
            go_wp2_with fail
            go_roundw
            case rel => exact ⟨k + 1, k + 1, m, -1, by omega, by go_num, rfl, by unfold opn; rw [if_pos rfl], by omega, by omega, by rw [HF.out, HFS.out]; rfl, by rw [HF.out, HFS.out, ← HF.out, ← HM.out]; rfl, by show World.ownsRow _ _ _ _ _ _ _; rw [HF.out, HFS.out, ← HF.out]; exact HOWN.out, HB⟩
            case measure => simp [intOf]; omega
          · have hd2 : decide (k < n) = false := by simpa using hkn
            clear hcell hnb
            go_wp2_with fail
            go_roundw
            case rel => exact ⟨k + 1, k + 1, m, -1, by omega, by go_num, rfl, by unfold opn; rw [if_pos rfl], by omega, by omega, by rw [HF.out, HFS.out]; rfl, by rw [HF.out, HFS.out, ← HF.out, ← HM.out]; rfl, by show World.ownsRow _ _ _ _ _ _ _; rw [HF.out, HFS.out, ← HF.out]; exact HOWN.out, HB⟩
            case measure => simp [intOf]; omega
    · have hkn : k < n := by
        by_cases hkn : k < n
        · exact hkn
        · exact absurd (hnb hkn) (by decide)
      obtain ⟨b2, off, rfl, hck⟩ := hcell hkn
      have HFK : Hid (F (k + 1) = F k) := by
        show _ = _
        rw [HF.out]
        exact rowF_skip HBB.out
      have hd2 : decide (k < n) = true := by simpa using hkn
      clear hcell hnb
      by_cases hfe : fr = k
      · have ho1 : o = -1 := by rw [ho]; unfold opn; rw [if_pos hfe]
        subst ho1
        have HFE : Hid (opn (k + 1) fr = (k : Int)) := by show _ = _; unfold opn; rw [if_neg (by omega), hfe]
        clear ho hfe
        go_wp2_with fail
        go_roundw
        case rel => exact ⟨k + 1, fr, m, (k : Int), by omega, by go_num, rfl, HFE.out.symm, by omega, by omega, by rw [HFK.out]; exact HFR.out, by rw [HFK.out]; exact HM.out, by rw [HFK.out]; exact HOWN, HB⟩
        case measure => simp [intOf]; omega
      · have ho1 : o = (fr : Int) := by rw [ho]; unfold opn; rw [if_neg hfe]
        subst ho1
        have hf0 : decide ((fr : Int) < 0) = false := by simp
        have HFE : Hid (opn (k + 1) fr = (fr : Int)) := by show _ = _; unfold opn; rw [if_neg (by omega)]
        clear ho hfe
        go_wp2_with fail
        go_roundw
        case rel => exact ⟨k + 1, fr, m, (fr : Int), by omega, by go_num, rfl, HFE.out.symm, by omega, by omega, by rw [HFK.out]; exact HFR.out, by rw [HFK.out]; exact HM.out, by rw [HFK.out]; exact HOWN, HB⟩
        case measure => simp [intOf]; omega
end Go.Proofs.Ytlmgdofhmgpljaa
