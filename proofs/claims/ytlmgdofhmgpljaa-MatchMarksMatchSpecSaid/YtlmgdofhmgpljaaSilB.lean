/- The contract of sound.rows. -/
import Derived.Test.YtlmgdofhmgpljaaSilA
namespace Go.Proofs.Ytlmgdofhmgpljaa
open Go.RowKit Go.Dw
attribute [local go_sem ↓] Go.wp_at_zero Go.wp_at_succ

theorem info_span : (Try.prog.info? 35).map (fun i => (i.zero, i.size, i.bytes)) = some (some (.agg #[.int .i64 0, .int .i64 0]), 2, 16) := by kernel_rfl
theorem pc_one (a : List (Int × Int)) (x : Int × Int) : pc (a ++ [x]) = pc a ++ [.int .i64 x.1, .int .i64 x.2] := by simp [pc]
theorem rowF_skip {q : Nat → Bool} {L i : Nat} (h : q i = true) : rowF q L (i + 1) = rowF q L i := by rw [rowF, if_pos h]
theorem rowF_short {q : Nat → Bool} {L i : Nat} (h : q i = false) (h2 : i - (rowF q L i).1 < L) : rowF q L (i + 1) = (i + 1, (rowF q L i).2) := by
  rw [rowF, if_neg (by rw [h]; decide), if_neg (by omega)]
theorem rowF_long {q : Nat → Bool} {L i : Nat} (h : q i = false) (h2 : L ≤ i - (rowF q L i).1) : rowF q L (i + 1) = (i + 1, (rowF q L i).2 ++ [(((rowF q L i).1 : Int), (i : Int))]) := by
  rw [rowF, if_neg (by rw [h]; decide), if_pos h2]
set_option maxHeartbeats 2000000 in
theorem rows_any (x : Snd) (level : Int) (B1 B2 : Nat) (L : Nat) (w : World) (hL : 1 ≤ L) (hn : x.n ≤ 100000) (HQ : QuiAt w x level B1 B2) :
    Calls Try.prog 24 #[.int .i64 (x.n : Int), .int .i64 (L : Int), .func (.func 26) #[] #[.pointer (some ⟨B1, 0, none⟩), .pointer (some ⟨B2, 0, none⟩)]] w fun e w' =>
      ∃ A c, e = .returned (.slice A (rowsOf (fun i => qui x.rows level i x.rows.length) L x.n).length c) ∧ Rd w' A (pc (rowsOf (fun i => qui x.rows level i x.rows.length) L x.n)) ∧ Below w.heap.size w w' := by
  have HQ' := Lib.hid HQ
  clear HQ
  unfold rowsOf
  have HINV := Lib.hid (rowF_inv (fun i => decide (i < x.n) && qui x.rows level i x.rows.length) L hL)
  obtain ⟨F, hF⟩ : ∃ F : Nat → Nat × List (Int × Int), F = rowF (fun i => decide (i < x.n) && qui x.rows level i x.rows.length) L := ⟨_, rfl⟩
  have HF := Lib.hid hF
  rw [← hF] at HINV
  rw [← hF]
  clear hF
  obtain ⟨n, hne⟩ : ∃ n, n = x.n := ⟨_, rfl⟩
  have HN := Lib.hid hne
  rw [← hne] at hn ⊢
  clear hne
  obtain ⟨ii, hii, hzi0, hzi1, hzi2⟩ := info_parts info_span
  have HII := Lib.hid (And.intro hii (And.intro hzi0 (And.intro hzi1 hzi2)))
  clear hii hzi0 hzi1 hzi2
  go_enter Try.func24, Try.ntmps24
  go_wp2_with fail
  go_loopw [7, 8, 12] (fun ov fv kv wr => ∃ k from_ m : Nat, k ≤ n + 1 ∧ kv = .int .i64 (k : Int) ∧ fv = .int .i64 (from_ : Int) ∧ from_ ≤ k ∧ m ≤ k ∧ Hid (from_ = (F k).1) ∧ Hid (m = (F k).2.length) ∧ Hid (wr.ownsRow w.heap.size 35 2 ov m (pc (F k).2)) ∧ Hid (Below w.heap.size w wr)) (fun _ _ kv _ => n + 1 - (intOf kv).toNat)
  case atStart => exact ⟨0, 0, 0, by omega, rfl, rfl, by omega, by omega, by rw [HF.out]; rfl, by rw [HF.out]; rfl, by rw [HF.out]; exact ⟨rfl, .inl ⟨rfl, rfl⟩⟩, Below.refl _ _⟩
  case round =>
    obtain ⟨k, fr, m, hk, rfl, rfl, hfk, hmk, HFR, HM, HOWN, HB⟩ := hrel
    rename_i ov
    have hso := slice_of_own HOWN.out
    obtain ⟨A3, c3, rfl⟩ := hso
    by_cases hlt : k < n + 1
    case neg =>
      have hke : k = n + 1 := by omega
      have hd1 : decide ((k : Int) < (n : Int) + 1) = false := by simp; omega
      have HM2 : Hid (m = (F (n + 1)).2.length) := by show _ = _; rw [HM.out, hke]
      have HO2 : Hid (wr.ownsRow w.heap.size 35 2 (.slice A3 m c3) m (pc (F (n + 1)).2)) := by rw [← hke]; exact HOWN
      have HRD := Lib.hid (Rd.of_own HO2.out)
      clear hke
      go_wp2_with fail
      go_ret
      exact ⟨A3, c3, by rw [← HM2.out]; rfl, HRD.out, HB.out⟩
    have hd1 : decide ((k : Int) < (n : Int) + 1) = true := by simp; omega
    by_cases hkn : k < n
    · have hd2 : decide (k < n) = true := by simpa using hkn
      have HC := Lib.hid (HQ'.out wr k HB.out (by have := HN.out; omega))
      obtain ⟨b, hb⟩ : ∃ b, qui x.rows level k x.rows.length = b := ⟨_, rfl⟩
      rw [hb] at HC
      have HBB := Lib.hid hb
      clear hb
      cases b
      · go_wp2_with fail
        refine HC.out.mono ?_
        rintro e w1 ⟨rfl, hq⟩
        have HO1 : Hid (w1.ownsRow w.heap.size 35 2 (.slice A3 m c3) m (pc (F k).2)) := by obtain ⟨q, rfl⟩ := hq; exact own_drewN HOWN.out q
        have HB1 : Hid (Below w.heap.size w w1) := by obtain ⟨q, rfl⟩ := hq; exact below_drewN HB.out q
        clear hq
        have HQF : Hid ((fun i => decide (i < x.n) && qui x.rows level i x.rows.length) k = false) := by show (decide (k < x.n) && qui x.rows level k x.rows.length) = false; rw [HBB.out]; simp
        by_cases hlg : L ≤ k - fr
        · have HFL := Lib.hid (rowF_long (L := L) HQF.out (by rw [← HF.out, ← HFR.out]; exact hlg))
          have hd3 : decide ((L : Int) ≤ (k : Int) - (fr : Int)) = true := by simp; omega
          go_wp2_with (at_builtin; refine wpList_append_own _ rfl _ _ 30 rfl w.heap.size 35 ii _ 2 16 Try.underlying30 HII.out.1 HII.out.2.1 HII.out.2.2.1 HII.out.2.2.2 rfl (by decide) _ _ _ rfl (HO1.out.alloc _) ⟨w1.heap.size, 0, none⟩ 1 1 [.int .i64 (fr : Int), .int .i64 (k : Int)] (by rfl) (by rfl) (World.news_of_block (cs := #[.int .i64 (fr : Int), .int .i64 (k : Int)]) (t := 35) (fr := (0, 0)) (by exact heap_alloc_new w1 _)) (by simp [Value.oneCell']) (by unfold maxLen; omega) (by omega) (by have := HB1.out.size; simp; omega) ?_; intro v1 w5 hown5 hgrow5 _)
          have hB5 : Hid (Below w.heap.size w w5) := below_app' HB1.out HB1.out.size HO1.out hgrow5
          have hO5 : Hid (w5.ownsRow w.heap.size 35 2 v1 (m + 1) (pc (F (k + 1)).2)) := by
            show World.ownsRow _ _ _ _ _ _ _
            rw [HF.out, HFL.out, pc_one, ← HF.out, ← HFR.out]
            exact hown5
          clear hown5 hgrow5
          go_wp2_with fail
          go_roundw
          case rel => exact ⟨k + 1, k + 1, m + 1, by omega, by go_num, by go_num, by omega, by omega, by rw [HF.out, HFL.out]; rfl, by rw [HF.out, HFL.out, List.length_append, ← HF.out, ← HM.out]; rfl, hO5, hB5⟩
          case measure => simp [intOf]; omega
        · have HFS := Lib.hid (rowF_short (L := L) HQF.out (by rw [← HF.out, ← HFR.out]; omega))
          have hd3 : decide ((L : Int) ≤ (k : Int) - (fr : Int)) = false := by simp; omega
          go_wp2_with fail
          go_roundw
          case rel => exact ⟨k + 1, k + 1, m, by omega, by go_num, by go_num, by omega, by omega, by rw [HF.out, HFS.out]; rfl, by rw [HF.out, HFS.out, ← HF.out, ← HM.out]; rfl, by show World.ownsRow _ _ _ _ _ _ _; rw [HF.out, HFS.out, ← HF.out]; exact HO1.out, HB1⟩
          case measure => simp [intOf]; omega
      · have HFK : Hid (F (k + 1) = F k) := by
          show _ = _
          rw [HF.out]
          exact rowF_skip (by show (decide (k < x.n) && qui x.rows level k x.rows.length) = true; rw [HBB.out, ← HN.out]; simp [hkn])
        go_wp2_with fail
        refine HC.out.mono ?_
        rintro e w1 ⟨rfl, hq⟩
        have HO1 : Hid (w1.ownsRow w.heap.size 35 2 (.slice A3 m c3) m (pc (F k).2)) := by obtain ⟨q, rfl⟩ := hq; exact own_drewN HOWN.out q
        have HB1 : Hid (Below w.heap.size w w1) := by obtain ⟨q, rfl⟩ := hq; exact below_drewN HB.out q
        clear hq
        go_wp2_with fail
        go_roundw
        case rel => exact ⟨k + 1, fr, m, by omega, by go_num, rfl, by omega, by omega, by rw [HFK.out]; exact HFR.out, by rw [HFK.out]; exact HM.out, by rw [HFK.out]; exact HO1, HB1⟩
        case measure => simp [intOf]; omega
    · have hd2 : decide (k < n) = false := by simpa using hkn
      obtain ⟨w1, hw1⟩ : ∃ w1, w1 = wr := ⟨_, rfl⟩
      subst hw1
      have HO1 := HOWN
      have HB1 := HB
      clear HOWN HB
      have HQF : Hid ((fun i => decide (i < x.n) && qui x.rows level i x.rows.length) k = false) := by show (decide (k < x.n) && qui x.rows level k x.rows.length) = false; rw [← HN.out]; simp [hkn]
      by_cases hlg : L ≤ k - fr
      · have HFL := Lib.hid (rowF_long (L := L) HQF.out (by rw [← HF.out, ← HFR.out]; exact hlg))
        have hd3 : decide ((L : Int) ≤ (k : Int) - (fr : Int)) = true := by simp; omega
        go_wp2_with (at_builtin; refine wpList_append_own _ rfl _ _ 30 rfl w.heap.size 35 ii _ 2 16 Try.underlying30 HII.out.1 HII.out.2.1 HII.out.2.2.1 HII.out.2.2.2 rfl (by decide) _ _ _ rfl (HO1.out.alloc _) ⟨w1.heap.size, 0, none⟩ 1 1 [.int .i64 (fr : Int), .int .i64 (k : Int)] (by rfl) (by rfl) (World.news_of_block (cs := #[.int .i64 (fr : Int), .int .i64 (k : Int)]) (t := 35) (fr := (0, 0)) (by exact heap_alloc_new w1 _)) (by simp [Value.oneCell']) (by unfold maxLen; omega) (by omega) (by have := HB1.out.size; simp; omega) ?_; intro v1 w5 hown5 hgrow5 _)
        have hB5 : Hid (Below w.heap.size w w5) := below_app' HB1.out HB1.out.size HO1.out hgrow5
        have hO5 : Hid (w5.ownsRow w.heap.size 35 2 v1 (m + 1) (pc (F (k + 1)).2)) := by
          show World.ownsRow _ _ _ _ _ _ _
          rw [HF.out, HFL.out, pc_one, ← HF.out, ← HFR.out]
          exact hown5
        clear hown5 hgrow5
        go_wp2_with fail
        go_roundw
        case rel => exact ⟨k + 1, k + 1, m + 1, by omega, by go_num, by go_num, by omega, by omega, by rw [HF.out, HFL.out]; rfl, by rw [HF.out, HFL.out, List.length_append, ← HF.out, ← HM.out]; rfl, hO5, hB5⟩
        case measure => simp [intOf]; omega
      · have HFS := Lib.hid (rowF_short (L := L) HQF.out (by rw [← HF.out, ← HFR.out]; omega))
        have hd3 : decide ((L : Int) ≤ (k : Int) - (fr : Int)) = false := by simp; omega
        go_wp2_with fail
        go_roundw
        case rel => exact ⟨k + 1, k + 1, m, by omega, by go_num, by go_num, by omega, by omega, by rw [HF.out, HFS.out]; rfl, by rw [HF.out, HFS.out, ← HF.out, ← HM.out]; rfl, by show World.ownsRow _ _ _ _ _ _ _; rw [HF.out, HFS.out, ← HF.out]; exact HO1.out, HB1⟩
        case measure => simp [intOf]; omega
end Go.Proofs.Ytlmgdofhmgpljaa
