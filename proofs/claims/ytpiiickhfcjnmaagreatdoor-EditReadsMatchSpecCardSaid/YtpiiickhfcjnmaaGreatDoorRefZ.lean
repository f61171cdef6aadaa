/- Several texts laid into one: The contracts of deadwaxref3's digits and number; The contract of deadwaxref3.numbers; The contracts of deadwaxref3's row and point; The contract of deadwaxref3.readLine at the first line; -/
import Derived.Test.YtpiiickhfcjnmaaGreatDoorRedZ
import Derived.Deep.DeepCutAuto
import Derived.Deep.CutBlock
import Derived.Test.YtpiiickhfcjnmaaGreatDoorRedG
/- The contracts of deadwaxref3's digits and number. -/
namespace Go.Proofs.YtpiiickhfcjnmaaGreatDoor
open Go.RowKit Go.Dw

theorem isDg_no {l : List UInt8} (h : l.all isD = false) : isDg l = false := by
  rw [Bool.eq_false_iff]; intro hh; have := ((isDg_iff _).1 hh).2; rw [h] at this; cases this
set_option maxRecDepth 100000 in
set_option maxHeartbeats 2000000 in
theorem digits3_any (s : ByteArray) (w : World) (hs : s.size ≤ 9223372036854775807) :
    Calls Tryz.prog 140 #[.string s] w fun e w' => e = .returned (.bool (isDg s.data.toList)) ∧ w = w' := by
  go_enter Tryz.func140, Tryz.ntmps140
  go_wp2_with fail
  go_loop [3] (fun i => ∃ k : Nat, k ≤ s.size ∧ i = .int .i64 k ∧ Hid ((s.data.toList.take k).all isD = true)) (fun i => s.size - (intOf i).toNat)
  case atStart => exact ⟨0, Nat.zero_le _, rfl, by simp [Hid]⟩
  case round =>
    obtain ⟨k, hk, rfl, HALL⟩ := hrel
    by_cases hlt : k < s.size
    case neg =>
      have hd : decide (k < s.size) = false := by simpa using hlt
      have HA : Hid (s.data.toList.all isD = true) := by
        show _ = _
        have := HALL.out
        rwa [List.take_of_length_le (by rw [Array.length_toList]; show s.size ≤ k; omega)] at this
      clear HALL
      by_cases h0 : 0 < s.size
      · have e1 := emp_f h0
        have e2 : (s.toList == []) = false := by rw [beq_eq_false_iff_ne]; intro hh; rw [hh] at e1; cases e1
        have HE : Hid (isDg s.data.toList = true) := (isDg_iff _).2 ⟨fun e => by have := congrArg List.length e; rw [Array.length_toList] at this; exact absurd this (by show ¬ s.size = 0; omega), HA.out⟩
        go_wp2_with fail
        go_ret
        exact ⟨ret_bool HE.out.symm, rfl⟩
      · obtain ⟨e1, e2⟩ := emp_t h0
        have HE : Hid (isDg s.data.toList = false) := by show _ = _; rw [← ByteArray.toList_eq, e2]; rfl
        clear e2
        go_wp2_with fail
        go_ret
        exact ⟨ret_bool HE.out.symm, rfl⟩
    have hd : decide (k < s.size) = true := by simpa using hlt
    have HS := Lib.hid (dgt_succ s k hlt)
    cases hv : isD s[k] with
    | true =>
      have HV : Hid ((s.data.toList.take (k + 1)).all isD = true) := by show _ = _; rw [HS.out, HALL.out, hv]; rfl
      obtain ⟨g1, g2⟩ := isD_bd hv
      clear hv
      have g1' : (48 : Int) ≤ (s[k].toNat : Int) := by omega
      have g2' : (s[k].toNat : Int) ≤ 57 := by omega
      go_wp2_with fail
      go_round
      case rel => exact ⟨k + 1, by omega, by go_num, HV⟩
      case measure => simp [intOf]; omega
    | false =>
      have HE : Hid (isDg s.data.toList = false) := isDg_no (dgt_false s k hlt hv)
      have hcs : s[k].toNat < 48 ∨ 57 < s[k].toNat := by
        unfold isD at hv; simp at hv; omega
      clear hv
      rcases hcs with g1 | g1
      · have g1' : (s[k].toNat : Int) < 48 := by omega
        go_wp2_with fail
        go_ret
        exact ⟨ret_bool HE.out.symm, rfl⟩
      · have g1' : (57 : Int) < (s[k].toNat : Int) := by omega
        have g2' : (48 : Int) ≤ (s[k].toNat : Int) := by omega
        go_wp2_with fail
        go_ret
        exact ⟨ret_bool HE.out.symm, rfl⟩
set_option maxHeartbeats 2000000 in
theorem number3_any (s : ByteArray) (w : World) (hs : s.size ≤ 9223372036854775807) :
    Calls Tryz.prog 139 #[.string s] w fun e w' => e = .returned (nmE (numE s.data.toList)) ∧ Below w.heap.size w w' := by
  have HDG := Lib.hid (digits3_any s w hs)
  cases hd : isDg s.data.toList with
  | false =>
    have HQ : Hid (numE s.data.toList = none) := numE_no fun h => by
      have := noZ_dg h.1
      rw [hd] at this; cases this
    rw [hd] at HDG
    clear hd
    go_enter Tryz.func139, Tryz.ntmps139
    go_wp2_with fail
    refine HDG.out.mono ?_
    rintro e w2 ⟨rfl, rfl⟩
    go_wp2_with fail
    go_ret2
    exact ⟨by rw [HQ.out]; rfl, Below.refl _ _⟩
  | true =>
    obtain ⟨hne, ha⟩ := (isDg_iff _).1 hd
    rw [hd] at HDG
    have h0 : 0 < s.size := by
      rw [← size_list]; exact List.length_pos_iff.2 hne
    have HNE : Hid (s.data.toList ≠ []) := hne
    have HA : Hid (s.data.toList.all isD = true) := ha
    clear hd hne ha
    by_cases h14 : 14 < s.size
    · have HQ : Hid (numE s.data.toList = none) := numE_no fun h => by have := h.2; rw [size_list] at this; omega
      go_enter Tryz.func139, Tryz.ntmps139
      go_wp2_with fail
      refine HDG.out.mono ?_
      rintro e w2 ⟨rfl, rfl⟩
      go_wp2_with fail
      go_ret2
      exact ⟨by rw [HQ.out]; rfl, Below.refl _ _⟩
    have HAT := Lib.hid (fun (W : World) => atoiE_any s W HNE.out HA.out (by omega))
    obtain ⟨v, hv⟩ : ∃ v, valD s.data.toList = v := ⟨_, rfl⟩
    have HYES : Hid (noZ s.data.toList = true → numE s.data.toList = some v) := fun h => by rw [numE_yes h (by rw [size_list]; omega), hv]
    rw [hv] at HAT
    clear hv
    by_cases h1 : 1 < s.size
    · by_cases h48 : (s[0]'h0).toNat = 48
      · have g1 : (((s[0]'h0).toNat : Int) == 48) = true := by rw [h48]; rfl
        have HQ : Hid (numE s.data.toList = none) := numE_no fun h => by
          have := noZ_head (l := s.data.toList) (by rw [head_of h0, (u8_48 _).2 h48]) (fun e => by have := congrArg List.length e; rw [size_list] at this; simp at this; omega)
          rw [this] at h; cases h.1
        clear h48
        go_enter Tryz.func139, Tryz.ntmps139
        go_wp2_with fail
        refine HDG.out.mono ?_
        rintro e w2 ⟨rfl, rfl⟩
        go_wp2_with fail
        go_ret2
        exact ⟨by rw [HQ.out]; rfl, Below.refl _ _⟩
      · have g1 : (((s[0]'h0).toNat : Int) == 48) = false := by simp; omega
        have HQ : Hid (numE s.data.toList = some v) := HYES.out (noZ_ok HA.out HNE.out (by rw [head_of h0]; intro e; injection e with e; exact h48 ((u8_48 _).1 e)))
        clear h48
        go_enter Tryz.func139, Tryz.ntmps139
        go_wp2_with fail
        refine HDG.out.mono ?_
        rintro e w2 ⟨rfl, rfl⟩
        have HA2 := Lib.hid (HAT.out w)
        go_wp2_with fail
        refine (HAT.out _).mono ?_
        rintro e w3 ⟨rfl, hb3⟩
        have HB3 := Lib.hid hb3
        clear hb3
        go_wp2_with fail
        go_ret2
        exact ⟨by rw [HQ.out]; rfl, HB3.out⟩
    · have HQ : Hid (numE s.data.toList = some v) := HYES.out (by
        have hl : s.data.toList.length = 1 := by rw [size_list]; omega
        obtain ⟨x, hx⟩ := List.length_eq_one_iff.1 hl
        refine (noZ_iff _).2 ⟨HA.out, ?_⟩
        rw [hx]
        exact ⟨by simp, fun e => by simp at e; rw [e]⟩)
      go_enter Tryz.func139, Tryz.ntmps139
      go_wp2_with fail
      refine HDG.out.mono ?_
      rintro e w2 ⟨rfl, rfl⟩
      go_wp2_with fail
      refine (HAT.out _).mono ?_
      rintro e w3 ⟨rfl, hb3⟩
      have HB3 := Lib.hid hb3
      clear hb3
      go_wp2_with fail
      go_ret2
      exact ⟨by rw [HQ.out]; rfl, HB3.out⟩
end Go.Proofs.YtpiiickhfcjnmaaGreatDoor
/- The contract of deadwaxref3.numbers. -/
namespace Go.Proofs.YtpiiickhfcjnmaaGreatDoor
open Go.RowKit Go.Dw

set_option maxRecDepth 100000 in
set_option maxHeartbeats 4000000 in
theorem numbers3_any (A : Option Addr) (c : Nat) (P : List (List UInt8)) (w : World) (h : Rd w A (sc P)) (hl : P.length ≤ 1048577) (hz : ∀ p ∈ P, p.length ≤ 1048576) :
    Calls Tryz.prog 76 #[.slice A P.length c] w (NumsR w (numsE P)) := by
  obtain ⟨ii, hii, hzi0, hzi1, hzi2⟩ := info_parts infoInt
  obtain ⟨RF, hRF⟩ : ∃ RF, numsE P = RF := ⟨_, rfl⟩
  have HRF := Lib.hid hRF
  have HH := Lib.hid h
  have HZ := Lib.hid hz
  rw [hRF]
  clear hRF h hz
  go_enter Tryz.func76, Tryz.ntmps76
  go_wp2_with fail
  go_loopw [4, 5] (fun ov iv wr => ∃ (k : Nat) (ns : List Nat) (A5 : Option Addr) (c5 : Nat), k ≤ P.length ∧ iv = .int .i64 (k : Int) ∧ ov = .slice A5 ns.length c5 ∧ Hid (numsE (P.take k) = some ns) ∧ Hid (wr.ownsRow w.heap.size 3 1 (.slice A5 ns.length c5) ns.length (nc ns)) ∧ Hid (Below w.heap.size w wr)) (fun _ iv _ => P.length - (intOf iv).toNat)
  case atStart => exact ⟨0, [], none, 0, Nat.zero_le _, rfl, rfl, rfl, World.ownsRow_nil _ _ _ _, Below.refl _ _⟩
  case round =>
    obtain ⟨k, ns, A5, c5, hk, rfl, rfl, HN, HO, HB⟩ := hrel
    by_cases hlt : k < P.length
    case neg =>
      have hd : decide (k < P.length) = false := by simpa using hlt
      have HE : Hid (RF = some ns) := by
        show _ = _
        have := HN.out
        rw [List.take_of_length_le (by omega)] at this
        rw [← HRF.out, this]
      have HR : Hid (RdS (fun b => w.heap.size ≤ b) wr A5 (nc ns)) := by
        rcases HO.out.2 with ⟨h0, h1⟩ | ⟨g, cap, cur, hv, hb, hg, _⟩
        · exact .inl (List.eq_nil_of_length_eq_zero (by rw [HO.out.1, h1]))
        · injection hv with hv1 hv2 hv3
          subst hv1
          refine .inr ⟨g, 0, rfl, hb, (Array.getElem?_eq_some_iff.1 hg).1, fun j u hu => ?_⟩
          have := HO.out.cells (g := g) rfl j u hu
          have hadd : (⟨g, 0, none⟩ : Addr).add j = ⟨g, 0 + j, none⟩ := by unfold Addr.add; split <;> simp_all
          rw [← hadd]; exact this
      go_wp2_with fail
      go_ret2
      exact numsR_some HE.out HB.out HR.out rfl
    have hd : decide (k < P.length) = true := by simpa using hlt
    obtain ⟨b, off, hA, hbl, hcs⟩ := HH.out.at_ (by rw [sc_len]; omega)
    subst hA
    have c0 : wr.cell? ⟨b, off + k, none⟩ = some (.string ⟨P[k].toArray⟩) := by
      rw [HB.out.cell (by exact hbl)]; exact hcs k _ (sc_at P k hlt)
    obtain ⟨s, hs⟩ : ∃ s : ByteArray, s = ⟨P[k].toArray⟩ := ⟨_, rfl⟩
    have hsl : s.data.toList = P[k] := by rw [hs]
    have hsz : s.size ≤ 1048576 := by rw [← size_list, hsl]; exact HZ.out _ (List.getElem_mem hlt)
    rw [← hs] at c0
    have HNM := Lib.hid (number3_any s wr (by omega))
    rw [hsl] at HNM
    have htk : P.take (k + 1) = P.take k ++ [P[k]] := List.take_succ_eq_append_getElem hlt
    have HSTOP : Hid (numE P[k] = none → RF = none) := fun hx => by
      have e : P = P.take k ++ P[k] :: P.drop (k + 1) := by rw [← List.drop_eq_getElem_cons hlt, List.take_append_drop]
      have h2 := nums_stop (P.drop (k + 1)) hx (P.take k)
      rw [← e] at h2
      rw [← HRF.out, h2]
    have HGO : Hid (∀ n, numE P[k] = some n → numsE (P.take (k + 1)) = some (ns ++ [n])) := fun n hx => by
      rw [htk]; exact nums_snoc hx HN.out
    have HLN := Lib.hid (nums_len HN.out)
    have hnl : ns.length ≤ 1048577 := by have := HLN.out; rw [List.length_take] at this; omega
    clear hs hsl htk hcs HLN
    obtain ⟨r, hr⟩ : ∃ r, numE P[k] = r := ⟨_, rfl⟩
    rw [hr] at HNM HSTOP HGO
    clear hr
    have hix : (0 : Int) ≤ (k : Int) := by omega
    have hix2 : (k : Int) < (P.length : Int) := by omega
    go_wp2_with fail
    refine HNM.out.mono ?_
    rintro e w2 ⟨rfl, hb2⟩
    have HB2 := Lib.hid (HB.out.trans (hb2.mono HB.out.size))
    have HO2 := Lib.hid (own_belowL HO.out hb2)
    clear hb2 c0
    cases r with
    | none =>
      have HE := Lib.hid (HSTOP.out rfl)
      unfold nmE
      go_wp2_with fail
      go_ret2
      exact numsR_none HE.out HB2.out rfl
    | some n =>
      have HE := Lib.hid (HGO.out n rfl)
      unfold nmE
      have HOA := Lib.hid (HO2.out.alloc (.cells #[.int .i64 (n : Int)] 3))
      have hszr := HB2.out.size
      simp only [Option.getD_some, Option.isSome_some]
      go_wp2_with (at_builtin; refine wpList_append_lies _ rfl _ _ 63 rfl w.heap.size 3 ii _ 1 8 Tryz.underlying63 hii hzi0 hzi1 hzi2 rfl (by decide) _ _ _ rfl HOA.out ⟨w2.heap.size, 0, none⟩ 1 1 [.int .i64 (n : Int)] (by rfl) (by rfl) (World.news_of_block (cs := #[.int .i64 (n : Int)]) (t := 3) (fr := (0, 0)) (heap_alloc_new w2 _)) (by simp [Value.oneCell']) (by decide) (by unfold maxLen; omega) (by omega) (by simp; omega) (w2.heap.size + 1) (by simp) ?_; intro g8 cap8 w8 hown8 hgrow8 hat8 hlt8)
      have HO8 : Hid (w8.ownsRow w.heap.size 3 1 (.slice (some ⟨g8, 0, none⟩) (ns ++ [n]).length cap8) (ns ++ [n]).length (nc (ns ++ [n]))) := by
        show World.ownsRow _ _ _ _ _ _ _
        rw [nc_append, List.length_append]
        exact hown8
      have HB8 : Hid (Below w.heap.size w w8) := (HB2.out.alloc HB2.out.size _).grown hgrow8 (by simp; omega) (fun b hb => (HO2.out.lt b hb).1)
      have hl8 : ns.length + 1 = (ns ++ [n]).length := by simp
      clear hown8 hgrow8 hat8 hlt8 HOA HO2 HO
      go_roundw
      case rel => exact ⟨k + 1, ns ++ [n], _, _, by omega, by go_num, by rw [← hl8], HE, HO8, HB8⟩
      case measure => simp [intOf]; omega
end Go.Proofs.YtpiiickhfcjnmaaGreatDoor
/- The contracts of deadwaxref3's row and point. -/
namespace Go.Proofs.YtpiiickhfcjnmaaGreatDoor
open Go.RowKit Go.Dw

set_option maxRecDepth 100000 in
set_option maxHeartbeats 4000000 in
theorem row3_any (s : ByteArray) (w : World) (hs : s.size ≤ 9223372036854775807) :
    Calls Tryz.prog 77 #[.string s] w fun e w' => e = .returned (.bool (rowE s.data.toList)) ∧ w = w' := by
  go_enter Tryz.func77, Tryz.ntmps77
  go_wp2_with fail
  go_loop [3] (fun i => ∃ k : Nat, k ≤ s.size ∧ i = .int .i64 k ∧ Hid ((s.data.toList.take k).all okB = true)) (fun i => s.size - (intOf i).toNat)
  case atStart => exact ⟨0, Nat.zero_le _, rfl, by simp [Hid]⟩
  case round =>
    obtain ⟨k, hk, rfl, HALL⟩ := hrel
    by_cases hlt : k < s.size
    case neg =>
      have hd : decide (k < s.size) = false := by simpa using hlt
      have HA : Hid (s.data.toList.all okB = true) := by
        show _ = _
        have := HALL.out
        rwa [List.take_of_length_le (by rw [Array.length_toList]; show s.size ≤ k; omega)] at this
      clear HALL
      by_cases h0 : 0 < s.size
      · have e1 := emp_f h0
        have e2 : (s.toList == []) = false := by rw [beq_eq_false_iff_ne]; intro hh; rw [hh] at e1; cases e1
        have HE : Hid (rowE s.data.toList = true) := by show _ = _; unfold rowE; rw [HA.out, ← ByteArray.toList_eq, e1]; rfl
        go_wp2_with fail
        go_ret
        exact ⟨ret_bool HE.out.symm, rfl⟩
      · obtain ⟨e1, e2⟩ := emp_t h0
        have HE : Hid (rowE s.data.toList = false) := by show _ = _; rw [← ByteArray.toList_eq, e2]; rfl
        clear e2
        go_wp2_with fail
        go_ret
        exact ⟨ret_bool HE.out.symm, rfl⟩
    have hd : decide (k < s.size) = true := by simpa using hlt
    have HS := Lib.hid (all_succ s k hlt)
    cases hv : okB s[k] with
    | true =>
      have HV : Hid ((s.data.toList.take (k + 1)).all okB = true) := by show _ = _; rw [HS.out, HALL.out, hv]; rfl
      have hcs : (97 ≤ s[k].toNat ∧ s[k].toNat ≤ 122) ∨ ((48 ≤ s[k].toNat ∧ s[k].toNat ≤ 57) ∨ s[k].toNat = 45) := by
        unfold okB at hv; simp at hv; omega
      clear hv
      rcases hcs with ⟨g1, g2⟩ | ⟨g1, g2⟩ | g1
      · have g1' : (97 : Int) ≤ (s[k].toNat : Int) := by omega
        have g2' : (s[k].toNat : Int) ≤ 122 := by omega
        go_wp2_with fail
        go_round
        case rel => exact ⟨k + 1, by omega, by go_num, HV⟩
        case measure => simp [intOf]; omega
      · have g0' : ¬ (97 : Int) ≤ (s[k].toNat : Int) := by omega
        have g1' : (48 : Int) ≤ (s[k].toNat : Int) := by omega
        have g2' : (s[k].toNat : Int) ≤ 57 := by omega
        go_wp2_with fail
        go_round
        case rel => exact ⟨k + 1, by omega, by go_num, HV⟩
        case measure => simp [intOf]; omega
      · have g1' : (s[k].toNat : Int) = 45 := by omega
        clear g1
        go_wp2_with fail
        go_round
        case rel => exact ⟨k + 1, by omega, by go_num, HV⟩
        case measure => simp [intOf]; omega
    | false =>
      have HE : Hid (rowE s.data.toList = false) := by show _ = _; unfold rowE; rw [all_false s k hlt hv, Bool.and_false]
      have hcs : ¬ (97 ≤ s[k].toNat ∧ s[k].toNat ≤ 122) ∧ ¬ (48 ≤ s[k].toNat ∧ s[k].toNat ≤ 57) ∧ s[k].toNat ≠ 45 := by
        unfold okB at hv; simp at hv; omega
      clear hv
      obtain ⟨m1, m2, m3⟩ := hcs
      have m3' : ((s[k].toNat : Int) == 45) = false := by simp; omega
      rcases Nat.lt_or_ge s[k].toNat 48 with h | h
      · have g1' : ¬ (97 : Int) ≤ (s[k].toNat : Int) := by omega
        have g2' : ¬ (48 : Int) ≤ (s[k].toNat : Int) := by omega
        go_wp2_with fail
        go_ret
        exact ⟨ret_bool HE.out.symm, rfl⟩
      · rcases Nat.lt_or_ge s[k].toNat 97 with h2 | h2
        · have g1' : ¬ (97 : Int) ≤ (s[k].toNat : Int) := by omega
          have g2' : (48 : Int) ≤ (s[k].toNat : Int) := by omega
          have g3' : ¬ (s[k].toNat : Int) ≤ 57 := by omega
          go_wp2_with fail
          go_ret
          exact ⟨ret_bool HE.out.symm, rfl⟩
        · have g1' : (97 : Int) ≤ (s[k].toNat : Int) := by omega
          have g2' : ¬ (s[k].toNat : Int) ≤ 122 := by omega
          have g3' : (48 : Int) ≤ (s[k].toNat : Int) := by omega
          have g4' : ¬ (s[k].toNat : Int) ≤ 57 := by omega
          go_wp2_with fail
          go_ret
          exact ⟨ret_bool HE.out.symm, rfl⟩
set_option maxRecDepth 100000 in
set_option maxHeartbeats 4000000 in
theorem point3_any (s : ByteArray) (w : World) (hs : s.size ≤ 1048576) :
    Calls Tryz.prog 78 #[.string s] w fun e w' => e = .returned (ptE (pntE s.data.toList)) ∧ Below w.heap.size w w' := by
  obtain ⟨w0, hw0⟩ : ∃ w0, w0 = w.alloc (.cells #[.int .i64 0, .string ⟨#[]⟩, .string ⟨#[]⟩] 70) := ⟨_, rfl⟩
  have HB0 : Hid (Below w.heap.size w w0) := by rw [hw0]; exact (Below.refl _ _).alloc (Nat.le_refl _) _
  have HK0 : Hid (Blk w0 w.heap.size 70 [.int .i64 0, .string ⟨#[]⟩, .string ⟨#[]⟩]) := by rw [hw0]; exact Blk.new w _ _
  have HW0 := Lib.hid hw0
  have HC1 := Lib.hid (str_Cut58 s w0 hs)
  rw [cutV58_eq] at HC1
  have hle := cutE_le 58 s.data.toList
  rw [size_list] at hle
  have HP1 := Lib.hid (fun h => pntE_num (l := s.data.toList) h)
  have HP2 := Lib.hid (fun h => pntE_no (l := s.data.toList) h)
  have HP3 := Lib.hid (fun n h0 h => pntE_yes (l := s.data.toList) (n := n) h0 h)
  obtain ⟨RF, hRF⟩ : ∃ RF, pntE s.data.toList = RF := ⟨_, rfl⟩
  rw [hRF] at HP1 HP2 HP3 ⊢
  unfold cutW at HC1
  obtain ⟨a, ha⟩ : ∃ a, (cutE 58 s.data.toList).1 = a := ⟨_, rfl⟩
  obtain ⟨r, hr⟩ : ∃ r, (cutE 58 s.data.toList).2.1 = r := ⟨_, rfl⟩
  obtain ⟨ok, hok⟩ : ∃ b, (cutE 58 s.data.toList).2.2 = b := ⟨_, rfl⟩
  rw [ha, hr, hok] at HC1
  rw [ha, hr] at hle
  rw [ha] at HP1
  rw [hr, hok] at HP2
  rw [ha, hr, hok] at HP3
  clear ha hr hok hRF hw0
  have hle2 := cutE_le 47 r
  have HC2 : Hid (∀ W, Calls Tryz.prog 23 #[.string (mkE r), .string ⟨#[47]⟩] W fun e w' => e = .returned (cutW 47 (mkE r)) ∧ ∃ n, w' = W.drewN n) := fun W => by
    rw [← cutV47_eq]; exact str_Cut47 (mkE r) W (by rw [mkE_size]; omega)
  unfold cutW at HC2
  rw [mkE_list] at HC2
  have HN : Hid (∀ W : World, Calls Tryz.prog 139 #[.string (mkE a)] W fun e w' => e = .returned (nmE (numE a)) ∧ Below W.heap.size W w') := fun W => by
    have := number3_any (mkE a) W (by rw [mkE_size]; omega)
    rw [mkE_list] at this; exact this
  obtain ⟨nu, hnu⟩ : ∃ x, (cutE 47 r).1 = x := ⟨_, rfl⟩
  obtain ⟨de, hde⟩ : ∃ x, (cutE 47 r).2.1 = x := ⟨_, rfl⟩
  obtain ⟨al, hal⟩ : ∃ b, (cutE 47 r).2.2 = b := ⟨_, rfl⟩
  rw [hnu, hde, hal] at HC2 HP2 HP3
  rw [hnu, hde] at hle2
  clear hnu hde hal
  have hbl : (bareE nu).length ≤ nu.length := by
    unfold bareE Lib.trimPrefix
    split
    · rw [List.length_drop]; omega
    · exact Nat.le_refl _
  have HTP : Hid (∀ W, Calls Tryz.prog 137 #[.string (mkE nu), .string ⟨#[45]⟩] W fun e w' => e = .returned (.string (mkE (bareE nu))) ∧ w' = W) := fun W => by
    have := Any.strings_TrimPrefix Tryz.lays101 (mkE nu) ⟨#[45]⟩ W
    rw [mkE_list] at this
    exact this
  have HD1 : Hid (∀ W : World, Calls Tryz.prog 140 #[.string (mkE (bareE nu))] W fun e w' => e = .returned (.bool (isDg (bareE nu))) ∧ Below W.heap.size W w') := fun W => by
    have := digits3_any (mkE (bareE nu)) W (by rw [mkE_size]; omega)
    rw [mkE_list] at this; exact this.mono fun e w' h => ⟨h.1, by rw [← h.2]; exact Below.refl _ _⟩
  have HD2 : Hid (∀ W : World, Calls Tryz.prog 140 #[.string (mkE de)] W fun e w' => e = .returned (.bool (isDg de)) ∧ Below W.heap.size W w') := fun W => by
    have := digits3_any (mkE de) W (by rw [mkE_size]; omega)
    rw [mkE_list] at this; exact this.mono fun e w' h => ⟨h.1, by rw [← h.2]; exact Below.refl _ _⟩
  clear hle hle2 hbl
  obtain ⟨N, hN⟩ : ∃ N, numE a = N := ⟨_, rfl⟩
  rw [hN] at HN HP1 HP3
  clear hN
  generalize isDg (bareE nu) = d1 at *
  generalize isDg de = d2 at *
  generalize mkE (bareE nu) = sb at *
  generalize mkE nu = sn at *
  generalize mkE de = sd at *
  generalize mkE a = sa at *
  generalize mkE r = sr at *
  go_enter Tryz.func78, Tryz.ntmps78
  go_upto_region 1 with (fail)
  rw [← HW0.out]
  go_wp2_with fail
  refine HC1.out.mono ?_
  rintro e w1 ⟨rfl, n1, hw1⟩
  have HB1 : Hid (Below w.heap.size w w1) := by rw [hw1]; exact below_drewN HB0.out n1
  have HK1 : Hid (Blk w1 w.heap.size 70 [.int .i64 0, .string ⟨#[]⟩, .string ⟨#[]⟩]) := HK0.out.same (Same.of_below (S := fun _ => True) (by rw [hw1]; exact below_drewN (Below.refl _ _) n1)) trivial
  clear hw1 HB0 HK0
  go_wp2_with fail
  refine (HC2.out w1).mono ?_
  rintro e w2 ⟨rfl, n2, hw2⟩
  have HB2 : Hid (Below w.heap.size w w2) := by rw [hw2]; exact below_drewN HB1.out n2
  have HK2 : Hid (Blk w2 w.heap.size 70 [.int .i64 0, .string ⟨#[]⟩, .string ⟨#[]⟩]) := HK1.out.same (Same.of_below (S := fun _ => True) (by rw [hw2]; exact below_drewN (Below.refl _ _) n2)) trivial
  clear hw2 HB1 HK1
  go_wp2_with fail
  refine (HN.out w2).mono ?_
  rintro e w3 ⟨rfl, hb3⟩
  have HB3 := Lib.hid (HB2.out.trans (hb3.mono HB2.out.size))
  have HK3 := Lib.hid (HK2.out.same (Same.of_below (S := fun _ => True) hb3) trivial)
  clear hb3 HB2 HK2
  unfold nmE
  go_wp2_with fail
  refine (HTP.out w3).mono ?_
  rintro e w4 ⟨rfl, hw4⟩
  have hw4b := hw4.symm
  subst hw4b
  obtain ⟨nb, hnb⟩ : ∃ nb, (!ok || !al || !N.isSome || !d1 || !d2) = nb := ⟨_, rfl⟩
  have HNB := Lib.hid hnb
  clear hnb
  go_upto_region 5 with (fail)
  go_cut [51] (fun v wx => v = .bool nb ∧ Hid (Below w3.heap.size w3 wx))
  case first =>
    cases ok with
    | false =>
      have HE : Hid (nb = true) := by show _ = _; rw [← HNB.out]; rfl
      go_wp2_with fail
      go_meet
      case rel => exact ⟨by rw [HE.out], Below.refl _ _⟩
    | true =>
      cases al with
      | false =>
        have HE : Hid (nb = true) := by show _ = _; rw [← HNB.out]; rfl
        go_wp2_with fail
        go_meet
        case rel => exact ⟨by rw [HE.out], Below.refl _ _⟩
      | true =>
        cases N with
        | none =>
          have HE : Hid (nb = true) := by show _ = _; rw [← HNB.out]; rfl
          simp only [Option.isSome_none]
          go_wp2_with fail
          go_meet
          case rel => exact ⟨by rw [HE.out], Below.refl _ _⟩
        | some n =>
          simp only [Option.isSome_some]
          go_wp2_with fail
          refine (HD1.out _).mono ?_
          rintro e w5 ⟨rfl, hb5⟩
          have HB5 := Lib.hid hb5
          clear hb5
          cases d1 with
          | false =>
            have HE : Hid (nb = true) := by show _ = _; rw [← HNB.out]; rfl
            go_wp2_with fail
            go_meet
            case rel => exact ⟨by rw [HE.out], HB5.out⟩
          | true =>
            go_wp2_with fail
            refine (HD2.out _).mono ?_
            rintro e w6 ⟨rfl, hb6⟩
            have HB6 := Lib.hid (HB5.out.trans (hb6.mono HB5.out.size))
            clear hb6
            have HE : Hid (nb = !d2) := by show _ = _; rw [← HNB.out]; rfl
            go_wp2_with fail
            go_meet
            case rel => exact ⟨by rw [HE.out], HB6.out⟩
  case rest =>
    obtain ⟨rfl, HB4⟩ := hcut
    have HBW := Lib.hid (HB3.out.trans (HB4.out.mono HB3.out.size))
    have HKW : Hid (Blk wc w.heap.size 70 [.int .i64 0, .string ⟨#[]⟩, .string ⟨#[]⟩]) := HK3.out.same (Same.of_below (S := fun _ => True) HB4.out) trivial
    have f0 := HKW.out.frozen 0
    have f1 := HKW.out.frozen 1
    have f2 := HKW.out.frozen 2
    have d0 : wc.cell? ⟨w.heap.size, 0, none⟩ = some _ := HKW.out.cell 0
    have d1' : wc.cell? ⟨w.heap.size, 1, none⟩ = some _ := HKW.out.cell 1
    have d2' : wc.cell? ⟨w.heap.size, 2, none⟩ = some _ := HKW.out.cell 2
    cases nb with
    | true =>
      have HE : Hid (RF = none) := by
        cases N with
        | none => exact HP1.out rfl
        | some n =>
          refine HP2.out ?_
          rintro ⟨h1, h2, h3, h4⟩
          have := HNB.out
          rw [h1, h2, h3, h4] at this
          cases this
      go_wp2_with fail
      refine bodyPost_ret (v := ptE none) (by simp [results, Tryz.results78, go_sem, ptE, d0, d1', d2']) rfl ?_
      refine ⟨by rw [HE.out], ?_⟩
      refine ((HBW.out.setCell ?_ _).setCell ?_ _).setCell ?_ _ <;> exact Nat.le_refl _
    | false =>
      cases N with
      | none => have := HNB.out; cases ok <;> cases al <;> cases this
      | some n =>
        have HE : Hid (RF = some ⟨(n : Int), sn, sd⟩) := by
          refine HP3.out n rfl ?_
          have := HNB.out
          cases ok <;> cases al <;> cases d1 <;> cases d2 <;> simp at this ⊢
        simp only [Option.getD_some, Option.isSome_some]
        go_wp2_with fail
        refine bodyPost_ret (v := ptE (some ⟨(n : Int), sn, sd⟩)) (by simp [results, Tryz.results78, go_sem, ptE, d0, d1', d2']) rfl ?_
        refine ⟨by rw [HE.out], ?_⟩
        refine ((HBW.out.setCell ?_ _).setCell ?_ _).setCell ?_ _ <;> exact Nat.le_refl _
end Go.Proofs.YtpiiickhfcjnmaaGreatDoor
/- The contract of deadwaxref3.readLine at the first line. -/
namespace Go.Proofs.YtpiiickhfcjnmaaGreatDoor
open Go.RowKit Go.Dw

/-- what readLine says of the first line -/
def Line1 (wo : World) (P : List (List UInt8)) (A : Option Addr) (c : Nat) (L : List CliM) (e : Ending) (w' : World) : Prop := match hdW P with
  | none => e = .returned (.bool false) ∧ Gq wo w'
  | some p => e = .returned (.bool true) ∧ EdI wo w' (p.1 : Int) (p.2 : Int) A c L
theorem line1_none {wo w' : World} {P : List (List UInt8)} {A : Option Addr} {c : Nat} {L : List CliM} {e : Ending} (h : hdW P = none) (he : e = .returned (.bool false)) (hg : Gq wo w') : Line1 wo P A c L e w' := by
  unfold Line1; rw [h]; exact ⟨he, hg⟩
theorem line1_some {wo w' : World} {P : List (List UInt8)} {A : Option Addr} {c : Nat} {L : List CliM} {e : Ending} {a b : Nat} (h : hdW P = some (a, b)) (he : e = .returned (.bool true)) (hg : EdI wo w' (a : Int) (b : Int) A c L) : Line1 wo P A c L e w' := by
  unfold Line1; rw [h]; exact ⟨he, hg⟩
set_option maxRecDepth 100000 in
set_option maxHeartbeats 8000000 in
theorem line1_any (P : List (List UInt8)) (b : Nat) (wo w : World) (r tk : Int) (A : Option Addr) (c : Nat) (L : List CliM) (hcs : ∀ (j : Nat) u, (sc P)[j]? = some u → w.cell? ⟨b, j, none⟩ = some u) (hbl : b < w.heap.size) (hI : EdI wo w r tk A c L)
    (hne : P ≠ []) (hlen : P.length ≤ 1000001) (hPM : ∀ p ∈ P, p.length ≤ 1000000) :
    Calls Tryz.prog 29 #[.pointer (some ⟨wo.heap.size, 0, none⟩), .slice (some ⟨b, 0, none⟩) P.length P.length, .bool true] w (Line1 wo P A c L) := by
  have HI := Lib.hid hI
  have HG : Hid (Gq wo w) := hI.2.2.1
  have hp0 : 0 < P.length := List.length_pos_iff.2 hne
  obtain ⟨p0, hp0e⟩ : ∃ p0, P.getD 0 [] = p0 := ⟨_, rfl⟩
  have HP0 : Hid (P.getD 0 [] = p0) := hp0e
  have c0 : w.cell? ⟨b, 0, none⟩ = some (.string (mkE p0)) := hcs 0 _ (by
    have e0 : P[0]? = some p0 := by rw [← hp0e, List.getD_eq_getElem?_getD, List.getElem?_eq_getElem (by omega)]; rfl
    simp only [sc, List.getElem?_map, e0]; rfl)
  have HCS := Lib.hid hcs
  have HPM := Lib.hid hPM
  clear hp0e hcs hPM hI hne
  have hx0 : (0 : Int) < (P.length : Int) := by omega
  have hx1 : (1 : Int) ≤ (P.length : Int) := by omega
  by_cases h3 : P.length = 3
  case neg =>
    have HE : Hid (hdW P = none) := hdW_no (.inr (.inr h3))
    have hd : ((P.length : Int) != 3) = true := by simp; omega
    clear h3
    go_enter Tryz.func29, Tryz.ntmps29
    go_wp2_with fail
    go_ret
    exact line1_none HE.out rfl HG.out
  have hd : ((P.length : Int) != 3) = false := by simp; omega
  by_cases hc : p0 = wEdit
  case neg =>
    have HE : Hid (hdW P = none) := hdW_no (.inl (by rw [HP0.out]; exact hc))
    have g : ((mkE p0).toList == [101, 100, 105, 116]) = false := by rw [ByteArray.toList_eq, mkE_list, beq_eq_false_iff_ne]; exact hc
    clear hc h3
    go_enter Tryz.func29, Tryz.ntmps29
    go_wp2_with fail
    go_ret
    exact line1_none HE.out rfl HG.out
  have g : ((mkE p0).toList == [101, 100, 105, 116]) = true := by rw [ByteArray.toList_eq, mkE_list, hc]; rfl
  have HCC : Hid (p0 = wEdit) := hc
  obtain ⟨N1, hN1⟩ : ∃ N1, P.drop 1 = N1 := ⟨_, rfl⟩
  have h1l : N1.length = 2 := by rw [← hN1, List.length_drop]; omega
  have HRD : Hid (Rd w (some ⟨b, 1, none⟩) (sc N1)) := .inr ⟨b, 1, rfl, hbl, fun j u hu => HCS.out (1 + j) u (by
    rw [← hN1] at hu
    simp only [sc, List.getElem?_map, List.getElem?_drop] at hu ⊢
    exact hu)⟩
  have HNU := Lib.hid (numbers3_any (some ⟨b, 1, none⟩) 2 N1 w HRD.out (by omega) (fun p hp => by
    have := HPM.out p (by rw [← hN1] at hp; exact List.mem_of_mem_drop hp)
    omega))
  rw [h1l] at HNU
  have HN : Hid (numsE N1 = none → hdW P = none) := fun h => hdW_no (.inr (.inl (by rw [hN1]; exact h)))
  have HY : Hid (∀ x y, numsE N1 = some [x, y] → hdW P = some (x, y)) := fun x y h => hdW_yes (by rw [HP0.out, HCC.out]) h3 (by rw [hN1]; exact h)
  have H3 : Hid (P.length = 3) := h3
  have H1L : Hid (N1.length = 2) := h1l
  clear hc hN1 h1l HRD h3
  rw [H3.out] at hd hx0 hx1 ⊢
  go_enter Tryz.func29, Tryz.ntmps29
  go_wp2_with fail
  refine HNU.out.mono ?_
  rintro e w4 hq
  unfold NumsR at hq
  obtain ⟨nr, hnr⟩ : ∃ nr, numsE N1 = nr := ⟨_, rfl⟩
  rw [hnr] at hq HN HY
  obtain ⟨hb4, hq⟩ := hq
  have HI4 := Lib.hid (HI.out.below hb4)
  have HG4 : Hid (Gq wo w4) := HI4.out.2.2.1
  clear hb4 HNU
  cases nr with
  | none =>
    subst hq
    have HE := Lib.hid (HN.out rfl)
    go_wp2_with fail
    go_ret
    exact line1_none HE.out rfl HG4.out
  | some ns =>
    obtain ⟨A4, c4, rfl, hr4⟩ := hq
    have hns := nums_len hnr
    rw [H1L.out] at hns
    obtain ⟨x, y, rfl⟩ : ∃ x y, ns = [x, y] := by
      match ns, hns with
      | [x, y], _ => exact ⟨x, y, rfl⟩
    have HE := Lib.hid (HY.out x y rfl)
    obtain ⟨b5, off5, hA5, hb5l, hb5s, hc5⟩ := hr4.at_ (by rw [nc_length]; simp)
    subst hA5
    have q0 : w4.cell? ⟨b5, off5, none⟩ = some (.int .i64 (x : Int)) := hc5 0 _ rfl
    have q1 : w4.cell? ⟨b5, off5 + 1, none⟩ = some (.int .i64 (y : Int)) := hc5 1 _ rfl
    have k0 : w4.cell? ⟨wo.heap.size, 0, none⟩ = some _ := HI4.out.1.cell 0
    have k1 : w4.cell? ⟨wo.heap.size, 1, none⟩ = some _ := HI4.out.1.cell 1
    have z0 := HI4.out.1.frozen 0
    have z1 := HI4.out.1.frozen 1
    have hbe5 : b5 ≠ wo.heap.size := by have := Below.size HG.out; have := HI.out.1.lt; omega
    have HI5 : Hid (EdI wo ((w4.setCell ⟨wo.heap.size, 0, none⟩ (.int .i64 (x : Int))).setCell ⟨wo.heap.size, 1, none⟩ (.int .i64 (y : Int))).drew (x : Int) (y : Int) A c L) := (HI4.out.hdr).below (Gq.refl _).drew
    clear hnr hr4 hc5 hns
    simp only [List.length_cons, List.length_nil]
    go_wp2_with fail
    go_region
    all_goals
      go_wp2_with fail
      go_ret
      exact line1_some HE.out rfl HI5.out
end Go.Proofs.YtpiiickhfcjnmaaGreatDoor
