/- The contract of the reference's Pieces. -/
import Derived.Test.YtlmgdofhmgpljaaSilS
import Derived.Test.YtlmgdofhmgpljaaPieA
namespace Go.Proofs.Ytlmgdofhmgpljaa
open Go.RowKit Go.Dw
attribute [local go_sem ↓] Go.wp_at_zero Go.wp_at_succ

def pieL : Int → List Sp → List Sp
  | _, [] => []
  | at_, (a, b) :: r => (if at_ < a then [(at_, a)] else []) ++ pieL b r
theorem pieL_end (n : Int) : ∀ (l : List Sp) (at_ : Int), pieL at_ (l ++ [(n, n)]) = pieR n at_ l
  | [], at_ => by show (if at_ < n then [(at_, n)] else []) ++ [] = _; rw [List.append_nil, pieR]
  | (a, b) :: r, at_ => by
    show (if at_ < a then [(at_, a)] else []) ++ pieL b (r ++ [(n, n)]) = _
    rw [pieL_end n r b, pieR]
theorem pieL_step {l : List Sp} {k : Nat} (h : k < l.length) (at_ : Int) : pieL at_ (l.drop k) = (if at_ < l[k].1 then [(at_, l[k].1)] else []) ++ pieL l[k].2 (l.drop (k + 1)) := by
  rw [List.drop_eq_getElem_cons h]; rfl
set_option maxHeartbeats 2000000 in
theorem rPieces_any (x : Snd) (level least : Int) (w : World) (h : x.Ok w) :
    Calls Try.prog 10 #[x.v, .int .i64 level, .int .i64 least] w (SpnPost w (pieF x.rate x.rows level least)) := by
  have hb0 : Below w.heap.size w (w.alloc (.cells #[.int .i64 x.rate, x.p.v] 24)) := (Below.refl _ _).alloc (Nat.le_refl _) _
  have HSL := Lib.hid (rSilences_any x level least _ (h.below hb0))
  have HB0 := Lib.hid hb0
  have hc1 : (w.alloc (.cells #[.int .i64 x.rate, x.p.v] 24)).cell? ⟨w.heap.size, 1, none⟩ = some x.p.v := new_cell (cs := [_, _]) rfl rfl
  have hws : w.heap.size < (w.alloc (.cells #[.int .i64 x.rate, x.p.v] 24)).heap.size := by simp
  obtain ⟨⟨l, f⟩, hlf⟩ : ∃ r, silF x.rate x.rows level least = r := ⟨_, rfl⟩
  rw [hlf] at HSL
  by_cases hf : f = 0
  case neg =>
    have hzb : (f != 0) = true := by simpa using hf
    have HR := Lib.hid (pieF_bad hlf hf)
    clear hf h hb0 hlf hc1
    simp only [Snd.v, Slc.v] at *
    go_enter Try.func10, Try.ntmps10
    go_wp2_with fail
    refine HSL.out.mono ?_
    rintro e w1 ⟨A1, c1, rfl, _, hb1⟩
    have HB1 := Lib.hid (HB0.out.trans (hb1.mono HB0.out.size))
    clear hb1
    go_wp2_with fail
    go_ret2
    exact spnPost_none HR.out HB1.out
  subst hf
  have HR := Lib.hid (pieF_ok hlf)
  obtain ⟨hz, hg, hx, hl⟩ := silF_gaps hlf
  have hso := chkS_zero hz
  have HNE : Hid (x.n = (x.rows.getD 0 []).length) := rfl
  rw [← HNE.out] at HR
  have hn0 : x.n ≤ 100000 := hso.2.2.2.2.1
  have hp : 0 < x.p.xs.length := by rw [← x.rows_len]; exact hso.2.2.1
  have HN : Hid (x.n = x.p.xs[0].xs.length) := by show _ = _; unfold Snd.n; rw [x.rows_at 0 hp]
  have hXB := h.below hb0
  clear hx
  generalize x.n = n at *
  have hpl : (pieR (n : Int) 0 l).length ≤ 1001 := by have := pieR_length (n := (n : Int)) (l := l) (at_ := 0); omega
  have HPL := Lib.hid (pieL_end (n : Int) l 0)
  obtain ⟨P, hP⟩ : ∃ P, pieR (n : Int) 0 l = P := ⟨_, rfl⟩
  rw [hP] at HR hpl HPL
  obtain ⟨ii, hii, hzi0, hzi1, hzi2⟩ := info_parts info_spn
  have HII := Lib.hid (And.intro hii (And.intro hzi0 (And.intro hzi1 hzi2)))
  clear hz hg hso hlf h hb0 hP hii hzi0 hzi1 hzi2
  obtain ⟨r, ⟨A, c, L⟩⟩ := x
  obtain ⟨hn, hrd, hrs⟩ := hXB
  have hp2 : 0 < L.length := hp
  simp only [Slc.v, Snd.v] at *
  obtain ⟨b, off, rfl, hb, hc⟩ := hrd.at_ (by simp; omega)
  have hck := hc 0 (L[0].v) (by simp [hp])
  generalize L[0] = s at *
  obtain ⟨a, cc, xs⟩ := s
  simp only [Slc.v] at hck HN
  rw [Nat.add_zero, ← HN.out] at hck
  clear hc hrs hrd
  have hp' : (0 : Int) < (L.length : Int) := by omega
  generalize hW0 : w.alloc (.cells #[.int .i64 r, .slice (some ⟨b, off, none⟩) L.length c] 24) = w0 at *
  have HW0 := Lib.hid hW0
  clear hW0
  go_enter Try.func10, Try.ntmps10
  go_wp2_with fail
  rw [HW0.out]
  refine HSL.out.mono ?_
  rintro e w1 ⟨A1, c1, rfl, hr1, hb1⟩
  have k1 : w1.cell? ⟨w.heap.size, 1, none⟩ = some (.slice (some ⟨b, off, none⟩) L.length c) := by rw [hb1.cell (by exact hws)]; exact hc1
  have k2 : w1.cell? ⟨b, off, none⟩ = some (.slice a n cc) := by rw [hb1.cell (by exact hb)]; exact hck
  have HB1 := Lib.hid hb1
  have HR1 := Lib.hid hr1
  have hsz1 : w0.heap.size ≤ w1.heap.size := hb1.size
  clear hb1 hr1 hc1 hck
  go_wp2_with (at_builtin; refine wpList_append_own _ rfl _ _ 30 rfl w0.heap.size 35 ii _ 2 16 Try.underlying30 HII.out.1 HII.out.2.1 HII.out.2.2.1 HII.out.2.2.2 rfl (by decide) _ _ _ rfl (HR1.out.alloc _) ⟨w1.heap.size, 0, none⟩ 1 1 [.int .i64 (n : Int), .int .i64 (n : Int)] (by rfl) (by rfl) (World.news_of_block (cs := #[.int .i64 (n : Int), .int .i64 (n : Int)]) (t := 35) (fr := (0, 0)) (by exact heap_alloc_new w1 _)) (by simp [Value.oneCell']) (by unfold maxLen; omega) (by omega) (by simp; omega) ?_; intro v1 w5 hown5 hgrow5 _; obtain ⟨A5, c5, rfl⟩ := slice_of_own hown5)
  have HB5 : Hid (Below w.heap.size w w5) := HB0.out.trans ((below_app' HB1.out hsz1 HR1.out hgrow5).mono HB0.out.size)
  obtain ⟨l5, hl5⟩ : ∃ l5, l ++ [((n : Int), (n : Int))] = l5 := ⟨_, rfl⟩
  have HRD : Hid (Rd w5 A5 (pc l5)) := by show Rd _ _ _; rw [← hl5, pc_snoc1]; exact Rd.of_own hown5
  have hln : l5.length = l.length + 1 := by rw [← hl5]; simp
  rw [hl5] at HPL
  have HLN := Lib.hid hln
  clear hown5 hgrow5 hl5 hln k1 k2
  go_wp2_with fail
  go_loopw [11, 12, 37] (fun ov av kv wr => ∃ (k : Nat) (at_ : Int) (out : List Sp), k ≤ l.length + 1 ∧ kv = .int .i64 (k : Int) ∧ av = .int .i64 at_ ∧ out.length ≤ k ∧ Hid (P = out ++ pieL at_ (l5.drop k)) ∧ Hid (wr.ownsRow w5.heap.size 35 2 ov out.length (pc out)) ∧ Hid (Below w5.heap.size w5 wr)) (fun _ _ kv _ => l.length + 1 - (intOf kv).toNat)
  case atStart => exact ⟨0, 0, [], by omega, rfl, rfl, by simp, HPL.out.symm, ⟨rfl, .inl ⟨rfl, rfl⟩⟩, Below.refl _ _⟩
  case round =>
    obtain ⟨k, at_, out, hk, rfl, rfl, hout, HP, HOWN, HB⟩ := hrel
    obtain ⟨A3, c3, rfl⟩ := slice_of_own HOWN.out
    by_cases hlt : k < l.length + 1
    case neg =>
      have hd1 : decide ((k : Int) < (l.length : Int) + 1) = false := by simp; omega
      have HPO : Hid (P = out) := by
        have := HP.out
        rw [List.drop_eq_nil_of_le (by rw [HLN.out]; omega)] at this
        have e : pieL at_ [] = [] := rfl
        rw [e, List.append_nil] at this
        exact this
      have hpo : out.length = P.length := by rw [HPO.out]
      have HRO : Hid (Rd wr A3 (pc P)) := by show Rd _ _ _; rw [HPO.out]; exact Rd.of_own HOWN.out
      have HBB := Lib.hid (HB5.out.trans (HB.out.mono HB5.out.size))
      have HPN := Lib.hid hpo.symm
      clear hpo
      by_cases hbig : 1000 < out.length
      · rw [if_pos (by rw [HPN.out]; exact hbig)] at HR
        have hd : decide (1000 < out.length) = true := by simpa using hbig
        go_wp2_with fail
        go_ret2
        exact spnPost_none HR.out HBB.out
      · rw [if_neg (by rw [HPN.out]; exact hbig)] at HR
        have hd : decide (1000 < out.length) = false := by simpa using hbig
        go_wp2_with fail
        go_ret2
        exact spnPost_some HR.out HPN.out.symm HRO.out HBB.out
    have hd1 : decide ((k : Int) < (l.length : Int) + 1) = true := by simp; omega
    have hkl : k < l5.length := by rw [HLN.out]; exact hlt
    obtain ⟨b3, off3, rfl, hb3, hc3⟩ := HRD.out.at_ (by rw [pc_length]; omega)
    obtain ⟨p1, p2⟩ := pc_at l5 k hkl
    have hcx : wr.cell? ⟨b3, off3 + k * 2, none⟩ = some (.int .i64 l5[k].1) := by rw [HB.out.cell (by exact hb3)]; exact hc3 _ _ p1
    have hcy : wr.cell? ⟨b3, off3 + k * 2 + 1, none⟩ = some (.int .i64 l5[k].2) := by rw [HB.out.cell (by exact hb3), Nat.add_assoc]; exact hc3 _ _ p2
    have HP2 : Hid (P = out ++ ((if at_ < l5[k].1 then [(at_, l5[k].1)] else []) ++ pieL l5[k].2 (l5.drop (k + 1)))) := by
      show _ = _
      have := HP.out
      rw [pieL_step hkl] at this
      exact this
    have jk0 : (0 : Int) ≤ (k : Int) := by omega
    have jk1 : (k : Int) < (l.length : Int) + 1 := by omega
    have hszr : w5.heap.size ≤ wr.heap.size := HB.out.size
    clear hc3 p1 p2
    generalize l5[k].1 = x at *
    generalize l5[k].2 = y at *
    by_cases hax : at_ < x
    · have hd2 : decide (at_ < x) = true := by simpa using hax
      have HP3 : Hid (P = (out ++ [(at_, x)]) ++ pieL y (l5.drop (k + 1))) := by show _ = _; rw [HP2.out, if_pos hax, List.append_assoc]
      have HCY : Hid (∀ (o : Obj) (w6 : World), ((wr.alloc (.cells #[.int .i64 x, .int .i64 y] 35)).alloc o).grownBy w6 (Value.slice A3 out.length c3).ownBlock → w6.cell? ⟨wr.heap.size, 1, none⟩ = some (.int .i64 y)) := fun o w6 hgrow6 => by
        rw [World.cell?_of_block (hgrow6.block wr.heap.size (by simp; omega) (fun he => by
          have := (HOWN.out.lt _ he.symm).2
          omega))]
        rw [World.cell?_alloc_past _ _ _ (by simp)]
        exact new_cell (cs := [_, _]) rfl rfl
      go_wp2_with (at_builtin; refine wpList_append_own _ rfl _ _ 30 rfl w5.heap.size 35 ii _ 2 16 Try.underlying30 HII.out.1 HII.out.2.1 HII.out.2.2.1 HII.out.2.2.2 rfl (by decide) _ _ _ rfl ((HOWN.out.alloc _).alloc _) ⟨wr.heap.size + 1, 0, none⟩ 1 1 [.int .i64 at_, .int .i64 x] (by rfl) (by rfl) (World.news_of_block (cs := #[.int .i64 at_, .int .i64 x]) (t := 35) (fr := (0, 0)) (by simpa using heap_alloc_new (wr.alloc _) _)) (by simp [Value.oneCell']) (by unfold maxLen; omega) (by omega) (by simp; omega) ?_; intro v1 w6 hown6 hgrow6 _; have hcy6 := HCY.out _ _ hgrow6)
      have hB6 : Hid (Below w5.heap.size w5 w6) := ((HB.out.alloc hszr _).alloc (by simp; omega) _).grown hgrow6 (by simp; omega) (fun g hg => (HOWN.out.lt g hg).1)
      have hO6 : Hid (w6.ownsRow w5.heap.size 35 2 v1 (out ++ [(at_, x)]).length (pc (out ++ [(at_, x)]))) := by
        show World.ownsRow _ _ _ _ _ _ _
        rw [pc_snoc1, List.length_append]
        exact hown6
      clear hown6 hgrow6
      go_wp2_with fail
      go_roundw
      case rel => exact ⟨k + 1, y, out ++ [(at_, x)], by omega, by go_num, rfl, by rw [List.length_append]; simp; omega, HP3, hO6, hB6⟩
      case measure => simp [intOf]; omega
    · have hd2 : decide (at_ < x) = false := by simpa using hax
      have HP3 : Hid (P = out ++ pieL y (l5.drop (k + 1))) := by show _ = _; rw [HP2.out, if_neg hax, List.nil_append]
      go_wp2_with fail
      go_roundw
      case rel => exact ⟨k + 1, y, out, by omega, by go_num, rfl, by omega, HP3, HOWN.out.alloc _, HB.out.alloc hszr _⟩
      case measure => simp [intOf]; omega
end Go.Proofs.Ytlmgdofhmgpljaa
