/- The contracts of credit.called and credit.Main. -/
import Derived.Test.YtnlnaglaipjlfaaGreatDoorPplF
namespace Go.Proofs.YtnlnaglaipjlfaaGreatDoor
open Go.RowKit Go.Dw Go.Maps

def nam0 (ps : List Psp) (i : Nat) : ByteArray := (ps.getD i dPsp).ns.headD ⟨#[]⟩
def calF (ps : List Psp) (q : ByteArray) : ByteArray := if ixP ps q < ps.length then nam0 ps (ixP ps q) else ⟨#[]⟩
theorem calF_at {ps : List Psp} {q : ByteArray} {k : Nat} (hk : k < ps.length) (he : ps[k].id = q) (hb : ∀ j (hj : j < ps.length), j < k → ¬ ps[j].id = q) : calF ps q = ps[k].ns.headD ⟨#[]⟩ := by
  have h1 : ixP ps q = k := ixP_first hk he fun j hj => hb j (by omega) hj
  unfold calF nam0
  rw [h1, if_pos hk, getD_at _ _ k hk]
theorem calF_no {ps : List Psp} {q : ByteArray} (hb : ∀ j (hj : j < ps.length), ¬ ps[j].id = q) : calF ps q = ⟨#[]⟩ := by
  unfold calF
  rw [if_neg (by rw [ixP_none hb]; omega)]
theorem nms_ne {ns : List ByteArray} (h : nmsF ns = 0) : ns ≠ [] := by
  intro e; rw [e] at h; unfold nmsF at h; simp at h
set_option maxRecDepth 100000 in
set_option maxHeartbeats 2000000 in
theorem called_any (x : Peo) (q : ByteArray) (w : World) (h : PeoOk w x) (hps : PsR x.x.ps) :
    Calls Tryz.prog 35 #[x.v, .string q] w fun e w' => e = .returned (.string (calF x.x.ps q)) ∧ Below w.heap.size w w' := by
  have HOK := Lib.hid h
  have HPS := Lib.hid hps
  obtain ⟨⟨A, c, L⟩, ⟨B, d, C⟩⟩ := x
  have HPP : Hid ((Peo.x ⟨⟨A, c, L⟩, ⟨B, d, C⟩⟩).ps = L.map Psn.x) := rfl
  rw [HPP.out] at HPS ⊢
  unfold Peo.v
  simp only [Slc.v]
  have hpl : L.length ≤ 9223372036854775807 := h.pl
  clear h hps
  obtain ⟨w0, hw0⟩ : ∃ w0, w0 = w.alloc (.cells #[.slice A L.length c, .slice B C.length d] 25) := ⟨_, rfl⟩
  have HB0 : Hid (Below w.heap.size w w0) := by rw [hw0]; exact (Below.refl _ _).alloc (Nat.le_refl _) _
  obtain ⟨z0, z1⟩ : w0.cell? ⟨w.heap.size, 0, none⟩ = some (.slice A L.length c) ∧ w0.cell? ⟨w.heap.size, 1, none⟩ = some (.slice B C.length d) := by rw [hw0]; exact peoBox
  have HW0 := Lib.hid hw0
  clear hw0
  go_enter Tryz.func35, Tryz.ntmps35
  go_upto_region 1 with (fail)
  rw [← HW0.out]
  go_wp2_with fail
  go_loopw [10] (fun kv wr => ∃ k : Nat, k ≤ L.length ∧ kv = .int .i64 (k : Int) ∧ Hid (∀ j (hj : j < L.length), j < k → ¬ L[j].id = q) ∧ Hid (Below w.heap.size w wr)) (fun kv _ => L.length - (intOf kv).toNat)
  case atStart => exact ⟨0, Nat.zero_le _, rfl, by intro j hj hj0; omega, HB0⟩
  case round =>
    obtain ⟨k, hk, rfl, HALL, HB⟩ := hrel
    by_cases hkl : k < L.length
    case neg =>
      have hd1 : decide (k < L.length) = false := by simpa using hkl
      have HE : Hid (calF (L.map Psn.x) q = ⟨#[]⟩) := calF_no fun j hj => by simp only [List.getElem_map]; exact HALL.out j (by simpa using hj) (by simp at hj; omega)
      go_wp2_with fail
      go_ret
      exact ⟨by rw [HE.out]; rfl, HB.out⟩
    have hd1 : decide (k < L.length) = true := by simpa using hkl
    obtain ⟨b, off, hAB, hb, hcs⟩ := psn_at (HOK.out.pr.below HB.out) (by show 0 < L.length; omega)
    simp only at hAB hcs
    subst hAB
    obtain ⟨d0, d1⟩ := hcs k hkl
    have HTR : Hid (L[k].id = q → calF (L.map Psn.x) q = L[k].s.xs.headD ⟨#[]⟩) := fun he => by
      rw [calF_at (k := k) (by simpa using hkl) (by simp only [List.getElem_map]; exact he) (fun j hj hjk => by simp only [List.getElem_map]; exact HALL.out j (by simpa using hj) hjk)]
      simp only [List.getElem_map]; rfl
    have HFL : Hid (¬ L[k].id = q → ∀ j (hj : j < L.length), j < k + 1 → ¬ L[j].id = q) := fun hf j hj hj1 => by
      by_cases e : j = k
      · subst e; exact hf
      · exact HALL.out j hj (by omega)
    have hne := nms_ne (HPS.out.nms k (by simpa using hkl))
    simp only [List.getElem_map] at hne
    obtain ⟨⟨o1, o2⟩, o3, o4, o5⟩ := HOK.out.po L[k] (List.getElem_mem hkl)
    have HRN := Lib.hid (o4.below HB.out)
    clear hcs o4 o5
    generalize L[k] = x at *
    obtain ⟨id, ⟨sa, sc, sl⟩⟩ := x
    simp only [Psn.x] at d0 d1 HTR HFL hne o1 o2 o3 HRN
    obtain ⟨wo, hwo⟩ : ∃ wo, wo = wr := ⟨_, rfl⟩
    subst hwo
    have HBA : Hid (Below w.heap.size w (wo.alloc (.cells #[.string id, .slice sa sl.length sc] 41))) := HB.out.alloc HB.out.size _
    by_cases he : id = q
    · have hse := seq_t he
      have HE := Lib.hid (HTR.out he)
      cases sl with
      | nil => exact absurd rfl hne
      | cons n0 sr =>
        obtain ⟨b3, off3, hA3, hb3, hcs3⟩ := HRN.out.at_ (by rw [sb_len]; simp)
        subst hA3
        have e0 : wo.cell? ⟨b3, off3, none⟩ = some (.string n0) := hcs3 0 _ rfl
        have e1 : (wo.alloc (.cells #[.string id, .slice (some ⟨b3, off3, none⟩) (n0 :: sr).length sc] 41)).cell? ⟨b3, off3, none⟩ = some (.string n0) := by
          rw [Below.cell ((Below.refl wo.heap.size wo).alloc (Nat.le_refl _) _) (by exact hb3)]; exact e0
        have hl1 : (0 : Int) < ((n0 :: sr).length : Int) := by simp
        have hl2 : 0 < (n0 :: sr).length := by simp
        have HE2 : Hid (calF (L.map Psn.x) q = n0) := HE.out
        clear he hcs3 HE HTR HFL
        generalize hg : (n0 :: sr).length = m at *
        clear hg
        go_wp2_with fail
        go_ret
        exact ⟨by rw [HE2.out]; rfl, HBA.out⟩
    · have hse := seq_f he
      have HN := Lib.hid (HFL.out he)
      clear he HTR HFL
      go_wp2_with fail
      go_roundw
      case rel => exact ⟨k + 1, by omega, by go_num, HN.out, HBA⟩
      case measure => simp [intOf]; omega
/-- what Main says -/
def manF (p : Ppl) (q : ByteArray) : ByteArray × ByteArray × Int :=
  if peoF p ≠ 0 then (⟨#[]⟩, ⟨#[]⟩, peoF p) else if p.ps.length ≤ ixP p.ps q then (⟨#[]⟩, ⟨#[]⟩, 9) else (idAt p.ps (lab p (ixP p.ps q)), nam0 p.ps (lab p (ixP p.ps q)), 0)
def manV (r : ByteArray × ByteArray × Int) : Value := .tuple #[.string r.1, .string r.2.1, .int .i64 r.2.2]
set_option maxRecDepth 100000 in
set_option maxHeartbeats 2000000 in
theorem main_any (x : Peo) (q : ByteArray) (w : World) (h : PeoOk w x) (hmx : HasMax w) (hq : q.size ≤ 9223372036854775807) :
    Calls Tryz.prog 9 #[x.v, .string q] w fun e w' => e = .returned (manV (manF x.x q)) ∧ Below w.heap.size w w' := by
  have HCK := Lib.hid (fun (W : World) (hW : Below w.heap.size w W) => people_any x W (h.below hW) (hmx.below hW))
  have HHAS := Lib.hid (fun (W : World) (hW : Below w.heap.size w W) => has_any x q W (h.below hW))
  have HMN := Lib.hid (fun (W : World) (hW : Below w.heap.size w W) hps hcs hn hm => mains_any x W (h.below hW) hps hcs hn hm)
  have HCL := Lib.hid (fun (s : ByteArray) (W : World) (hW : Below w.heap.size w W) hps => called_any x s W (h.below hW) hps)
  obtain ⟨p, hp⟩ : ∃ p, x.x = p := ⟨_, rfl⟩
  rw [hp] at HMN HCL ⊢
  simp only [hp] at HCK HHAS
  have HKQ := Lib.hid (strKey hq)
  obtain ⟨⟨A, c, L⟩, ⟨B, d, C⟩⟩ := x
  clear h hmx hp hq
  unfold Peo.v at *
  simp only [Slc.v] at *
  obtain ⟨w0, hw0⟩ : ∃ w0, w0 = w.alloc (.cells #[.slice A L.length c, .slice B C.length d] 25) := ⟨_, rfl⟩
  have HB0 : Hid (Below w.heap.size w w0) := by rw [hw0]; exact (Below.refl _ _).alloc (Nat.le_refl _) _
  have HX0 : Hid (w0.cell? ⟨w.heap.size, 0, none⟩ = some (.slice A L.length c) ∧ w0.cell? ⟨w.heap.size, 1, none⟩ = some (.slice B C.length d)) := by rw [hw0]; exact peoBox
  have hz0 : w.heap.size < w0.heap.size := by rw [hw0]; simp
  have HW0 := Lib.hid hw0
  have HPX : Hid (∀ W, Gq w0 W → Below w.heap.size w W ∧ W.cell? ⟨w.heap.size, 0, none⟩ = some (.slice A L.length c) ∧ W.cell? ⟨w.heap.size, 1, none⟩ = some (.slice B C.length d)) := fun W hW => by
    have hb : Below w.heap.size w W := HB0.out.trans (Below.mono hW HB0.out.size)
    exact ⟨hb, by rw [Below.cell hW (by exact hz0)]; exact HX0.out.1, by rw [Below.cell hW (by exact hz0)]; exact HX0.out.2⟩
  obtain ⟨_, z0, z1⟩ := HPX.out w0 (Gq.refl _)
  obtain ⟨pf, hpf⟩ : ∃ pf, peoF p = pf := ⟨_, rfl⟩
  have HPF := Lib.hid hpf
  simp only [hpf] at HCK
  clear hw0 HX0 hpf
  have HC0 := Lib.hid (HCK.out w0 HB0.out)
  go_enter Tryz.func9, Tryz.ntmps9
  go_upto_region 1 with (fail)
  rw [← HW0.out]
  go_wp2_with fail
  refine HC0.out.mono ?_
  rintro e w1 ⟨rfl, hq1⟩
  have HG1 : Hid (Gq w0 w1) := hq1
  clear hq1 z0 z1
  obtain ⟨hbw1, z0, z1⟩ := HPX.out w1 HG1.out
  have HB1 := Lib.hid hbw1
  clear hbw1
  by_cases hz : pf = 0
  case neg =>
    have hzb : (pf != 0) = true := by simpa using hz
    have HR : Hid (manF p q = (⟨#[]⟩, ⟨#[]⟩, pf)) := by show _ = _; unfold manF; rw [HPF.out, if_pos hz]
    clear hz
    go_wp2_with fail
    go_ret3
    exact ⟨by rw [HR.out]; rfl, HB1.out⟩
  subst hz
  have HPR := Lib.hid (pplR_of HPF.out)
  have HH1 := Lib.hid (HHAS.out w1 HB1.out)
  by_cases hh : ixP p.ps q < p.ps.length
  case neg =>
    have hd : decide (ixP p.ps q < p.ps.length) = false := by simpa using hh
    rw [hd] at HH1
    have HR : Hid (manF p q = (⟨#[]⟩, ⟨#[]⟩, 9)) := by show _ = _; unfold manF; rw [HPF.out, if_neg (by simp), if_pos (by omega)]
    clear hh hd
    go_wp2_with fail
    refine HH1.out.mono ?_
    rintro e w2 ⟨rfl, hq2⟩
    have HB2 := Lib.hid (HB1.out.trans (hq2.mono HB1.out.size))
    clear hq2
    go_wp2_with fail
    go_ret3
    exact ⟨by rw [HR.out]; rfl, HB2.out⟩
  have hd : decide (ixP p.ps q < p.ps.length) = true := by simpa using hh
  rw [hd] at HH1
  have HLV := Lib.hid (ofK_at (f := lab p) hh)
  have hll := lab_lt hh
  have HR : Hid (manF p q = (idAt p.ps (lab p (ixP p.ps q)), nam0 p.ps (lab p (ixP p.ps q)), 0)) := by show _ = _; unfold manF; rw [HPF.out, if_neg (by simp), if_neg (by omega)]
  have HCF : Hid (calF p.ps (idAt p.ps (lab p (ixP p.ps q))) = nam0 p.ps (lab p (ixP p.ps q))) := by
    show _ = _
    unfold calF
    rw [HPR.out.ps.ixAt hll, if_pos hll]
  clear hh hd hll
  go_wp2_with fail
  refine HH1.out.mono ?_
  rintro e w2 ⟨rfl, hq2⟩
  have HG2 : Hid (Gq w0 w2) := Below.trans HG1.out (hq2.mono (Below.size HG1.out))
  clear hq2 z0 z1
  obtain ⟨hbw2, z0, z1⟩ := HPX.out w2 HG2.out
  have HB2 := Lib.hid hbw2
  clear hbw2
  have HM := Lib.hid (HMN.out w2 HB2.out HPR.out.ps HPR.out.cs HPR.out.n HPR.out.m)
  go_wp2_with fail
  refine HM.out.mono ?_
  rintro e w3 ⟨mb, hmb, rfl, hof, hq3⟩
  have HG3 : Hid (Gq w0 w3) := Below.trans HG2.out (hq3.mono (Below.size HG2.out))
  clear hq3 z0 z1
  obtain ⟨hbw3, z0, z1⟩ := HPX.out w3 HG3.out
  have HB3 := Lib.hid hbw3
  have hrun := OMap.look hof strKeyed Tryz.underlying65 zeroStr HKQ.out
  rw [HLV.out, Option.getD_some] at hrun
  have HCA := Lib.hid (HCL.out (idAt p.ps (lab p (ixP p.ps q))) w3 hbw3 HPR.out.ps)
  rw [HCF.out] at HCA
  generalize idAt p.ps (lab p (ixP p.ps q)) = mid at *
  generalize nam0 p.ps (lab p (ixP p.ps q)) = mnm at *
  clear hbw3 hof
  go_wp2_with fail
  refine HCA.out.mono ?_
  rintro e w4 ⟨rfl, hq4⟩
  have HB4 := Lib.hid (HB3.out.trans (hq4.mono HB3.out.size))
  clear hq4
  go_wp2_with fail
  go_ret3
  exact ⟨by rw [HR.out]; rfl, HB4.out⟩
end Go.Proofs.YtnlnaglaipjlfaaGreatDoor
