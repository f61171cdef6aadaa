/- Several texts laid into one: slices.Equal at pairs of strings, where both read alike; The contract of the reference's doubt; Plain: the pairs of groups that may be one; Plain: the pairs that the program finds, person by person, are those of the reference, in another order; The contract of the reference's Doubts; The order of pairs as the program has it, and their sort; Words for the program's Doubts: its maps as functions, names as rows of words, its closures; The contract of credit.Doubts; A drawn region whose condition is strengthened behind a call: whatever program; The contract of the reference's Main; How people that came in read; The variable that internal/bytealg reads, at a row's first world; The walk of CreditGroupsMatchSpec; -/
import Derived.Test.YtnpdekgmiphagaaGreatDoorPplO
import Derived.Test.YtnpdekgmiphagaaGreatDoorPplT
import Derived.Test.YtnpdekgmiphagaaGreatDoorPplN
import Derived.Test.YtnpdekgmiphagaaGreatDoorPplE
import Derived.Test.YtnpdekgmiphagaaGreatDoorShSort
import Derived.Shelf.SlSortCmp.NoneTotal
import Derived.Test.YtnpdekgmiphagaaGreatDoorAgrA
import Derived.Test.YtnpdekgmiphagaaGreatDoorPplH
import Derived.Test.YtnpdekgmiphagaaGreatDoorAgrG
import Derived.Lib.MinMaxS
import Derived.Test.YtnpdekgmiphagaaGreatDoorBase
import Derived.Deep.RegionHeld3
import Derived.Test.YtnpdekgmiphagaaGreatDoorPplM
import Derived.Test.YtnpdekgmiphagaaGreatDoorPpl
import Derived.Test.YtnpdekgmiphagaaGreatDoorDec
import Derived.Test.YtnpdekgmiphagaaGreatDoorShMax
import Derived.Test.YtnpdekgmiphagaaGreatDoorLin
/- slices.Equal at pairs of strings, where both read alike. -/
namespace Go.Proofs.YtnpdekgmiphagaaGreatDoor
open Go.RowKit Go.Dw

/-- a pair of strings as cells -/
def pcs (x : ByteArray × ByteArray) : List Value := [.string x.1, .string x.2]
theorem pcs_at {w : World} {A : Option Addr} {xs : List (ByteArray × ByteArray)} (h : Rd w A (xs.flatMap pcs)) (hn : 0 < xs.length) :
    ∃ b off, A = some ⟨b, off, none⟩ ∧ b < w.heap.size ∧ ∀ k (hk : k < xs.length), w.cell? ⟨b, off + k * 2, none⟩ = some (.string xs[k].1) ∧ w.cell? ⟨b, off + k * 2 + 1, none⟩ = some (.string xs[k].2) := by
  obtain ⟨b, off, e, hb, hc⟩ := h.at_ (by rw [flat_len pcs 2 (fun _ => rfl)]; omega)
  have hk2 : ∀ k (hk : k < xs.length) i, i < 2 → (xs.flatMap pcs)[k * 2 + i]? = (pcs xs[k])[i]? := fun k hk i hi => flat_get pcs 2 (fun _ => rfl) xs k i hk hi
  refine ⟨b, off, e, hb, fun k hk => ⟨?_, ?_⟩⟩
  · exact hc (k * 2) _ (by have := hk2 k hk 0 (by omega); rw [Nat.add_zero] at this; rw [this]; rfl)
  · have := hc (k * 2 + 1) (.string xs[k].2) (by rw [hk2 k hk 1 (by omega)]; rfl)
    rw [Nat.add_assoc]; exact this
theorem partS (s : ByteArray) (xs : Array Value) (i : Nat) (w : World) (h : xs[i]? = some (.string s)) : (part 9 xs i).run Tryz.prog w = .ok (.string s) w := by
  have hi : (isAgg 9).run Tryz.prog w = .ok false w := by go_simp
  unfold part
  simp [hi, h]
theorem eqStr1 (s : ByteArray) (w : World) : (Op.equalIn 9999 9 (.string s) (.string s)).run Tryz.prog w = .ok true w := by
  go_simp
theorem eqPr (s t : ByteArray) (w : World) : (Op.equalIn 10000 38 (.agg #[.string s, .string t]) (.agg #[.string s, .string t])).run Tryz.prog w = .ok true w := by
  have p0 := partS s #[.string s, .string t] 0 w rfl
  have p1 := partS t #[.string s, .string t] 1 w rfl
  have q0 := eqStr1 s w
  have q1 := eqStr1 t w
  show (Op.equalIn (9999 + 1) _ _ _).run _ _ = _
  unfold Op.equalIn
  simp
  rw [show List.range' 0 2 = [0, 1] from rfl]
  simp [p0, p1, q0, q1]
theorem neqPr (s t : ByteArray) (w : World) : Sem.run Tryz.prog (binOp .neq 38 (.agg #[.string s, .string t]) (.agg #[.string s, .string t])) w = .ok (.bool false) w := by
  have h := eqPr s t w
  go_simp
set_option maxHeartbeats 1000000 in
theorem samePr_any (A B : Option Addr) (c d : Nat) (xs : List (ByteArray × ByteArray)) (w : World) (ha : Rd w A (xs.flatMap pcs)) (hb : Rd w B (xs.flatMap pcs)) (hn : xs.length ≤ 9223372036854775807) :
    Calls Tryz.prog 13 #[.slice A xs.length c, .slice B xs.length d] w fun e w' => e = .returned (.bool true) ∧ ∃ n, w' = w.drewN n := by
  have hl1 : ((xs.length : Int) != (xs.length : Int)) = false := by simp
  go_enter Tryz.func13, Tryz.ntmps13
  go_wp2
  go_loopw [13] (fun i wr => ∃ k : Nat, k ≤ xs.length ∧ i = .int .i64 k ∧ ∃ n, wr = w.drewN n) (fun i _ => xs.length - (intOf i).toNat)
  case atStart => exact ⟨0, Nat.zero_le _, rfl, 0, rfl⟩
  case round =>
    obtain ⟨k, hk, rfl, n, rfl⟩ := hrel
    by_cases hlt : k < xs.length
    · obtain ⟨b, off, rfl, hbb, hc⟩ := pcs_at ha (by omega)
      obtain ⟨b2, off2, rfl, hbb2, hc2⟩ := pcs_at hb (by omega)
      obtain ⟨c0, c1⟩ := hc k hlt
      obtain ⟨d0, d1⟩ := hc2 k hlt
      clear hc hc2 ha hb
      generalize xs[k] = p0 at *
      have hne := neqPr p0.1 p0.2
      go_wp2
      go_quiet (fail)
      go_wp2
      go_roundw
      case rel => exact ⟨k + 1, by omega, by go_num, _, rfl⟩
      case measure => simp [intOf]; omega
    · go_wp2
      go_ret
      exact ⟨rfl, _, rfl⟩
end Go.Proofs.YtnpdekgmiphagaaGreatDoor
/- The contract of the reference's doubt. -/
namespace Go.Proofs.YtnpdekgmiphagaaGreatDoor
open Go.RowKit Go.Dw

/-- a claim says that the groups of i and k are not the same -/
def dbtC (p : Ppl) (i k : Nat) (c : Clm) : Bool := !c.s && ((lab p (ixP p.ps c.a) == i && lab p (ixP p.ps c.b) == k) || (lab p (ixP p.ps c.a) == k && lab p (ixP p.ps c.b) == i))
def nsAt (p : Ppl) (m : Nat) : List ByteArray := (p.ps.getD m dPsp).ns
def dbtP (p : Ppl) (i k m n : Nat) : Bool := lab p m == i && (lab p n == k && agrP (nsAt p m) (nsAt p n))
def dbtF (p : Ppl) (i k : Nat) : Bool := !(p.cs.any (dbtC p i k)) && (List.range p.ps.length).any fun m => (List.range p.ps.length).any fun n => dbtP p i k m n
theorem dbtF_no {p : Ppl} {i k j : Nat} (hj : j < p.cs.length) (h : dbtC p i k p.cs[j] = true) : dbtF p i k = false := by
  have : p.cs.any (dbtC p i k) = true := List.any_eq_true.2 ⟨_, List.getElem_mem hj, h⟩
  unfold dbtF; rw [this]; rfl
theorem dbtF_t {p : Ppl} {i k m n : Nat} (hc : ∀ j (hj : j < p.cs.length), dbtC p i k p.cs[j] = false) (hm : m < p.ps.length) (hn : n < p.ps.length) (h : dbtP p i k m n = true) : dbtF p i k = true := by
  have h1 : p.cs.any (dbtC p i k) = false := by
    rw [List.any_eq_false]
    intro x hx
    obtain ⟨j, hj, rfl⟩ := List.getElem_of_mem hx
    rw [hc j hj]; simp
  unfold dbtF; rw [h1]
  exact List.any_eq_true.2 ⟨m, List.mem_range.2 hm, List.any_eq_true.2 ⟨n, List.mem_range.2 hn, h⟩⟩
theorem dbtF_f {p : Ppl} {i k : Nat} (h : ∀ m, m < p.ps.length → ∀ n, n < p.ps.length → dbtP p i k m n = false) : dbtF p i k = false := by
  have h1 : ((List.range p.ps.length).any fun m => (List.range p.ps.length).any fun n => dbtP p i k m n) = false := by
    rw [List.any_eq_false]
    intro m hm
    rw [Bool.not_eq_true, List.any_eq_false]
    intro n hn
    rw [h m (List.mem_range.1 hm) n (List.mem_range.1 hn)]; simp
  unfold dbtF; rw [h1]; simp
set_option maxRecDepth 100000 in
set_option maxHeartbeats 8000000 in
theorem doubtR_any (x : Peo) (A3 : Option Addr) (c3 : Nat) (i k : Nat) (w : World) (h : PeoOk w x) (hcs : ClR x.x.ps x.x.cs) (hn : x.x.ps.length ≤ 100) (hm : x.x.cs.length ≤ 200)
    (hr : Rd w A3 (nc ((List.range x.x.ps.length).map (lab x.x)))) (hz : ∀ y ∈ x.x.ps, ∀ s ∈ y.ns, s.size ≤ 1048576) :
    Calls Tryz.prog 35 #[x.v, .slice A3 x.x.ps.length c3, .int .i64 (i : Int), .int .i64 (k : Int)] w fun e w' => e = .returned (.bool (dbtF x.x i k)) ∧ Below w.heap.size w w' := by
  have HOK := Lib.hid h
  have HPN := Lib.hid (fun (q : ByteArray) (W : World) (hW : Below w.heap.size w W) => personR_any x q W (h.below hW))
  have HCS := Lib.hid hcs
  have HSZ := Lib.hid hz
  obtain ⟨⟨A, c, L⟩, ⟨B, d, C⟩⟩ := x
  obtain ⟨p, hp⟩ : ∃ p : Ppl, p = Peo.x ⟨⟨A, c, L⟩, ⟨B, d, C⟩⟩ := ⟨_, rfl⟩
  have HPP : Hid (p.ps = L.map Psn.x) := by rw [hp]; rfl
  have HPC : Hid (p.cs = C) := by rw [hp]; rfl
  rw [← hp] at HCS HPN HSZ hn hm hr ⊢
  have HLN : Hid (p.ps.length = L.length) := by show _ = _; rw [HPP.out]; simp
  have hn' : L.length ≤ 100 := by rw [← HLN.out]; exact hn
  have hm' : C.length ≤ 200 := by rw [← HPC.out]; exact hm
  rw [HLN.out] at hr ⊢
  have HRL := Lib.hid hr
  unfold Peo.v at *
  simp only [Slc.v] at *
  clear h hcs hp hn hm hr hz
  obtain ⟨r, hrr⟩ : ∃ r, dbtF p i k = r := ⟨_, rfl⟩
  have HR := Lib.hid hrr
  rw [hrr]
  clear hrr
  obtain ⟨w0, hw0⟩ : ∃ w0, w0 = w.alloc (.cells #[.slice A L.length c, .slice B C.length d] 25) := ⟨_, rfl⟩
  have HB0 : Hid (Below w.heap.size w w0) := by rw [hw0]; exact (Below.refl _ _).alloc (Nat.le_refl _) _
  have HX0 : Hid (w0.cell? ⟨w.heap.size, 0, none⟩ = some (.slice A L.length c) ∧ w0.cell? ⟨w.heap.size, 1, none⟩ = some (.slice B C.length d)) := by rw [hw0]; exact peoBox
  have hz0 : w.heap.size < w0.heap.size := by rw [hw0]; simp
  have HW0 := Lib.hid hw0
  have HPX : Hid (∀ W, Gq w0 W → Below w.heap.size w W ∧ W.cell? ⟨w.heap.size, 0, none⟩ = some (.slice A L.length c) ∧ W.cell? ⟨w.heap.size, 1, none⟩ = some (.slice B C.length d)) := fun W hW => by
    have hb : Below w.heap.size w W := HB0.out.trans (Below.mono hW HB0.out.size)
    exact ⟨hb, by rw [Below.cell hW (by exact hz0)]; exact HX0.out.1, by rw [Below.cell hW (by exact hz0)]; exact HX0.out.2⟩
  obtain ⟨_, z0, z1⟩ := HPX.out w0 (Gq.refl _)
  clear hw0 HX0
  go_enter Tryz.func35, Tryz.ntmps35
  go_upto_region 1 with (fail)
  rw [← HW0.out]
  go_wp2_with fail
  go_loopw [18] (fun kv wr => ∃ j : Nat, j ≤ C.length ∧ kv = .int .i64 (j : Int) ∧ Hid (∀ t (ht : t < p.cs.length), t < j → dbtC p i k p.cs[t] = false) ∧ Hid (Gq w0 wr)) (fun kv _ => C.length - (intOf kv).toNat)
  case atStart => exact ⟨0, Nat.zero_le _, rfl, by intro t ht h0; omega, Gq.refl _⟩
  case round =>
    clear z0 z1
    obtain ⟨j, hj, rfl, HALL, HG⟩ := hrel
    obtain ⟨wq, hwq⟩ : ∃ wq, wq = wr := ⟨_, rfl⟩
    subst hwq
    have HBW := Lib.hid (HPX.out wq HG.out).1
    by_cases hlt : j < C.length
    case neg =>
      have hd1 : decide (j < C.length) = false := by simpa using hlt
      have HNO : Hid (∀ t (ht : t < p.cs.length), dbtC p i k p.cs[t] = false) := fun t ht => HALL.out t ht (by rw [HPC.out] at ht; omega)
      clear HALL hlt
      have HNS : Hid (∀ t (ht : t < L.length), nsAt p t = L[t].s.xs ∧ ∀ s ∈ L[t].s.xs, s.size ≤ 1048576) := fun t ht => by
        have htp : t < p.ps.length := by rw [HLN.out]; exact ht
        have e : p.ps[t] = L[t].x := by simp only [HPP.out, List.getElem_map]
        refine ⟨by unfold nsAt; rw [getD_at _ _ _ htp, e]; rfl, ?_⟩
        have := HSZ.out _ (List.getElem_mem htp)
        rw [e] at this; exact this
      have HTT : Hid (∀ m n, m < L.length → n < L.length → dbtP p i k m n = true → r = true) := fun m n h1 h2 h3 => by
        rw [← HR.out]; exact dbtF_t HNO.out (by rw [HLN.out]; exact h1) (by rw [HLN.out]; exact h2) h3
      have HFF : Hid ((∀ m, m < L.length → ∀ n, n < L.length → dbtP p i k m n = false) → r = false) := fun hh => by
        rw [← HR.out]; exact dbtF_f (by rw [HLN.out]; exact hh)
      go_wp2_with fail
      go_loopw [62] (fun kv wr => ∃ m : Nat, m ≤ L.length ∧ kv = .int .i64 (m : Int) ∧ Hid (∀ a, a < m → ∀ n, n < L.length → dbtP p i k a n = false) ∧ Hid (Gq w0 wr)) (fun kv _ => L.length - (intOf kv).toNat)
      case atStart => exact ⟨0, Nat.zero_le _, rfl, by intro a h0; omega, HG⟩
      case round =>
        obtain ⟨m, hm, rfl, HAM, HGM⟩ := hrel
        obtain ⟨wm, hwm⟩ : ∃ wm, wm = wr := ⟨_, rfl⟩
        subst hwm
        by_cases hlm : m < L.length
        case neg =>
          have hd2 : decide (m < L.length) = false := by simpa using hlm
          have HE := Lib.hid (HFF.out fun a ha n hn => HAM.out a (by omega) n hn)
          have HBM := Lib.hid (HPX.out wm HGM.out).1
          go_wp2_with fail
          go_ret
          exact ⟨by rw [HE.out]; rfl, HBM.out⟩
        have hd2 : decide (m < L.length) = true := by simpa using hlm
        go_wp2_with fail
        go_loopw [67] (fun kv wr => ∃ n : Nat, n ≤ L.length ∧ kv = .int .i64 (n : Int) ∧ Hid (∀ a, a < n → dbtP p i k m a = false) ∧ Hid (Gq w0 wr)) (fun kv _ => L.length - (intOf kv).toNat)
        case atStart => exact ⟨0, Nat.zero_le _, rfl, by intro a h0; omega, HGM⟩
        case round =>
          obtain ⟨n, hn, rfl, HAN, HGN⟩ := hrel
          obtain ⟨wn, hwn⟩ : ∃ wn, wn = wr := ⟨_, rfl⟩
          subst hwn
          by_cases hln : n < L.length
          case neg =>
            have hd3 : decide (n < L.length) = false := by simpa using hln
            have HN : Hid (∀ a, a < m + 1 → ∀ n, n < L.length → dbtP p i k a n = false) := fun a ha n2 hn2 => by
              by_cases e : a = m
              · subst e; exact HAN.out n2 (by omega)
              · exact HAM.out a (by omega) n2 hn2
            go_wp2_with fail
            go_roundw
            case rel => exact ⟨m + 1, by omega, by go_num, HN, HGN⟩
            case measure => simp [intOf]; omega
          have hd3 : decide (n < L.length) = true := by simpa using hln
          obtain ⟨hbn, x0, x1⟩ := HPX.out wn HGN.out
          have HBN := Lib.hid hbn
          obtain ⟨g, goff, rfl, hg, hgc⟩ := HRL.out.at_ (by rw [nc_len]; simp; omega)
          have gA : w.cell? ⟨g, goff + m, none⟩ = some (.int .i64 ((lab p m : Nat) : Int)) := hgc _ _ (by rw [nc_at _ _ (by simpa using hlm)]; simp)
          have gB : w.cell? ⟨g, goff + n, none⟩ = some (.int .i64 ((lab p n : Nat) : Int)) := hgc _ _ (by rw [nc_at _ _ (by simpa using hln)]; simp)
          obtain ⟨b, off, hAB, hb, hcs⟩ := psn_at HOK.out.pr (by show 0 < L.length; omega)
          simp only at hAB hcs
          subst hAB
          obtain ⟨d0, d1⟩ := hcs m hlm
          obtain ⟨e0, e1⟩ := hcs n hln
          have hbw : b < w.heap.size := hb
          have hgw : g < w.heap.size := hg
          obtain ⟨nm1, nm2⟩ := HNS.out m hlm
          obtain ⟨nn1, nn2⟩ := HNS.out n hln
          have HAG := Lib.hid (fun (W : World) (hW : Below w.heap.size w W) => agreeR_any L[m] L[n] W ((HOK.out.po L[m] (List.getElem_mem hlm)).below hW) ((HOK.out.po L[n] (List.getElem_mem hln)).below hW) nm2 nn2)
          obtain ⟨v, hv⟩ : ∃ v, dbtP p i k m n = v := ⟨_, rfl⟩
          have HT := Lib.hid (HTT.out m n hlm hln)
          have HNX : Hid (v = false → ∀ a, a < n + 1 → dbtP p i k m a = false) := fun h a ha => by
            by_cases e : a = n
            · subst e; rw [hv]; exact h
            · exact HAN.out a (by omega)
          rw [hv] at HT
          unfold dbtP at hv
          rw [nm1, nn1] at hv
          have HV := Lib.hid hv
          clear hv hgc hcs nm1 nm2 nn1 nn2 hbn
          generalize lab p m = la at *
          generalize lab p n = lb at *
          generalize L[m] = X at *
          generalize L[n] = Y at *
          obtain ⟨xi, ⟨xa, xc, xl⟩⟩ := X
          obtain ⟨yi, ⟨ya, yc, yl⟩⟩ := Y
          simp only [Slc.v] at d0 d1 e0 e1 HAG HV
          have HS : Hid (∀ W, Gq wn W → W.cell? ⟨w.heap.size, 0, none⟩ = some (.slice (some ⟨b, off, none⟩) L.length c) ∧ W.cell? ⟨b, off + m * 2, none⟩ = some (.string xi) ∧ W.cell? ⟨b, off + m * 2 + 1, none⟩ = some (.slice xa xl.length xc) ∧ W.cell? ⟨b, off + n * 2, none⟩ = some (.string yi) ∧ W.cell? ⟨b, off + n * 2 + 1, none⟩ = some (.slice ya yl.length yc)
              ∧ W.cell? ⟨g, goff + m, none⟩ = some (.int .i64 (la : Int)) ∧ W.cell? ⟨g, goff + n, none⟩ = some (.int .i64 (lb : Int)) ∧ Gq wn W) := fun W hW => by
            obtain ⟨hbW, y0, y1⟩ := HPX.out W (Below.trans HGN.out (Below.mono hW (Below.size HGN.out)))
            exact ⟨y0, by rw [Below.cell hbW (by exact hbw)]; exact d0, by rw [Below.cell hbW (by exact hbw)]; exact d1, by rw [Below.cell hbW (by exact hbw)]; exact e0, by rw [Below.cell hbW (by exact hbw)]; exact e1, by rw [Below.cell hbW (by exact hgw)]; exact gA, by rw [Below.cell hbW (by exact hgw)]; exact gB, hW⟩
          have hBR : Gq wn wn := Gq.refl _
          have hBD : Gq wn wn.drew := (Gq.refl _).drew
          have m0 : (0 : Int) ≤ (m : Int) := by omega
          have m1 : (m : Int) < (L.length : Int) := by omega
          have n0 : (0 : Int) ≤ (n : Int) := by omega
          have n1 : (n : Int) < (L.length : Int) := by omega
          have hie : ∀ a b : Nat, ((a : Int) == (b : Int)) = (a == b) := fun a b => by rw [Bool.eq_iff_iff]; simp only [beq_iff_eq]; omega
          have t1 := hie la i
          have t2 := hie lb k
          replace HV := HV.out
          obtain ⟨q1, hq1⟩ : ∃ q1, (la == i) = q1 := ⟨_, rfl⟩
          obtain ⟨q2, hq2⟩ : ∃ q2, (lb == k) = q2 := ⟨_, rfl⟩
          obtain ⟨q3, hq3⟩ : ∃ q3, agrP xl yl = q3 := ⟨_, rfl⟩
          rw [hq1] at t1
          rw [hq2] at t2
          rw [hq1, hq2, hq3] at HV
          simp only [hq3] at HAG
          replace HV := Lib.hid HV
          clear hie hq1 hq2 hq3 d0 d1 e0 e1 gA gB x0 x1
          go_upto_region 14 with (fail)
          go_cut [96] (fun z W => z = .bool v ∧ Hid (Gq wn W))
          case first =>
            cases q1 with
            | false =>
              have HE : Hid (v = false) := HV.out.symm
              obtain ⟨_, _, _, _, _, y5, y6, _⟩ := HS.out _ hBR
              go_quiet (fail)
              go_wp2_with fail
              go_meet
              case rel => exact ⟨by rw [HE.out], below_drewN (Gq.refl wn) _⟩
            | true =>
              cases q2 with
              | false =>
                have HE : Hid (v = false) := HV.out.symm
                obtain ⟨_, _, _, _, _, y5, y6, _⟩ := HS.out _ hBR
                go_quiet (fail)
                go_wp2_with fail
                go_meet
                case rel => exact ⟨by rw [HE.out], below_drewN (Gq.refl wn) _⟩
              | true =>
                have HE : Hid (v = q3) := by show _ = _; rw [← HV.out]; rfl
                have HCA := Lib.hid (call_gq (w := wn) fun W hW => HAG.out W (HPX.out W (Below.trans HGN.out (Below.mono hW (Below.size HGN.out)))).1)
                go_region_held3 (fun W => W.cell? ⟨w.heap.size, 0, none⟩ = some (.slice (some ⟨b, off, none⟩) L.length c) ∧ W.cell? ⟨b, off + m * 2, none⟩ = some (.string xi) ∧ W.cell? ⟨b, off + m * 2 + 1, none⟩ = some (.slice xa xl.length xc) ∧ W.cell? ⟨b, off + n * 2, none⟩ = some (.string yi) ∧ W.cell? ⟨b, off + n * 2 + 1, none⟩ = some (.slice ya yl.length yc)
                    ∧ W.cell? ⟨g, goff + m, none⟩ = some (.int .i64 (la : Int)) ∧ W.cell? ⟨g, goff + n, none⟩ = some (.int .i64 (lb : Int)) ∧ Gq wn W)
                  (first | exact HS.out _ hBD | exact HS.out _ hqB | exact HS.out _ hBR | exact HS.out _ (Gq.drew hqB))
                  (first | (go_at_call 50; with_reducible refine (HCA.out _ (by first | exact hqB | exact hBD | exact hBR)).mono ?_; rintro e wA ⟨rfl, hqB⟩))
                all_goals
                  go_wp2_with fail
                  go_meet
                  case rel => exact ⟨by rw [HE.out], by first | exact hqB | exact Gq.drew hqB⟩
          case rest =>
            obtain ⟨rfl, hgc⟩ := hcut
            have HGC : Hid (Gq w0 wc) := Below.trans HGN.out (Below.mono hgc.out (Below.size HGN.out))
            have HBC := Lib.hid (HPX.out wc HGC.out).1
            clear HS hBR hBD
            cases v with
            | true =>
              have HE := Lib.hid (HT.out rfl)
              go_wp2_with fail
              go_ret
              exact ⟨by rw [HE.out]; rfl, HBC.out⟩
            | false =>
              have HN := Lib.hid (HNX.out rfl)
              go_wp2_with fail
              go_roundw
              case rel => exact ⟨n + 1, by omega, by go_num, HN.out, HGC⟩
              case measure => simp [intOf]; omega
    have hd1 : decide (j < C.length) = true := by simpa using hlt
    obtain ⟨b, off, hAB, hb, hcs⟩ := clm_at (HOK.out.cr.below HBW.out) (by show 0 < C.length; omega)
    simp only at hAB hcs
    subst hAB
    obtain ⟨d0, d1, d2⟩ := hcs j hlt
    have hltp : j < p.cs.length := by rw [HPC.out]; exact hlt
    have hck : p.cs[j] = C[j] := by simp only [HPC.out]
    have hmem : C[j] ∈ p.cs := by rw [HPC.out]; exact List.getElem_mem hlt
    have ia := HCS.out.ia _ hmem
    have ib := HCS.out.ib _ hmem
    have HPA := Lib.hid (fun (W : World) (hW : Below w.heap.size w W) => HPN.out C[j].a W hW)
    have HPB := Lib.hid (fun (W : World) (hW : Below w.heap.size w W) => HPN.out C[j].b W hW)
    simp only [pix_in ia] at HPA
    simp only [pix_in ib] at HPB
    obtain ⟨v, hv⟩ : ∃ v, dbtC p i k C[j] = v := ⟨_, rfl⟩
    have HV := Lib.hid hv
    have HBAD : Hid (v = true → r = false) := fun h => by rw [← HR.out]; exact dbtF_no hltp (by rw [hck, hv]; exact h)
    have HNX : Hid (v = false → ∀ t (ht : t < p.cs.length), t < j + 1 → dbtC p i k p.cs[t] = false) := fun h t ht h1 => by
      by_cases e : t = j
      · subst e; rw [hck, hv]; exact h
      · exact HALL.out t ht (by omega)
    rw [HLN.out] at ia ib
    obtain ⟨g, goff, rfl, hg, hgc⟩ := HRL.out.at_ (by rw [nc_len]; simp; omega)
    have gA : w.cell? ⟨g, goff + ixP p.ps C[j].a, none⟩ = some (.int .i64 ((lab p (ixP p.ps C[j].a) : Nat) : Int)) := hgc _ _ (by rw [nc_at _ _ (by simpa using ia)]; simp)
    have gB : w.cell? ⟨g, goff + ixP p.ps C[j].b, none⟩ = some (.int .i64 ((lab p (ixP p.ps C[j].b) : Nat) : Int)) := hgc _ _ (by rw [nc_at _ _ (by simpa using ib)]; simp)
    unfold dbtC at HV
    clear hgc hcs hck hmem hltp hv
    generalize lab p (ixP p.ps C[j].a) = la at *
    generalize lab p (ixP p.ps C[j].b) = lb at *
    generalize ixP p.ps C[j].a = ea at *
    generalize ixP p.ps C[j].b = eb at *
    generalize C[j] = cc at *
    obtain ⟨ca, cb, cs⟩ := cc
    simp only at d0 d1 d2 HPA HPB HV
    obtain ⟨wB, hwB⟩ : ∃ wB, wB = wq.alloc (.cells #[.string ca, .string cb, .bool cs] 51) := ⟨_, rfl⟩
    have HGB : Hid (Gq w0 wB) := by rw [hwB]; exact HG.out.alloc _
    have HKB : Hid (Blk wB wq.heap.size 51 [.string ca, .string cb, .bool cs]) := by rw [hwB]; exact Blk.new wq _ _
    have HWB := Lib.hid hwB
    have hgw : g < w.heap.size := hg
    clear hwB
    have HCA := Lib.hid (call_gq (w := wB) fun W hW => HPA.out W (HPX.out W (Below.trans HGB.out (Below.mono hW (Below.size HGB.out)))).1)
    have HCB := Lib.hid (call_gq (w := wB) fun W hW => HPB.out W (HPX.out W (Below.trans HGB.out (Below.mono hW (Below.size HGB.out)))).1)
    have hBR : Gq wB wB := Gq.refl _
    have hBD : Gq wB wB.drew := (Gq.refl _).drew
    have HS : Hid (∀ W, Gq wB W → W.cell? ⟨w.heap.size, 0, none⟩ = some (.slice A L.length c) ∧ W.cell? ⟨w.heap.size, 1, none⟩ = some (.slice (some ⟨b, off, none⟩) C.length d) ∧ W.cell? ⟨wq.heap.size, 0, none⟩ = some (.string ca) ∧ W.cell? ⟨wq.heap.size, 1, none⟩ = some (.string cb)
        ∧ W.cell? ⟨g, goff + ea, none⟩ = some (.int .i64 (la : Int)) ∧ W.cell? ⟨g, goff + eb, none⟩ = some (.int .i64 (lb : Int)) ∧ Gq wB W) := fun W hW => by
      obtain ⟨hbW, x0, x1⟩ := HPX.out W (Below.trans HGB.out (Below.mono hW (Below.size HGB.out)))
      have hKW : Blk W wq.heap.size 51 [.string ca, .string cb, .bool cs] := HKB.out.same (Same.of_below (S := fun _ => True) hW) trivial
      exact ⟨x0, x1, hKW.cell 0, hKW.cell 1, by rw [Below.cell hbW (by exact hgw)]; exact gA, by rw [Below.cell hbW (by exact hgw)]; exact gB, hW⟩
    have a0 : (0 : Int) ≤ (ea : Int) := by omega
    have a1 : (ea : Int) < (L.length : Int) := by omega
    have b0 : (0 : Int) ≤ (eb : Int) := by omega
    have b1 : (eb : Int) < (L.length : Int) := by omega
    clear gA gB
    go_upto_region 4 with (fail)
    rw [← HWB.out]
    clear d0 d1 d2
    go_cut [11, 12] (fun va vb W => va = .int .i64 (la : Int) ∧ vb = .int .i64 (lb : Int) ∧ Hid (Gq wB W))
    case first =>
      go_region_held3 (fun W => W.cell? ⟨w.heap.size, 0, none⟩ = some (.slice A L.length c) ∧ W.cell? ⟨w.heap.size, 1, none⟩ = some (.slice (some ⟨b, off, none⟩) C.length d) ∧ W.cell? ⟨wq.heap.size, 0, none⟩ = some (.string ca) ∧ W.cell? ⟨wq.heap.size, 1, none⟩ = some (.string cb)
          ∧ W.cell? ⟨g, goff + ea, none⟩ = some (.int .i64 (la : Int)) ∧ W.cell? ⟨g, goff + eb, none⟩ = some (.int .i64 (lb : Int)) ∧ Gq wB W)
        (first | exact HS.out _ hBD | exact HS.out _ hqB | exact HS.out _ hBR | exact HS.out _ (Gq.drew hqB))
        (first | (go_at_call 22; with_reducible refine (HCA.out _ (by first | exact hqB | exact hBD | exact hBR)).mono ?_; rintro e wA ⟨rfl, hqB⟩) | (go_at_call 22; with_reducible refine (HCB.out _ (by first | exact hqB | exact hBD | exact hBR)).mono ?_; rintro e wA ⟨rfl, hqB⟩))
      all_goals
        go_wp2_with fail
        go_meet
        case rel => exact ⟨rfl, rfl, by first | exact hqB | exact Gq.drew hqB⟩
    case rest =>
      obtain ⟨rfl, rfl, hgc⟩ := hcut
      have HGC : Hid (Gq w0 wc) := Below.trans HGB.out (Below.mono hgc.out (Below.size HGB.out))
      have HBC := Lib.hid (HPX.out wc HGC.out).1
      have HKC : Hid (Blk wc wq.heap.size 51 [.string ca, .string cb, .bool cs]) := HKB.out.same (Same.of_below (S := fun _ => True) hgc.out) trivial
      have k2 : wc.cell? ⟨wq.heap.size, 2, none⟩ = some _ := HKC.out.cell 2
      clear HS HCA HCB hBR hBD
      have hie : ∀ a b : Nat, ((a : Int) == (b : Int)) = (a == b) := fun a b => by rw [Bool.eq_iff_iff]; simp only [beq_iff_eq]; omega
      have t1 := hie la i
      have t2 := hie lb k
      have t3 := hie la k
      have t4 := hie lb i
      replace HV := HV.out
      generalize (la == i) = q1 at t1 HV
      generalize (lb == k) = q2 at t2 HV
      generalize (la == k) = q3 at t3 HV
      generalize (lb == i) = q4 at t4 HV
      replace HV := Lib.hid HV
      clear hie
      cases v with
      | true =>
        have HE := Lib.hid (HBAD.out rfl)
        cases cs <;> cases q1 <;> cases q2 <;> cases q3 <;> cases q4 <;> first | (exact absurd HV.out (by decide)) | (go_wp2_with fail; go_ret; exact ⟨by rw [HE.out]; rfl, HBC.out⟩)
      | false =>
        have HN := Lib.hid (HNX.out rfl)
        have HRD : Hid (∃ j2 : Nat, j2 ≤ C.length ∧ Value.int .i64 ((j : Int) + 1) = .int .i64 (j2 : Int) ∧ Hid (∀ t (ht : t < p.cs.length), t < j2 → dbtC p i k p.cs[t] = false) ∧ Hid (Gq w0 wc)) := ⟨j + 1, by omega, by go_num, HN.out, HGC⟩
        cases cs <;> cases q1 <;> cases q2 <;> cases q3 <;> cases q4 <;> first | (exact absurd HV.out (by decide)) | (go_wp2_with fail; go_roundw; (case rel => exact HRD.out); (case measure => simp [intOf]; omega))
end Go.Proofs.YtnpdekgmiphagaaGreatDoor
/- Plain: the pairs of groups that may be one. -/
namespace Go.Proofs.YtnpdekgmiphagaaGreatDoor
open Go.RowKit Go.Dw

/-- i and k lead groups that may be one -/
def dbtOk (p : Ppl) (i k : Nat) : Bool := (lab p i == i && lab p k == k) && dbtF p i k
/-- the pairs of i with what lies from i + 1 up to m -/
def dbtRow (p : Ppl) (i m : Nat) : List (ByteArray × ByteArray) := ((List.range m).filter fun k => decide (i < k) && dbtOk p i k).map fun k => (idAt p.ps i, idAt p.ps k)
def dbtsK (p : Ppl) (n : Nat) : List (ByteArray × ByteArray) := (List.range n).flatMap fun i => dbtRow p i p.ps.length
def dbtsF (p : Ppl) : List (ByteArray × ByteArray) := dbtsK p p.ps.length
theorem dbtRow_start (p : Ppl) (i : Nat) : dbtRow p i (i + 1) = [] := by
  unfold dbtRow
  rw [List.map_eq_nil_iff, List.filter_eq_nil_iff]
  intro k hk
  have := List.mem_range.1 hk
  have h : ¬ i < k := by omega
  simp [h]
theorem dbtRow_succ (p : Ppl) (i k : Nat) (h : i < k) : dbtRow p i (k + 1) = if dbtOk p i k = true then dbtRow p i k ++ [(idAt p.ps i, idAt p.ps k)] else dbtRow p i k := by
  unfold dbtRow
  rw [List.range_succ, List.filter_append, List.map_append]
  by_cases hd : dbtOk p i k = true
  · simp [h, hd]
  · simp [h, hd]
theorem dbtsK_succ (p : Ppl) (n : Nat) : dbtsK p (n + 1) = dbtsK p n ++ dbtRow p n p.ps.length := by
  unfold dbtsK
  rw [List.range_succ, List.flatMap_append]
  simp
theorem dbtRow_len (p : Ppl) (i m : Nat) : (dbtRow p i m).length ≤ m := by
  unfold dbtRow
  rw [List.length_map]
  have := List.length_filter_le (fun k => decide (i < k) && dbtOk p i k) (List.range m)
  simpa using this
end Go.Proofs.YtnpdekgmiphagaaGreatDoor
/- Plain: the pairs that the program finds, person by person, are those of the reference, in another order. -/
namespace Go.Proofs.YtnpdekgmiphagaaGreatDoor
open Go.RowKit Go.Dw

theorem sorted_ext {α : Type} {R : α → α → Prop} (irr : ∀ x, ¬ R x x) (asym : ∀ x y, R x y → ¬ R y x) : ∀ {l l' : List α}, l.Pairwise R → l'.Pairwise R → (∀ x, x ∈ l ↔ x ∈ l') → l = l'
  | [], [], _, _, _ => rfl
  | [], y :: ys, _, _, h => absurd ((h y).2 (by simp)) (by simp)
  | x :: xs, [], _, _, h => absurd ((h x).1 (by simp)) (by simp)
  | x :: xs, y :: ys, h1, h2, h => by
    rw [List.pairwise_cons] at h1 h2
    have hxy : x = y := by
      by_cases e : x = y
      · exact e
      · exfalso
        have a : x ∈ ys := by
          rcases List.mem_cons.1 ((h x).1 (by simp)) with h3 | h3
          · exact absurd h3 e
          · exact h3
        have b : y ∈ xs := by
          rcases List.mem_cons.1 ((h y).2 (by simp)) with h3 | h3
          · exact absurd h3.symm e
          · exact h3
        exact asym _ _ (h1.1 y b) (h2.1 x a)
    subst hxy
    rw [sorted_ext irr asym h1.2 h2.2 (fun z => ?_)]
    constructor
    · intro hz
      rcases List.mem_cons.1 ((h z).1 (List.mem_cons_of_mem _ hz)) with h3 | h3
      · subst h3; exact absurd (h1.1 z hz) (irr z)
      · exact h3
    · intro hz
      rcases List.mem_cons.1 ((h z).2 (List.mem_cons_of_mem _ hz)) with h3 | h3
      · subst h3; exact absurd (h2.1 z hz) (irr z)
      · exact h3
/-- the order of pairs -/
def prLt (x y : ByteArray × ByteArray) : Prop := sLt x.1 y.1 ∨ x.1 = y.1 ∧ sLt x.2 y.2
theorem prLt_irr (x : ByteArray × ByteArray) : ¬ prLt x x := by
  rintro (h | ⟨_, h⟩)
  · exact sLt_irr _ h
  · exact sLt_irr _ h
theorem prLt_trans {x y z : ByteArray × ByteArray} (h : prLt x y) (k : prLt y z) : prLt x z := by
  unfold prLt at *
  rcases h with h | ⟨h1, h2⟩
  · rcases k with k | ⟨k1, _⟩
    · exact .inl (sLt_trans h k)
    · rw [← k1]; exact .inl h
  · rcases k with k | ⟨k1, k2⟩
    · rw [h1]; exact .inl k
    · exact .inr ⟨h1.trans k1, sLt_trans h2 k2⟩
theorem prLt_asym (x y : ByteArray × ByteArray) (h : prLt x y) : ¬ prLt y x := fun k => prLt_irr x (prLt_trans h k)
theorem prLt_tri {x y : ByteArray × ByteArray} (h : ¬ prLt x y) (k : ¬ prLt y x) : x = y := by
  unfold prLt at h k
  obtain ⟨x1, x2⟩ := x
  obtain ⟨y1, y2⟩ := y
  simp only [not_or, not_and] at h k
  rcases sLt_tri x1 y1 with e | e | e
  · exact absurd e h.1
  · subst e
    rcases sLt_tri x2 y2 with e | e | e
    · exact absurd e (h.2 rfl)
    · rw [e]
    · exact absurd e (k.2 rfl)
  · exact absurd e k.1
/-- the pair of the groups of i and k -/
def prI (p : Ppl) (i k : Nat) : ByteArray × ByteArray := (idAt p.ps (min (lab p i) (lab p k)), idAt p.ps (max (lab p i) (lab p k)))
/-- a claim says that they are not the same -/
def twoC (p : Ppl) (x : ByteArray × ByteArray) (c : Clm) : Bool := !c.s && decide (prI p (ixP p.ps c.a) (ixP p.ps c.b) = x)
def twoP (p : Ppl) (n : Nat) (x : ByteArray × ByteArray) : Bool := (p.cs.take n).any (twoC p x)
def memQ (D : List (ByteArray × ByteArray)) (x : ByteArray × ByteArray) : Bool := D.any fun y => decide (y = x)
theorem memQ_iff {D : List (ByteArray × ByteArray)} {x : ByteArray × ByteArray} : memQ D x = true ↔ x ∈ D := by
  unfold memQ
  rw [List.any_eq_true]
  constructor
  · rintro ⟨y, hy, h⟩; rw [← of_decide_eq_true h]; exact hy
  · intro h; exact ⟨x, h, by simp⟩
/-- found or not to be found -/
def skipI (p : Ppl) (D : List (ByteArray × ByteArray)) (i k : Nat) : Bool := decide (lab p i = lab p k) || (twoP p p.cs.length (prI p i k) || memQ D (prI p i k))
def stepI (p : Ppl) (i : Nat) (D : List (ByteArray × ByteArray)) (k : Nat) : List (ByteArray × ByteArray) :=
  if skipI p D i k = true then D else if agrP (nsAt p i) (nsAt p k) = true then D ++ [prI p i k] else D
def rowI (p : Ppl) (i k : Nat) (D : List (ByteArray × ByteArray)) : List (ByteArray × ByteArray) := (List.range k).foldl (stepI p i) D
def outI (p : Ppl) (n : Nat) : List (ByteArray × ByteArray) := (List.range n).foldl (fun D i => rowI p i i D) []
theorem rowI_zero (p : Ppl) (i : Nat) (D : List (ByteArray × ByteArray)) : rowI p i 0 D = D := rfl
theorem rowI_succ (p : Ppl) (i k : Nat) (D : List (ByteArray × ByteArray)) : rowI p i (k + 1) D = stepI p i (rowI p i k D) k := by
  unfold rowI; rw [List.range_succ, List.foldl_append]; rfl
theorem outI_succ (p : Ppl) (n : Nat) : outI p (n + 1) = rowI p n n (outI p n) := by
  unfold outI; rw [List.range_succ, List.foldl_append]; rfl
/-- what is to be found -/
def goodI (p : Ppl) (i k : Nat) : Prop := lab p i ≠ lab p k ∧ twoP p p.cs.length (prI p i k) = false ∧ agrP (nsAt p i) (nsAt p k) = true
theorem stepI_mem {p : Ppl} {i k : Nat} {D : List (ByteArray × ByteArray)} {x : ByteArray × ByteArray} : x ∈ stepI p i D k ↔ x ∈ D ∨ (x = prI p i k ∧ goodI p i k) := by
  unfold stepI skipI goodI
  by_cases h1 : lab p i = lab p k
  · simp [h1]
  · cases h2 : twoP p p.cs.length (prI p i k) with
    | true => simp [h1]
    | false =>
      by_cases h3 : prI p i k ∈ D
      · have h5 := memQ_iff.2 h3
        simp only [h5, Bool.or_true, if_true]
        constructor
        · exact .inl
        · rintro (h | ⟨rfl, _⟩)
          · exact h
          · exact h3
      · have h5 : memQ D (prI p i k) = false := by
          rw [← Bool.not_eq_true]; exact fun h => h3 (memQ_iff.1 h)
        cases h4 : agrP (nsAt p i) (nsAt p k) with
        | true => simp [h1, h5]
        | false => simp [h1, h5]
theorem stepI_nodup {p : Ppl} {i k : Nat} {D : List (ByteArray × ByteArray)} (h : D.Nodup) : (stepI p i D k).Nodup := by
  unfold stepI
  split
  · exact h
  · rename_i hs
    split
    · rw [List.nodup_append]
      refine ⟨h, by simp, fun a ha b hb => ?_⟩
      rw [List.mem_singleton] at hb
      subst hb
      intro e
      subst e
      unfold skipI at hs
      simp only [Bool.or_eq_true, decide_eq_true_eq, not_or] at hs
      exact hs.2.2 (memQ_iff.2 ha)
    · exact h
theorem rowI_mem {p : Ppl} {i : Nat} {D : List (ByteArray × ByteArray)} {x : ByteArray × ByteArray} : ∀ {k : Nat}, x ∈ rowI p i k D ↔ x ∈ D ∨ ∃ j, j < k ∧ x = prI p i j ∧ goodI p i j
  | 0 => by rw [rowI_zero]; simp
  | k + 1 => by
    rw [rowI_succ, stepI_mem, rowI_mem]
    constructor
    · rintro ((h | ⟨j, hj, h⟩) | h)
      · exact .inl h
      · exact .inr ⟨j, by omega, h⟩
      · exact .inr ⟨k, by omega, h⟩
    · rintro (h | ⟨j, hj, h⟩)
      · exact .inl (.inl h)
      · by_cases e : j = k
        · subst e; exact .inr h
        · exact .inl (.inr ⟨j, by omega, h⟩)
theorem rowI_nodup {p : Ppl} {i : Nat} {D : List (ByteArray × ByteArray)} (h : D.Nodup) : ∀ {k : Nat}, (rowI p i k D).Nodup
  | 0 => h
  | k + 1 => by rw [rowI_succ]; exact stepI_nodup (rowI_nodup h)
theorem outI_mem {p : Ppl} {x : ByteArray × ByteArray} : ∀ {n : Nat}, x ∈ outI p n ↔ ∃ i k, k < i ∧ i < n ∧ x = prI p i k ∧ goodI p i k
  | 0 => by
    constructor
    · intro h; cases h
    · rintro ⟨i, k, _, h, _⟩; omega
  | n + 1 => by
    rw [outI_succ, rowI_mem, outI_mem]
    constructor
    · rintro (⟨i, k, h1, h2, h3⟩ | ⟨j, hj, h⟩)
      · exact ⟨i, k, h1, by omega, h3⟩
      · exact ⟨n, j, hj, by omega, h⟩
    · rintro ⟨i, k, h1, h2, h3⟩
      by_cases e : i = n
      · subst e; exact .inr ⟨k, h1, h3⟩
      · exact .inl ⟨i, k, h1, by omega, h3⟩
theorem outI_nodup {p : Ppl} : ∀ {n : Nat}, (outI p n).Nodup
  | 0 => List.nodup_nil
  | n + 1 => by rw [outI_succ]; exact rowI_nodup outI_nodup
theorem stepI_len (p : Ppl) (i k : Nat) (D : List (ByteArray × ByteArray)) : (stepI p i D k).length ≤ D.length + 1 := by
  unfold stepI
  split
  · omega
  · split
    · simp
    · omega
theorem agrN_comm (x y : ByteArray) : agrN x y = agrN y x := agr_comm _ _
theorem agrP_comm (a b : List ByteArray) : agrP a b = agrP b a := by
  rw [Bool.eq_iff_iff]
  unfold agrP
  simp only [List.any_eq_true]
  constructor
  · rintro ⟨x, hx, y, hy, h⟩; exact ⟨y, hy, x, hx, by rw [agrN_comm]; exact h⟩
  · rintro ⟨x, hx, y, hy, h⟩; exact ⟨y, hy, x, hx, by rw [agrN_comm]; exact h⟩
theorem prI_comm (p : Ppl) (i k : Nat) : prI p i k = prI p k i := by unfold prI; rw [Nat.min_comm, Nat.max_comm]
theorem prI_lead {p : Ppl} (hps : PsR p.ps) {i k a b : Nat} (hi : i < p.ps.length) (hk : k < p.ps.length) (hab : a < b) (hb : b < p.ps.length) :
    prI p i k = (idAt p.ps a, idAt p.ps b) ↔ (lab p i = a ∧ lab p k = b) ∨ (lab p i = b ∧ lab p k = a) := by
  have h1 := lab_lt hi
  have h2 := lab_lt hk
  unfold prI
  rw [Prod.mk.injEq, hps.idInj (by omega) (by omega), hps.idInj (by omega) hb]
  omega
/-- two groups, seen as the reference sees them -/
theorem dbtF_iff {p : Ppl} (hp : PplR p) {a b : Nat} (hab : a < b) (hb : b < p.ps.length) :
    dbtF p a b = true ↔ twoP p p.cs.length (idAt p.ps a, idAt p.ps b) = false ∧ ∃ m n, m < p.ps.length ∧ n < p.ps.length ∧ lab p m = a ∧ lab p n = b ∧ agrP (nsAt p m) (nsAt p n) = true := by
  unfold dbtF
  rw [Bool.and_eq_true]
  have h1 : p.cs.any (dbtC p a b) = twoP p p.cs.length (idAt p.ps a, idAt p.ps b) := by
    unfold twoP
    rw [List.take_length, Bool.eq_iff_iff]
    simp only [List.any_eq_true]
    have h2 : ∀ c ∈ p.cs, dbtC p a b c = twoC p (idAt p.ps a, idAt p.ps b) c := fun c hc => by
      unfold dbtC twoC
      congr 1
      rw [Bool.eq_iff_iff]
      simp only [Bool.or_eq_true, Bool.and_eq_true, beq_iff_eq, decide_eq_true_eq]
      rw [prI_lead hp.ps (hp.cs.ia c hc) (hp.cs.ib c hc) hab hb]
    constructor
    · rintro ⟨c, hc, h⟩; exact ⟨c, hc, by rw [← h2 c hc]; exact h⟩
    · rintro ⟨c, hc, h⟩; exact ⟨c, hc, by rw [h2 c hc]; exact h⟩
  rw [h1]
  constructor
  · rintro ⟨h2, h3⟩
    refine ⟨by simpa using h2, ?_⟩
    obtain ⟨m, hm, h4⟩ := List.any_eq_true.1 h3
    obtain ⟨n, hn, h5⟩ := List.any_eq_true.1 h4
    unfold dbtP at h5
    simp only [Bool.and_eq_true, beq_iff_eq] at h5
    exact ⟨m, n, List.mem_range.1 hm, List.mem_range.1 hn, h5.1, h5.2.1, h5.2.2⟩
  · rintro ⟨h2, m, n, hm, hn, h3, h4, h5⟩
    refine ⟨by simpa using h2, List.any_eq_true.2 ⟨m, List.mem_range.2 hm, List.any_eq_true.2 ⟨n, List.mem_range.2 hn, ?_⟩⟩⟩
    unfold dbtP
    simp only [Bool.and_eq_true, beq_iff_eq]
    exact ⟨h3, h4, h5⟩
theorem dbts_mem {p : Ppl} {x : ByteArray × ByteArray} : x ∈ dbtsF p ↔ ∃ i k, i < k ∧ k < p.ps.length ∧ dbtOk p i k = true ∧ x = (idAt p.ps i, idAt p.ps k) := by
  unfold dbtsF dbtsK dbtRow
  simp only [List.mem_flatMap, List.mem_range, List.mem_map, List.mem_filter, Bool.and_eq_true, decide_eq_true_eq]
  constructor
  · rintro ⟨i, _, k, ⟨hk, hik, h⟩, rfl⟩; exact ⟨i, k, hik, hk, h, rfl⟩
  · rintro ⟨i, k, hik, hk, h, rfl⟩; exact ⟨i, by omega, k, ⟨hk, hik, h⟩, rfl⟩
theorem out_dbts {p : Ppl} (hp : PplR p) (x : ByteArray × ByteArray) : x ∈ outI p p.ps.length ↔ x ∈ dbtsF p := by
  rw [outI_mem, dbts_mem]
  constructor
  · rintro ⟨i, k, hki, hi, rfl, hne, h2, h3⟩
    have hk : k < p.ps.length := by omega
    have l1 := lab_lt hi
    have l2 := lab_lt hk
    have e1 := lab_idem p i
    have e2 := lab_idem p k
    refine ⟨min (lab p i) (lab p k), max (lab p i) (lab p k), by omega, by omega, ?_, rfl⟩
    have ea : lab p (min (lab p i) (lab p k)) = min (lab p i) (lab p k) := by
      rcases Nat.le_total (lab p i) (lab p k) with h | h
      · rw [Nat.min_eq_left h]; exact e1
      · rw [Nat.min_eq_right h]; exact e2
    have eb : lab p (max (lab p i) (lab p k)) = max (lab p i) (lab p k) := by
      rcases Nat.le_total (lab p i) (lab p k) with h | h
      · rw [Nat.max_eq_right h]; exact e2
      · rw [Nat.max_eq_left h]; exact e1
    unfold dbtOk
    rw [Bool.and_eq_true, Bool.and_eq_true, beq_iff_eq, beq_iff_eq]
    refine ⟨⟨ea, eb⟩, (dbtF_iff hp (by omega) (by omega)).2 ⟨h2, ?_⟩⟩
    rcases Nat.lt_or_gt_of_ne hne with h | h
    · exact ⟨i, k, hi, hk, by omega, by omega, h3⟩
    · exact ⟨k, i, hk, hi, by omega, by omega, by rw [agrP_comm]; exact h3⟩
  · rintro ⟨a, b, hab, hb, h, rfl⟩
    unfold dbtOk at h
    rw [Bool.and_eq_true, Bool.and_eq_true, beq_iff_eq, beq_iff_eq] at h
    obtain ⟨h2, m, n, hm, hn, h3, h4, h5⟩ := (dbtF_iff hp hab hb).1 h.2
    have hpr : prI p m n = (idAt p.ps a, idAt p.ps b) := (prI_lead hp.ps hm hn hab hb).2 (.inl ⟨h3, h4⟩)
    rcases Nat.lt_trichotomy m n with e | e | e
    · exact ⟨n, m, e, hn, by rw [prI_comm, hpr], by omega, by rw [prI_comm, hpr]; exact h2, by rw [agrP_comm]; exact h5⟩
    · subst e; omega
    · exact ⟨m, n, e, hm, hpr.symm, by omega, by rw [hpr]; exact h2, h5⟩
theorem dbts_sorted {p : Ppl} (hp : PplR p) : (dbtsF p).Pairwise prLt := by
  unfold dbtsF dbtsK
  rw [List.pairwise_flatMap]
  refine ⟨fun i hi => ?_, ?_⟩
  · unfold dbtRow
    rw [List.pairwise_map]
    refine List.Pairwise.imp_of_mem ?_ (List.Pairwise.filter _ List.pairwise_lt_range)
    intro a b ha hb hab
    have hb2 := List.mem_range.1 (List.mem_filter.1 hb).1
    exact .inr ⟨rfl, (hp.ps.idLt (by omega) hb2).2 hab⟩
  · refine List.Pairwise.imp_of_mem ?_ List.pairwise_lt_range
    intro a b ha hb hab x hx y hy
    have hb2 := List.mem_range.1 hb
    unfold dbtRow at hx hy
    obtain ⟨k, _, rfl⟩ := List.mem_map.1 hx
    obtain ⟨m, _, rfl⟩ := List.mem_map.1 hy
    exact .inl ((hp.ps.idLt (by omega) hb2).2 hab)
/-- sorted, what was found is what the reference has -/
theorem sort_dbts {p : Ppl} (hp : PplR p) {l : List (ByteArray × ByteArray)} (h : l.Perm (outI p p.ps.length)) (hs : l.Pairwise (fun x y => ¬ prLt y x)) : l = dbtsF p := by
  have hn : l.Nodup := h.nodup_iff.2 outI_nodup
  refine sorted_ext prLt_irr prLt_asym ?_ (dbts_sorted hp) (fun x => by rw [h.mem_iff, out_dbts hp])
  have h2 : l.Pairwise (fun x y => ¬ prLt y x ∧ x ≠ y) := List.Pairwise.and hs hn
  refine h2.imp ?_
  rintro x y ⟨h3, h4⟩
  by_cases h5 : prLt x y
  · exact h5
  · exact absurd (prLt_tri h5 h3) h4
end Go.Proofs.YtnpdekgmiphagaaGreatDoor
/- The contract of the reference's Doubts. -/
namespace Go.Proofs.YtnpdekgmiphagaaGreatDoor
open Go.RowKit Go.Dw Go.Maps

theorem info_pr : (Tryz.prog.info? 38).map (fun i => (i.zero, i.size, i.bytes)) = some (some (.agg #[.string ByteArray.empty, .string ByteArray.empty]), 2, 32) := by kernel_rfl
theorem nms_size {ns : List ByteArray} (h : nmsF ns = 0) : ∀ s ∈ ns, s.size ≤ 1048576 := by
  intro s hs
  obtain ⟨i, hi, rfl⟩ := List.getElem_of_mem hs
  unfold nmsF at h
  split at h
  · omega
  · split at h
    · omega
    · have h1 := firstNZ_zero h i hi
      unfold namF at h1
      rw [getD_at _ _ i hi] at h1
      split at h1
      · omega
      · rename_i h2
        have h3 : isLn ns[i] = true := by simpa using h2
        unfold isLn at h3
        split at h3
        · simp only [Bool.and_eq_true, decide_eq_true_eq] at h3
          omega
        · cases h3
/-- pairs, as they can be read -/
def RDbt (w : World) (p : Ppl) (f : Int) (e : Ending) (w' : World) : Prop :=
  ∃ (A : Option Addr) (c : Nat) (D : List (ByteArray × ByteArray)), e = .returned (.tuple #[.slice A D.length c, .int .i64 f]) ∧ Rd w' A (D.flatMap pcs) ∧ D = (if f = 0 then dbtsF p else []) ∧ Below w.heap.size w w'
theorem rdbt_bad {w w' : World} {p : Ppl} {f : Int} {e : Ending} (hf : f ≠ 0) (hb : Below w.heap.size w w') (he : e = .returned (.tuple #[.slice none 0 0, .int .i64 f])) : RDbt w p f e w' :=
  ⟨none, 0, [], he, .inl rfl, by rw [if_neg hf], hb⟩
theorem pcs_len (xs : List (ByteArray × ByteArray)) : (xs.flatMap pcs).length = xs.length * 2 := flat_len pcs 2 (fun _ => rfl) xs
theorem pcs_snoc (xs : List (ByteArray × ByteArray)) (a b : ByteArray) : (xs ++ [(a, b)]).flatMap pcs = xs.flatMap pcs ++ [.string a, .string b] := by rw [List.flatMap_append]; rfl
set_option maxRecDepth 100000 in
set_option maxHeartbeats 8000000 in
theorem dbtsR_any (x : Peo) (w : World) (h : PeoOk w x) (hmx : HasMax w) :
    Calls Tryz.prog 12 #[x.v] w (RDbt w x.x (peoF x.x)) := by
  have HOK := Lib.hid h
  have HCK := Lib.hid (fun (W : World) (hW : Below w.heap.size w W) => peopleR_any x W (h.below hW) (hmx.below hW))
  have HLD := Lib.hid (fun (W : World) (hW : Below w.heap.size w W) hcs hn hm => leaders_any x W (h.below hW) hcs hn hm)
  have HDB := Lib.hid (fun (W : World) A3 c3 i k (hW : Below w.heap.size w W) hcs hn hm hr hz => doubtR_any x A3 c3 i k W (h.below hW) hcs hn hm hr hz)
  obtain ⟨⟨A, c, L⟩, ⟨B, d, C⟩⟩ := x
  have hpl : L.length ≤ 9223372036854775807 := h.pl
  obtain ⟨p, hp⟩ : ∃ p : Ppl, p = Peo.x ⟨⟨A, c, L⟩, ⟨B, d, C⟩⟩ := ⟨_, rfl⟩
  have HPP : Hid (p.ps = L.map Psn.x) := by rw [hp]; rfl
  have HLN : Hid (p.ps.length = L.length) := by show _ = _; rw [HPP.out]; simp
  have HID : Hid (∀ k (hk : k < L.length), idAt p.ps k = L[k].id) := fun k hk => by
    rw [idAt_at (by rw [HLN.out]; exact hk)]
    simp only [HPP.out, List.getElem_map]; rfl
  rw [← hp] at HLD HCK HDB ⊢
  clear h hmx hp
  unfold Peo.v at *
  simp only [Slc.v] at *
  obtain ⟨w0, hw0⟩ : ∃ w0, w0 = w.alloc (.cells #[.slice A L.length c, .slice B C.length d] 25) := ⟨_, rfl⟩
  have HB0 : Hid (Below w.heap.size w w0) := by rw [hw0]; exact (Below.refl _ _).alloc (Nat.le_refl _) _
  have HX0 : Hid (w0.cell? ⟨w.heap.size, 0, none⟩ = some (.slice A L.length c) ∧ w0.cell? ⟨w.heap.size, 1, none⟩ = some (.slice B C.length d)) := by rw [hw0]; exact peoBox
  have hz0 : w.heap.size < w0.heap.size := by rw [hw0]; simp
  have HW0 := Lib.hid hw0
  have HPX : Hid (∀ W, Gq w0 W → Below w.heap.size w W ∧ W.cell? ⟨w.heap.size, 0, none⟩ = some (.slice A L.length c) ∧ W.cell? ⟨w.heap.size, 1, none⟩ = some (.slice B C.length d)) := fun W hW => by
    have hb : Below w.heap.size w W := HB0.out.trans (Below.mono hW HB0.out.size)
    exact ⟨hb, by rw [Below.cell hW (by exact hz0)]; exact HX0.out.1, by rw [Below.cell hW (by exact hz0)]; exact HX0.out.2⟩
  obtain ⟨_, z0, z1⟩ := HPX.out w0 (Gq.refl _)
  obtain ⟨pf, hpf⟩ : ∃ pf, peoF p = pf := ⟨_, rfl⟩
  have HPF := Lib.hid hpf
  simp only [hpf] at HCK
  rw [hpf]
  clear hw0 HX0 hpf
  have HC0 := Lib.hid (HCK.out w0 HB0.out)
  obtain ⟨ir, hir0, hir1, hir2, hir3⟩ := info_parts info_pr
  have HIR := Lib.hid (And.intro hir0 (And.intro hir1 (And.intro hir2 hir3)))
  clear hir0 hir1 hir2 hir3
  go_enter Tryz.func12, Tryz.ntmps12
  go_upto_region 1 with (fail)
  rw [← HW0.out]
  go_wp2_with fail
  refine HC0.out.mono ?_
  rintro e w1 ⟨rfl, hq1⟩
  have HG1 : Hid (Gq w0 w1) := hq1
  clear hq1 z0 z1
  obtain ⟨hbw1, z0, z1⟩ := HPX.out w1 HG1.out
  have HBW1 := Lib.hid hbw1
  clear hbw1
  by_cases hz : pf = 0
  case neg =>
    have hzb : (pf != 0) = true := by simpa using hz
    have HR := Lib.hid (fun e he => rdbt_bad (p := p) (e := e) hz HBW1.out he)
    clear hz
    go_wp2_with fail
    go_ret2
    exact HR.out _ rfl
  subst hz
  have HPR := Lib.hid (pplR_of HPF.out)
  have HM := Lib.hid (HLD.out w1 HBW1.out HPR.out.cs HPR.out.n HPR.out.m)
  have hn' : L.length ≤ 100 := by rw [← HLN.out]; exact HPR.out.n
  clear HC0
  go_wp2_with fail
  refine HM.out.mono ?_
  rintro e w3 ⟨A3, c3, rfl, hr3, hq3⟩
  rw [HLN.out] at hr3
  have HRL := Lib.hid hr3
  have HG3 : Hid (Gq w0 w3) := Below.trans HG1.out (hq3.mono (Below.size HG1.out))
  clear hr3 hq3 z0 z1
  have HBW3 := Lib.hid (HPX.out w3 HG3.out).1
  have HNZ : Hid (∀ y ∈ p.ps, ∀ s ∈ y.ns, s.size ≤ 1048576) := fun y hy s hs => by
    obtain ⟨i, hi, rfl⟩ := List.getElem_of_mem hy
    exact nms_size (HPR.out.ps.nms i hi) s hs
  rw [HLN.out]
  go_wp2_with fail
  go_loopw [6, 18] (fun ov qv wr => ∃ (q : Nat) (D : List (ByteArray × ByteArray)), q ≤ L.length ∧ qv = .int .i64 (q : Int) ∧ D.length ≤ q * 100 ∧ Hid (wr.ownsRow w3.heap.size 38 2 ov D.length (D.flatMap pcs)) ∧ Hid (D = dbtsK p q) ∧ Hid (Below w3.heap.size w3 wr)) (fun _ qv _ => L.length - (intOf qv).toNat)
  case atStart => exact ⟨0, [], by omega, rfl, by simp, World.ownsRow_nil _ _ _ _, rfl, Below.refl _ _⟩
  case round =>
    obtain ⟨q, D, hq, rfl, hDl, HO, HE, HB⟩ := hrel
    obtain ⟨Ao, co, rfl⟩ := slice_of_own HO.out
    obtain ⟨wo, hwo⟩ : ∃ wo, wo = wr := ⟨_, rfl⟩
    subst hwo
    by_cases hqn : q < L.length
    case neg =>
      have hqe : q = L.length := by omega
      have hd0 : decide (q < L.length) = false := by simpa using hqn
      have HP : Hid (RDbt w p 0 (.returned (.tuple #[.slice Ao D.length co, .int .i64 0])) wo) := ⟨Ao, co, D, rfl, Rd.of_own HO.out, by rw [HE.out, hqe, if_pos rfl, ← HLN.out]; rfl, HBW3.out.trans (HB.out.mono HBW3.out.size)⟩
      clear hqe
      go_wp2_with fail
      go_ret2
      exact HP.out
    have hd0 : decide (q < L.length) = true := by simpa using hqn
    obtain ⟨g, goff, rfl, hg, hgc⟩ := HRL.out.at_ (by rw [nc_len]; simp; omega)
    have HGC : Hid (∀ (W : World), Below w3.heap.size w3 W → ∀ i, i < L.length → W.cell? ⟨g, goff + i, none⟩ = some (.int .i64 ((lab p i : Nat) : Int))) := fun W hW i hi => by
      rw [hW.cell (by exact hg)]
      exact hgc i _ (by rw [nc_at _ _ (by simpa using hi)]; simp)
    clear hgc
    go_wp2_with fail
    go_loopw [6, 8] (fun ov kv wr => ∃ (k : Nat) (E : List (ByteArray × ByteArray)), q < k ∧ k ≤ L.length ∧ kv = .int .i64 (k : Int) ∧ E.length ≤ q * 100 + k ∧ Hid (wr.ownsRow w3.heap.size 38 2 ov E.length (E.flatMap pcs)) ∧ Hid (E = D ++ dbtRow p q k) ∧ Hid (Below w3.heap.size w3 wr)) (fun _ kv _ => L.length - (intOf kv).toNat)
    case atStart => exact ⟨q + 1, D, by omega, by omega, by go_num, by omega, HO, by show _ = _; rw [dbtRow_start, List.append_nil], HB⟩
    case round =>
      obtain ⟨k, E, hqk, hk, rfl, hEl, HOE, HEE, HBE⟩ := hrel
      obtain ⟨A4, c4, rfl⟩ := slice_of_own HOE.out
      have hszr := HBE.out.size
      by_cases hkl : k < L.length
      case neg =>
        have hke : k = L.length := by omega
        have hd1 : decide (k < L.length) = false := by simpa using hkl
        have HEF : Hid (E = dbtsK p (q + 1)) := by show _ = _; rw [HEE.out, dbtsK_succ, HE.out, hke, HLN.out]
        have hEl2 : E.length ≤ (q + 1) * 100 := by omega
        clear hke
        go_wp2_with fail
        go_roundw
        case rel => exact ⟨q + 1, E, by omega, by go_num, hEl2, HOE, HEF, HBE⟩
        case measure => simp [intOf]; omega
      have hd1 : decide (k < L.length) = true := by simpa using hkl
      have yq := HGC.out wr HBE.out q hqn
      have yk := HGC.out wr HBE.out k hkl
      have hG3r : Gq w0 wr := Below.trans HG3.out (Below.mono HBE.out (Below.size HG3.out))
      obtain ⟨hbr, z0, z1⟩ := HPX.out wr hG3r
      have hdc := HDB.out wr (some ⟨g, goff, none⟩) c3 q k hbr HPR.out.cs HPR.out.n HPR.out.m (by rw [HLN.out]; exact HRL.out.below HBE.out) HNZ.out
      rw [HLN.out] at hdc
      obtain ⟨b, off, hAB, hb, hcs⟩ := psn_at HOK.out.pr (by show 0 < L.length; omega)
      simp only at hAB hcs
      subst hAB
      have dq := (hcs q hqn).1
      have dk := (hcs k hkl).1
      have hbw : b < w.heap.size := hb
      have hrow := dbtRow_succ p q k hqk
      rw [HID.out q hqn, HID.out k hkl] at hrow
      unfold dbtOk at hrow
      have hie : ∀ a b : Nat, ((a : Int) == (b : Int)) = (a == b) := fun a b => by rw [Bool.eq_iff_iff]; simp only [beq_iff_eq]; omega
      have t1 := hie (lab p q) q
      have t2 := hie (lab p k) k
      obtain ⟨q1, hq1⟩ : ∃ v, (lab p q == q) = v := ⟨_, rfl⟩
      obtain ⟨q2, hq2⟩ : ∃ v, (lab p k == k) = v := ⟨_, rfl⟩
      obtain ⟨q3, hq3⟩ : ∃ v, dbtF p q k = v := ⟨_, rfl⟩
      rw [hq1] at t1
      rw [hq2] at t2
      rw [hq1, hq2, hq3] at hrow
      rw [hq3] at hdc
      have HROW := Lib.hid hrow
      have HDC := Lib.hid hdc
      clear hie hq1 hq2 hq3 hrow hdc hcs hbr
      generalize lab p q = lq at *
      generalize lab p k = lk at *
      obtain ⟨sq, hsq⟩ : ∃ s, L[q].id = s := ⟨_, rfl⟩
      obtain ⟨sk, hsk⟩ : ∃ s, L[k].id = s := ⟨_, rfl⟩
      rw [hsq] at dq HROW
      rw [hsk] at dk HROW
      clear hsq hsk
      have HCELL : Hid (∀ W, Below w3.heap.size w3 W → W.cell? ⟨w.heap.size, 0, none⟩ = some (.slice (some ⟨b, off, none⟩) L.length c) ∧ W.cell? ⟨b, off + q * 2, none⟩ = some (.string sq) ∧ W.cell? ⟨b, off + k * 2, none⟩ = some (.string sk) ∧ Below w3.heap.size w3 W) := fun W hW => by
        obtain ⟨h1, h2, _⟩ := HPX.out W (Below.trans HG3.out (Below.mono hW (Below.size HG3.out)))
        exact ⟨h2, by rw [Below.cell h1 (by exact hbw)]; exact dq, by rw [Below.cell h1 (by exact hbw)]; exact dk, hW⟩
      clear dq dk
      have q0 : (0 : Int) ≤ (q : Int) := by omega
      have ql : (q : Int) < (L.length : Int) := by omega
      have k0 : (0 : Int) ≤ (k : Int) := by omega
      have kl : (k : Int) < (L.length : Int) := by omega
      cases q1 with
      | false =>
        have HE2 : Hid (E = D ++ dbtRow p q (k + 1)) := by show _ = _; rw [HEE.out, HROW.out]; rfl
        go_wp2_with fail
        go_roundw
        case rel => exact ⟨k + 1, E, by omega, by omega, by go_num, by omega, HOE, HE2, HBE⟩
        case measure => simp [intOf]; omega
      | true =>
        cases q2 with
        | false =>
          have HE2 : Hid (E = D ++ dbtRow p q (k + 1)) := by show _ = _; rw [HEE.out, HROW.out]; rfl
          go_wp2_with fail
          go_roundw
          case rel => exact ⟨k + 1, E, by omega, by omega, by go_num, by omega, HOE, HE2, HBE⟩
          case measure => simp [intOf]; omega
        | true =>
          go_wp2_with fail
          refine HDC.out.mono ?_
          rintro e wD ⟨rfl, hqD⟩
          have HBD : Hid (Below w3.heap.size w3 wD) := HBE.out.trans (hqD.mono HBE.out.size)
          have HOD : Hid (wD.ownsRow w3.heap.size 38 2 (.slice A4 E.length c4) E.length (E.flatMap pcs)) := own_belowL HOE.out hqD
          clear hqD z0 z1 yq yk
          cases q3 with
          | false =>
            have HE2 : Hid (E = D ++ dbtRow p q (k + 1)) := by show _ = _; rw [HEE.out, HROW.out]; rfl
            go_wp2_with fail
            go_roundw
            case rel => exact ⟨k + 1, E, by omega, by omega, by go_num, by omega, HOD, HE2, HBD⟩
            case measure => simp [intOf]; omega
          | true =>
            have HE2 : Hid (E ++ [(sq, sk)] = D ++ dbtRow p q (k + 1)) := by show _ = _; rw [HEE.out, HROW.out]; simp
            have hszD := HBD.out.size
            have hEl3 : E.length ≤ 20000 := by omega
            have hBR := HBD.out
            have hBD2 : Below w3.heap.size w3 wD.drew := HBD.out.drew
            have HAP : Hid (∀ g2 cap2 w5, w5.ownsRow w3.heap.size 38 2 (.slice (some ⟨g2, 0, none⟩) (E.length + 1) cap2) (E.length + 1) (E.flatMap pcs ++ [.string sq, .string sk]) → (wD.alloc (.cells #[.string sq, .string sk] 38)).drew.grownBy w5 (Value.slice A4 E.length c4).ownBlock → Below w3.heap.size w3 w5) := fun g2 cap2 w5 _ hg => by
              refine Below.grown ((HBD.out.alloc hszD _).drew) hg ?_ (fun j hj => (HOD.out.lt j hj).1)
              show w3.heap.size ≤ (wD.alloc _).heap.size
              simp; omega
            go_upto_region 13 with (fail)
            have HOA : Hid ((wD.alloc (.cells #[.string sq, .string sk] 38)).drew.ownsRow w3.heap.size 38 2 (.slice A4 E.length c4) E.length (E.flatMap pcs)) := HOD.out.alloc _
            have HNW := Lib.hid (World.news_of_block (w := (wD.alloc (.cells #[.string sq, .string sk] 38)).drew) (B := wD.heap.size) (cs := #[.string sq, .string sk]) (t := 38) (fr := (0, 0)) (heap_alloc_new wD _))
            go_region_held3 (fun W => W.cell? ⟨w.heap.size, 0, none⟩ = some (.slice (some ⟨b, off, none⟩) L.length c) ∧ W.cell? ⟨b, off + q * 2, none⟩ = some (.string sq) ∧ W.cell? ⟨b, off + k * 2, none⟩ = some (.string sk) ∧ Below w3.heap.size w3 W)
              (first | exact HCELL.out _ hBD2 | exact HCELL.out _ hqB | exact HCELL.out _ (by exact (hBR.alloc hszD _).drew))
              (first | (refine step_append_lies _ (by rfl) _ _ _ (by rfl) w3.heap.size 38 ir _ 2 32 Tryz.underlying34 HIR.out.1 HIR.out.2.1 HIR.out.2.2.1 HIR.out.2.2.2 rfl (by omega) _ _ _ (by rfl) HOA.out ⟨wD.heap.size, 0, none⟩ 1 1 [.string sq, .string sk] (by rfl) (by rfl) HNW.out (by simp [Value.oneCell']) (by omega) (by unfold maxLen; omega) (by omega) (by show w3.heap.size ≤ (wD.alloc _).heap.size; simp; omega) (wD.heap.size + 1) (by show (wD.alloc _).heap.size = _; simp) ?_; intro g2 cap2 w5 hown2 hgrow2 hat2 hlt2; have hqB := HAP.out g2 cap2 w5 hown2 hgrow2))
            all_goals
              have HO5 : Hid (w5.ownsRow w3.heap.size 38 2 (.slice (some ⟨g2, 0, none⟩) (E ++ [(sq, sk)]).length cap2) (E ++ [(sq, sk)]).length ((E ++ [(sq, sk)]).flatMap pcs)) := by
                show World.ownsRow _ _ _ _ _ _ _
                rw [pcs_snoc, List.length_append]
                exact hown2
              have HB5 := Lib.hid hqB
              have hl5 : (E ++ [(sq, sk)]).length = E.length + 1 := by simp
              generalize E ++ [(sq, sk)] = E5 at *
              have HL5 := Lib.hid hl5
              have hl6 : E5.length ≤ q * 100 + (k + 1) := by omega
              clear hown2 hgrow2 hat2 hlt2 hqB hl5
              go_wp2_with fail
              go_roundw
              case rel => exact ⟨k + 1, E5, by omega, by omega, by go_num, hl6, by rw [← HL5.out]; exact HO5, HE2, HB5⟩
              case measure => simp [intOf]; omega
end Go.Proofs.YtnpdekgmiphagaaGreatDoor
/- The order of pairs as the program has it, and their sort. -/
namespace Go.Proofs.YtnpdekgmiphagaaGreatDoor
open Go.RowKit Go.Dw Go.Sort

def cfP (x y : ByteArray × ByteArray) : Int := orI (cmpS x.1 y.1) (cmpS x.2 y.2)
theorem cfP_lt {x y : ByteArray × ByteArray} : cfP x y < 0 ↔ prLt x y := by
  unfold cfP prLt orI
  by_cases h : cmpS x.1 y.1 = 0
  · rw [if_pos h]
    have he := cmpS_eq.1 h
    rw [cmpS_lt]
    constructor
    · intro h2; exact .inr ⟨he, h2⟩
    · rintro (h2 | h2)
      · rw [he] at h2; exact absurd h2 (sLt_irr _)
      · exact h2.2
  · rw [if_neg h, cmpS_lt]
    constructor
    · intro h2; exact .inl h2
    · rintro (h2 | h2)
      · exact h2
      · exact absurd (cmpS_eq.2 h2.1) h
theorem ltOf_cfP (x y : ByteArray × ByteArray) : ltOf cfP x y = true ↔ prLt x y := by
  unfold ltOf; rw [decide_eq_true_eq]; exact cfP_lt
theorem ltOf_cfP' (x y : ByteArray × ByteArray) : ltOf cfP x y = false ↔ ¬ prLt x y := by
  rw [← ltOf_cfP]; simp
theorem swoP : SWO (ltOf cfP) where
  irrefl x := (ltOf_cfP' x x).2 (prLt_irr x)
  trans x y z h1 h2 := by rw [ltOf_cfP] at *; exact prLt_trans h1 h2
  ntrans x y z h1 h2 := by
    rw [ltOf_cfP'] at *
    intro h3
    by_cases h4 : prLt y x
    · exact h2 (prLt_trans h4 h3)
    · rw [prLt_tri h1 h4] at h3; exact h2 h3
set_option maxRecDepth 100000 in
set_option maxHeartbeats 2000000 in
theorem cmpP_any (x y : ByteArray × ByteArray) (w : World) :
    Calls Tryz.prog 32 #[.agg #[.string x.1, .string x.2], .agg #[.string y.1, .string y.2]] w fun e w' => e = .returned (.int .i64 (cfP x y)) ∧ Grw w w' := by
  obtain ⟨a1, b1⟩ := x
  obtain ⟨a2, b2⟩ := y
  simp only
  have HCP1 := Lib.hid (fun W => compare_any a1 a2 W)
  have HCP2 := Lib.hid (fun W => compare_any b1 b2 W)
  obtain ⟨c1, hc1⟩ : ∃ v, cmpS a1 a2 = v := ⟨_, rfl⟩
  obtain ⟨c2, hc2⟩ : ∃ v, cmpS b1 b2 = v := ⟨_, rfl⟩
  simp only [hc1] at HCP1
  simp only [hc2] at HCP2
  have HR : Hid (cfP (a1, b1) (a2, b2) = orI c1 c2) := by show _ = _; unfold cfP; rw [← hc1, ← hc2]
  rw [HR.out]
  clear hc1 hc2 HR
  have HO : Hid (∀ (W : World) (b : Nat), W.cell? ⟨b, 0, none⟩ = some (.int .i64 c1) → W.cell? ⟨b, 1, none⟩ = some (.int .i64 c2) →
      Calls Tryz.prog 33 #[.slice (some ⟨b, 0, none⟩) 2 2] W fun e w' => e = .returned (.int .i64 (orI c1 c2)) ∧ W = w') := fun W b h0 h1 => or2_any b 2 c1 c2 W h0 h1
  generalize orI c1 c2 = r at *
  obtain ⟨w0, hw0⟩ : ∃ w0, w0 = (w.alloc (.cells #[.string a1, .string b1] 38)).alloc (.cells #[.string a2, .string b2] 38) := ⟨_, rfl⟩
  have HG0 : Hid (Grw w w0) := by rw [hw0]; exact ((Grw.refl _).alloc _).alloc _
  have hz : w0.heap.size = w.heap.size + 2 := by rw [hw0]; simp
  have HS : Hid (∀ W, Gr w0 W → W.cell? ⟨w.heap.size, 0, none⟩ = some (.string a1) ∧ W.cell? ⟨w.heap.size, 1, none⟩ = some (.string b1) ∧ W.cell? ⟨w.heap.size + 1, 0, none⟩ = some (.string a2) ∧ W.cell? ⟨w.heap.size + 1, 1, none⟩ = some (.string b2) ∧ Gr w0 W) := fun W hW => by
    have hb := Grw.below hW
    have e1 : ∀ i : Nat, W.cell? ⟨w.heap.size, i, none⟩ = w0.cell? ⟨w.heap.size, i, none⟩ := fun i => hb.cell (by show w.heap.size < _; omega)
    have e2 : ∀ i : Nat, W.cell? ⟨w.heap.size + 1, i, none⟩ = w0.cell? ⟨w.heap.size + 1, i, none⟩ := fun i => hb.cell (by show w.heap.size + 1 < _; omega)
    rw [e1, e1, e2, e2, hw0]
    have f1 : ∀ i : Nat, ((w.alloc (.cells #[.string a1, .string b1] 38)).alloc (.cells #[.string a2, .string b2] 38)).cell? ⟨w.heap.size, i, none⟩ = (w.alloc (.cells #[.string a1, .string b1] 38)).cell? ⟨w.heap.size, i, none⟩ := fun i => World.cell?_alloc_past _ _ _ (by simp)
    rw [f1, f1]
    exact ⟨new_cell (cs := [_, _]) rfl rfl, new_cell (cs := [_, _]) rfl rfl, new_cell (cs := [_, _]) (by simp) rfl, new_cell (cs := [_, _]) (by simp) rfl, by rw [← hw0]; exact hW⟩
  have hBR : Gr w0 w0 := Grw.refl _
  have hBD : Gr w0 w0.drew := (Grw.refl _).drew
  have HW0 := Lib.hid hw0
  clear hw0 hz
  go_enter Tryz.func32, Tryz.ntmps32
  go_wp2_with fail
  rw [← HW0.out]
  go_region_held3 (fun W => W.cell? ⟨w.heap.size, 0, none⟩ = some (.string a1) ∧ W.cell? ⟨w.heap.size, 1, none⟩ = some (.string b1) ∧ W.cell? ⟨w.heap.size + 1, 0, none⟩ = some (.string a2) ∧ W.cell? ⟨w.heap.size + 1, 1, none⟩ = some (.string b2) ∧ Gr w0 W)
    (first | exact HS.out _ hBD | exact HS.out _ hBR | exact HS.out _ (Grw.alloc hBD _) | exact HS.out _ (Grw.alloc hBR _) | exact HS.out _ (Grw.drew (Grw.alloc hBR _)))
    (first | (go_at_call 34; with_reducible refine (HCP1.out _).mono ?_; rintro e w' ⟨rfl, rfl⟩) | (go_at_call 34; with_reducible refine (HCP2.out _).mono ?_; rintro e w' ⟨rfl, rfl⟩) | (go_at_call 33; refine (HO.out _ _ (by simp <;> exact new_cell (cs := [_, _]) (by simp) rfl) (by simp <;> exact new_cell (cs := [_, _]) (by simp) rfl)).mono ?_; rintro e w' ⟨rfl, rfl⟩))
  all_goals
    go_wp2_with fail
    go_ret
    exact ⟨rfl, Grw.trans HG0.out (by first | exact (Grw.alloc hBR _) | exact (Grw.alloc hBR _).drew | exact (Grw.alloc hBD _))⟩
theorem cmpLaysP (g off size : Nat) (w : World) : CmpLays Tryz.prog 32 #[] pcs 2 cfP g off size w :=
  fun _ _ _ _ x y => cmpP_any x y _
def SrtP (w : World) (B : Nat) (A : Option Addr) (l : List (ByteArray × ByteArray)) (e : Ending) (w' : World) : Prop := e = .returned (.tuple #[]) ∧ Srt (ltOf cfP) pcs w B A l w'
theorem sortP_any (B base : Nat) (A : Option Addr) (n c : Nat) (l : List (ByteArray × ByteArray)) (w : World) (hB : B ≤ base) (hown : w.ownsRow base 38 2 (.slice A n c) n (l.flatMap pcs)) (hn : l.length = n) (hm : n < 4611686018427387904) :
    Calls Tryz.prog 31 #[.slice A n c, .func (.func 32) #[] #[]] w (SrtP w B A l) := by
  have eg : ∀ args w, (callFunc 32 args).run Tryz.prog w = .ok (.enter 32 args) w := enters_of Tryz.func32 (by kernel_rfl) rfl
  by_cases h0 : n = 0
  · subst h0
    have : l = [] := List.eq_nil_of_length_eq_zero hn
    subst this
    exact (AnyF.slices_SortFunc_none Tryz.sortPr A c _ w).mono fun e w' ⟨h1, h2⟩ => ⟨h1, [], List.Perm.refl _, by simp, .inl rfl, by rw [h2]; exact Below.refl _ _⟩
  · rcases hown.2 with ⟨h1, h2⟩ | ⟨g, cap, cur, hv, hb, hg, _⟩
    · exact absurd h2 h0
    · injection hv with e1 e2 e3
      subst e1
      have hH := holdsK_of_own (enc := pcs) (fun _ => rfl) hown hn
      have hgs : g < w.heap.size := (Array.getElem?_eq_some_iff.1 hg).1
      have hs : l.toArray.size = n := by simpa using hn
      have hcon := AnyQ.slices_SortFunc Tryz.sortPr 2 Tryz.isAgg38 Tryz.sizeOf38 pcs (fun _ => rfl) (fun x v hv => by simp [pcs] at hv; rcases hv with rfl | rfl <;> rfl) cfP swoP 32 #[] g 0 c l.toArray w eg (cmpLaysP g 0 _ w) hH hgs (by omega)
      rw [hs] at hcon
      refine hcon.mono fun e w' ⟨h1, d', m, os, hp, hs2, hw⟩ => ⟨h1, ?_⟩
      rw [hw]
      exact srt_of (fun _ => rfl) hgs (Nat.le_trans hB hb) hH (by rw [hs]; exact hp) (by rw [hs]; exact hs2)
/-- the sorted pairs are the reference's -/
theorem srt_dbts {p : Ppl} (hp : PplR p) {l' : List (ByteArray × ByteArray)} (h : l'.Perm (outI p p.ps.length)) (hs : l'.Pairwise (fun x y => ltOf cfP y x = false)) : l' = dbtsF p :=
  sort_dbts hp h (hs.imp fun h => (ltOf_cfP' _ _).1 h)
end Go.Proofs.YtnpdekgmiphagaaGreatDoor
/- Words for the program's Doubts: its maps as functions, names as rows of words, its closures. -/
namespace Go.Proofs.YtnpdekgmiphagaaGreatDoor
open Go.RowKit Go.Dw Go.Maps

theorem laidOutP : laidOutB Tryz.prog = true := by kernel_rfl
theorem rowPr : (38 : TypeId) < Tryz.prog.types.size := of_decide_eq_true (by kernel_rfl)
theorem widePr : (match Tryz.prog.underlying 38 with | some (.array _ _) | some (.struct _) => true | _ => false) = true := by kernel_rfl
set_option maxRecDepth 100000 in
theorem prKeyed : Keyed Tryz.prog 38 := Keyed.of_law (deep_law_laid laidOutP (m := 2) (by omega) rowPr (by kernel_rfl) widePr)
def pv (x : ByteArray × ByteArray) : Value := .agg #[.string x.1, .string x.2]
theorem zeroBoolP : ∀ w, (zeroValue 4).run Tryz.prog w = .ok (.bool false) w := fun w => Tryz.zeroValue4 w
theorem keyPr (x : ByteArray × ByteArray) (h1 : x.1.size ≤ 9223372036854775807) (h2 : x.2.size ≤ 9223372036854775807) : ∃ kl, keyOf Tryz.prog 38 (pv x) = some kl := by
  have hkt : Tryz.prog.keyType 38 = true := by kernel_rfl
  have hc : Tryz.prog.cellsOf 38 = 2 := by kernel_rfl
  have hc9 : Tryz.prog.cellsOf 9 = 1 := by kernel_rfl
  have hrow : (38 : Nat) < Tryz.prog.types.size := rowPr
  obtain ⟨d, hd⟩ : ∃ d, Tryz.prog.types.size + 1 = d + 1 + 1 := ⟨Tryz.prog.types.size - 1, by omega⟩
  have h1' : x.1.size ≤ maxLen := by unfold maxLen; exact h1
  have h2' : x.2.size ≤ maxLen := by unfold maxLen; exact h2
  unfold keyOf
  rw [Tryz.underlying38]
  simp only [hkt, hd]
  rw [if_pos (by simp [Value.formed, Tryz.underlying38, hc, pv])]
  unfold Program.keyLits
  simp only [Tryz.underlying38, pv, Value.cells, hc, hc9]
  rw [if_pos (by rfl), show List.range 2 = [0, 1] from rfl, List.mapM_cons, List.mapM_cons, List.mapM_nil]
  simp [Program.keyLits, Tryz.underlying9, h1', h2']
def keyP (v : Value) : Option (ByteArray × ByteArray) := match v with
  | .agg a => match a.toList with
    | [.string r, .string p] => some (r, p)
    | _ => none
  | _ => none
theorem keyP_inv {v : Value} {x : ByteArray × ByteArray} (h : keyP v = some x) : v = pv x := by
  unfold keyP at h
  split at h
  · rename_i a
    split at h
    · rename_i r' p' he
      simp only [Option.some.injEq] at h
      subst h
      unfold pv
      congr 1
      apply Array.ext'
      rw [he]
    · cases h
  · cases h
/-- a set of pairs as a map's elements -/
def setF (f : ByteArray × ByteArray → Bool) (key : Value) : Option Value := match keyP key with
  | some x => if f x = true then some (Value.bool true) else none
  | none => none
theorem setF_at (f : ByteArray × ByteArray → Bool) (x : ByteArray × ByteArray) : setF f (pv x) = if f x = true then some (Value.bool true) else none := rfl
theorem setF_get (f : ByteArray × ByteArray → Bool) (x : ByteArray × ByteArray) : (setF f (pv x)).getD (.bool false) = .bool (f x) := by
  rw [setF_at]; cases f x <;> rfl
theorem setF_none {f : ByteArray × ByteArray → Bool} (h : ∀ x, f x = false) : setF f = fun _ => none := by
  funext v
  unfold setF
  cases keyP v with
  | none => rfl
  | some x => simp [h x]
theorem setF_congr {f g : ByteArray × ByteArray → Bool} (h : ∀ x, f x = g x) : setF f = setF g := by
  have : f = g := funext h
  rw [this]
theorem setF_put {f g : ByteArray × ByteArray → Bool} {x : ByteArray × ByteArray} (h : ∀ y, g y = (f y || decide (x = y))) : setF g (pv x) = some (.bool true) ∧ ∀ v, v ≠ pv x → setF g v = setF f v := by
  refine ⟨by rw [setF_at, h, if_pos (by simp)], fun v hv => ?_⟩
  unfold setF
  cases hk : keyP v with
  | none => rfl
  | some y =>
    have hne : ¬ x = y := fun e => hv (by rw [e]; exact keyP_inv hk)
    simp only [h y, hne, decide_false, Bool.or_false]
theorem twoP_zero (p : Ppl) (x : ByteArray × ByteArray) : twoP p 0 x = false := rfl
theorem twoP_succ (p : Ppl) {k : Nat} (hk : k < p.cs.length) (x : ByteArray × ByteArray) : twoP p (k + 1) x = (twoP p k x || twoC p x p.cs[k]) := by
  unfold twoP
  rw [List.take_succ_eq_append_getElem hk, List.any_append]
  simp
theorem memQ_snoc (D : List (ByteArray × ByteArray)) (x y : ByteArray × ByteArray) : memQ (D ++ [x]) y = (memQ D y || decide (x = y)) := by
  unfold memQ; rw [List.any_append]; simp
/-- words, and names as words, in blocks that meet S -/
def WdS (S : Nat → Prop) (w : World) (v : Value) (ws : List (List UInt8)) : Prop := ∃ A c, v = .slice A ws.length c ∧ RdS S w A (sc ws)
def NmS (S : Nat → Prop) (w : World) (v : Value) (l : List (List (List UInt8))) : Prop := ∃ A c, ∃ hs : List Value, v = .slice A l.length c ∧ hs.length = l.length ∧ RdS S w A hs ∧ ∀ i (h1 : i < hs.length) (h2 : i < l.length), WdS S w hs[i] l[i]
theorem WdS.same {S : Nat → Prop} {w w' : World} {v : Value} {ws : List (List UInt8)} (h : WdS S w v ws) (hs : Same S w w') : WdS S w' v ws := by
  obtain ⟨A, c, e, h⟩ := h
  exact ⟨A, c, e, h.same hs⟩
theorem WdS.mono {S S' : Nat → Prop} {w : World} {v : Value} {ws : List (List UInt8)} (h : WdS S w v ws) (hs : ∀ b, b < w.heap.size → S b → S' b) : WdS S' w v ws := by
  obtain ⟨A, c, e, h⟩ := h
  exact ⟨A, c, e, h.mono hs⟩
theorem NmS.same {S : Nat → Prop} {w w' : World} {v : Value} {l : List (List (List UInt8))} (h : NmS S w v l) (hs : Same S w w') : NmS S w' v l := by
  obtain ⟨A, c, hh, e, h1, h2, h3⟩ := h
  exact ⟨A, c, hh, e, h1, h2.same hs, fun i a b => (h3 i a b).same hs⟩
theorem NmS.mono {S S' : Nat → Prop} {w : World} {v : Value} {l : List (List (List UInt8))} (h : NmS S w v l) (hs : ∀ b, b < w.heap.size → S b → S' b) : NmS S' w v l := by
  obtain ⟨A, c, hh, e, h1, h2, h3⟩ := h
  exact ⟨A, c, hh, e, h1, h2.mono hs, fun i a b => (h3 i a b).mono hs⟩
def wdN (s : ByteArray) : List (List UInt8) := wordsP s.data.toList
def wdNs (ns : List ByteArray) : List (List (List UInt8)) := ns.map wdN
/-- the first of range n -/
def fsB (pr : Nat → Bool) (n : Nat) : Nat := (List.range n).findIdx pr
theorem fsB_at {pr : Nat → Bool} {n k : Nat} (hk : k < n) (hb : ∀ j, j < k → pr j = false) (h : pr k = true) : fsB pr n = k := by
  unfold fsB
  exact find_at (L := List.range n) (by simpa using hk) (fun j hj => by rw [List.getElem_range]; exact hb j hj) (by rw [List.getElem_range]; exact h)
theorem fsB_no {pr : Nat → Bool} {n : Nat} (hb : ∀ j, j < n → pr j = false) : fsB pr n = n := by
  have := find_no (p := pr) (L := List.range n) (fun j hj => by rw [List.getElem_range]; exact hb j (by simpa using hj))
  unfold fsB; rw [this]; simp
theorem fsB_any (pr : Nat → Bool) (n : Nat) : decide (fsB pr n < n) = (List.range n).any pr := by
  rw [Bool.eq_iff_iff, decide_eq_true_iff]
  unfold fsB
  rw [List.any_eq_true]
  have := List.findIdx_lt_length (p := pr) (xs := List.range n)
  rw [List.length_range] at this
  exact this
set_option maxRecDepth 100000 in
set_option maxHeartbeats 1000000 in
theorem dbt11_any (tv : Value) (sb : Nat) (s t : List (List UInt8)) (w : World) (hs : ∃ sv, w.cell? ⟨sb, 0, none⟩ = some sv ∧ WdS (fun _ => True) w sv s) (ht : WdS (fun _ => True) w tv t)
    (hls : s.length ≤ 9223372036854775807) (hss : ∀ x ∈ s, x.length ≤ 1048576) (hst : ∀ x ∈ t, x.length ≤ 1048576) :
    Calls Tryz.prog 29 #[tv, .pointer (some ⟨sb, 0, none⟩)] w fun e w' => e = .returned (.bool (agreeW s t)) ∧ Below w.heap.size w w' := by
  obtain ⟨sv, hc, A, c, rfl, hrs⟩ := hs
  obtain ⟨B, d, rfl, hrt⟩ := ht
  have HAG := Lib.hid (agree_any A B c d s t w hrs.rd hrt.rd hls hss hst)
  obtain ⟨r, hr⟩ : ∃ r, agreeW s t = r := ⟨_, rfl⟩
  rw [hr] at HAG ⊢
  clear hr hrs hrt
  go_enter Tryz.func29, Tryz.ntmps29
  go_wp2_with fail
  refine HAG.out.mono ?_
  rintro e w1 ⟨rfl, rfl⟩
  go_wp2_with fail
  go_ret
  exact ⟨rfl, Below.refl _ _⟩
set_option maxRecDepth 100000 in
set_option maxHeartbeats 1000000 in
theorem idxWT_any (A : Option Addr) (c : Nat) (hs : List Value) (pr : Nat → Bool) (sb : Nat) (w : World) (h : Rd w A hs) (hn : hs.length ≤ 9223372036854775807)
    (hcl : ∀ k (hk : k < hs.length) W, Below w.heap.size w W → Calls Tryz.prog 29 #[hs[k], .pointer (some ⟨sb, 0, none⟩)] W fun e w' => e = .returned (.bool (pr k)) ∧ Below W.heap.size W w') :
    Calls Tryz.prog 45 #[.slice A hs.length c, .func (.func 29) #[] #[.pointer (some ⟨sb, 0, none⟩)]] w fun e w' => e = .returned (.int .i64 (idxI (fsB pr hs.length) hs.length)) ∧ Below w.heap.size w w' := by
  have HR := Lib.hid h
  have HCL := Lib.hid hcl
  clear h hcl
  obtain ⟨ix, hix⟩ : ∃ ix, fsB pr hs.length = ix := ⟨_, rfl⟩
  have HIX := Lib.hid hix
  rw [hix]
  clear hix
  go_enter Tryz.func45, Tryz.ntmps45
  go_wp2_with fail
  go_loopw [8] (fun kv wr => ∃ k : Nat, k ≤ hs.length ∧ kv = .int .i64 (k : Int) ∧ Hid (∀ j, j < k → pr j = false) ∧ Hid (Below w.heap.size w wr)) (fun kv _ => hs.length - (intOf kv).toNat)
  case atStart => exact ⟨0, Nat.zero_le _, rfl, by intro j hj0; omega, Below.refl _ _⟩
  case round =>
    obtain ⟨k, hk, rfl, HALL, HB⟩ := hrel
    by_cases hkl : k < hs.length
    case neg =>
      have hd1 : decide (k < hs.length) = false := by simpa using hkl
      have HE : Hid (idxI ix hs.length = -1) := by
        show _ = _
        rw [← HIX.out, fsB_no (fun j hj => HALL.out j (by omega))]
        unfold idxI; rw [if_neg (by omega)]
      go_wp2_with fail
      go_ret
      exact ⟨ret_int HE.out.symm, HB.out⟩
    have hd1 : decide (k < hs.length) = true := by simpa using hkl
    obtain ⟨b, off, rfl, hb, hcs⟩ := HR.out.at_ (by omega)
    have d0 := hcs k hs[k] (List.getElem?_eq_getElem hkl)
    rw [← HB.out.cell (by exact hb)] at d0
    have HC := Lib.hid (HCL.out k hkl wr HB.out)
    have HTR : Hid (pr k = true → idxI ix hs.length = (k : Int)) := fun ht => by
      rw [← HIX.out, fsB_at hkl HALL.out ht]
      unfold idxI; rw [if_pos hkl]
    have HFL : Hid (pr k = false → ∀ j, j < k + 1 → pr j = false) := fun hf j hj1 => by
      by_cases e : j = k
      · subst e; exact hf
      · exact HALL.out j (by omega)
    clear hcs
    obtain ⟨bv, hbv⟩ : ∃ bv, pr k = bv := ⟨_, rfl⟩
    rw [hbv] at HC HTR HFL
    clear hbv
    generalize hs[k] = x at *
    go_wp2_with fail
    refine HC.out.mono ?_
    rintro e w1 ⟨rfl, hb1⟩
    have HB1 := Lib.hid (HB.out.trans (hb1.mono HB.out.size))
    clear hb1 d0
    cases bv with
    | true =>
      have HE := Lib.hid (HTR.out (by first | rfl | trivial))
      go_wp2_with fail
      go_ret
      exact ⟨ret_int HE.out.symm, HB1.out⟩
    | false =>
      have HN := Lib.hid (HFL.out (by first | rfl | trivial))
      go_wp2_with fail
      go_roundw
      case rel => exact ⟨k + 1, by omega, by go_num, HN, HB1⟩
      case measure => simp [intOf]; omega
set_option maxHeartbeats 1000000 in
theorem cfWT_any (A : Option Addr) (c : Nat) (hs : List Value) (pr : Nat → Bool) (sb : Nat) (w : World) (h : Rd w A hs) (hn : hs.length ≤ 9223372036854775807)
    (hcl : ∀ k (hk : k < hs.length) W, Below w.heap.size w W → Calls Tryz.prog 29 #[hs[k], .pointer (some ⟨sb, 0, none⟩)] W fun e w' => e = .returned (.bool (pr k)) ∧ Below W.heap.size W w') :
    Calls Tryz.prog 27 #[.slice A hs.length c, .func (.func 29) #[] #[.pointer (some ⟨sb, 0, none⟩)]] w fun e w' => e = .returned (.bool ((List.range hs.length).any pr)) ∧ Below w.heap.size w w' := by
  have HI := Lib.hid (idxWT_any A c hs pr sb w h hn hcl)
  rw [← fsB_any]
  clear h hcl
  generalize fsB pr hs.length = ix at *
  rcases hasV ix hs.length with ⟨e1, e2⟩ | ⟨e1, e2⟩
  · rw [e1] at HI
    have HE : Hid (decide (ix < hs.length) = true) := by show _ = _; simpa using e2
    have hz : (0 : Int) ≤ (ix : Int) := by omega
    clear e1 e2
    go_enter Tryz.func27, Tryz.ntmps27
    go_wp2_with fail
    refine HI.out.mono ?_
    rintro e w1 ⟨rfl, hb1⟩
    have HB1 := Lib.hid hb1
    clear hb1
    go_wp2_with fail
    go_ret
    exact ⟨ret_bool (by rw [HE.out]), HB1.out⟩
  · rw [e1] at HI
    have HE : Hid (decide (ix < hs.length) = false) := by show _ = _; simpa using e2
    clear e1 e2
    go_enter Tryz.func27, Tryz.ntmps27
    go_wp2_with fail
    refine HI.out.mono ?_
    rintro e w1 ⟨rfl, hb1⟩
    have HB1 := Lib.hid hb1
    clear hb1
    go_wp2_with fail
    go_ret
    exact ⟨ret_bool HE.out.symm, HB1.out⟩
/-- some name agrees with the words s -/
def agW (s : List (List UInt8)) (l : List (List (List UInt8))) : Bool := l.any fun t => agreeW s t
theorem any_range {α : Type} (l : List α) (f : α → Bool) (d : α) : (List.range l.length).any (fun k => f (l.getD k d)) = l.any f := by
  rw [Bool.eq_iff_iff, List.any_eq_true, List.any_eq_true]
  constructor
  · rintro ⟨k, hk, h⟩
    have hk2 := List.mem_range.1 hk
    rw [getD_atW _ _ _ hk2] at h
    exact ⟨_, List.getElem_mem hk2, h⟩
  · rintro ⟨x, hx, h⟩
    obtain ⟨k, hk, rfl⟩ := List.getElem_of_mem hx
    exact ⟨k, List.mem_range.2 hk, by rw [getD_atW _ _ _ hk]; exact h⟩
def AllS (w : World) (gA n : Nat) (ls : List (List (List (List UInt8)))) : Prop := ls.length = n ∧ ∀ k (hk : k < ls.length), ∃ hv, w.cell? ⟨gA, k, none⟩ = some hv ∧ NmS (fun _ => True) w hv ls[k]
theorem AllS.below {w w' : World} {gA n : Nat} {ls : List (List (List (List UInt8)))} (h : AllS w gA n ls) (hg : gA < w.heap.size) (hb : Below w.heap.size w w') : AllS w' gA n ls :=
  ⟨h.1, fun k hk => by
    obtain ⟨hv, h1, h2⟩ := h.2 k hk
    exact ⟨hv, by rw [hb.cell (by exact hg)]; exact h1, h2.same (Same.of_below hb)⟩⟩
set_option maxRecDepth 100000 in
set_option maxHeartbeats 1000000 in
theorem dbt1_any (sv : Value) (s : List (List UInt8)) (ab kb gA n cA k : Nat) (ls : List (List (List (List UInt8)))) (w : World) (hs : WdS (fun _ => True) w sv s) (hab : w.cell? ⟨ab, 0, none⟩ = some (.slice (some ⟨gA, 0, none⟩) n cA)) (hkb : w.cell? ⟨kb, 0, none⟩ = some (.int .i64 (k : Int)))
    (hal : AllS w gA n ls) (hk : k < n) (hn : n ≤ 100) (hls : s.length ≤ 9223372036854775807) (hss : ∀ x ∈ s, x.length ≤ 1048576) (hst : ∀ l ∈ ls, l.length ≤ 100 ∧ ∀ t ∈ l, ∀ x ∈ t, x.length ≤ 1048576) :
    Calls Tryz.prog 28 #[sv, .pointer (some ⟨ab, 0, none⟩), .pointer (some ⟨kb, 0, none⟩)] w fun e w' => e = .returned (.bool (agW s (ls.getD k []))) ∧ Below w.heap.size w w' := by
  obtain ⟨svA, svc, rfl, hsr⟩ := hs
  obtain ⟨w1, hw1⟩ : ∃ w1, w1 = w.alloc (.cells #[.slice svA s.length svc] 44) := ⟨_, rfl⟩
  have HB1 : Hid (Below w.heap.size w w1) := by rw [hw1]; exact (Below.refl _ _).alloc (Nat.le_refl _) _
  have hkl : k < ls.length := by rw [hal.1]; exact hk
  obtain ⟨hv, hc, hnm⟩ := hal.2 k hkl
  rw [getD_atW _ _ _ hkl]
  have hst2 := hst ls[k] (List.getElem_mem hkl)
  generalize ls[k] = l at *
  obtain ⟨B, d, hh, rfl, hhl, hrd, hw⟩ := hnm
  have ca := World.block_lt_of_cell? w _ hab
  have ck := World.block_lt_of_cell? w _ hkb
  have cg := World.block_lt_of_cell? w _ hc
  simp only at ca ck cg
  have HSB : Hid (w1.cell? ⟨w.heap.size, 0, none⟩ = some (.slice svA s.length svc)) := by rw [hw1]; exact new_cell (cs := [_]) rfl rfl
  rw [← HB1.out.cell (by exact ca)] at hab
  rw [← HB1.out.cell (by exact ck)] at hkb
  rw [← HB1.out.cell (by exact cg)] at hc
  have HCF := Lib.hid (cfWT_any B d hh (fun i => agreeW s (l.getD i [])) w.heap.size w1 (hrd.rd.below HB1.out) (by omega) (fun i hi W hW => by
    have hil : i < l.length := by omega
    have hx := dbt11_any hh[i] w.heap.size s l[i] W ⟨.slice svA s.length svc, by rw [hW.cell (by rw [hw1]; simp)]; exact HSB.out, svA, svc, rfl, hsr.same (Same.of_below (HB1.out.trans (hW.mono HB1.out.size)))⟩ ((hw i hi hil).same (Same.of_below (HB1.out.trans (hW.mono HB1.out.size)))) hls hss (hst2.2 _ (List.getElem_mem hil))
    simp only [getD_atW _ _ _ hil]
    exact hx))
  rw [hhl, any_range l (fun t => agreeW s t) []] at HCF
  obtain ⟨r, hr⟩ : ∃ r, agW s l = r := ⟨_, rfl⟩
  have hr2 := hr
  unfold agW at hr
  rw [hr] at HCF
  rw [hr2]
  have HW1 := Lib.hid hw1
  have k0 : (0 : Int) ≤ (k : Int) := by omega
  have k1 : (k : Int) < (n : Int) := by omega
  clear hr hr2 hw1 hw hrd hst hst2 hal hsr
  go_enter Tryz.func28, Tryz.ntmps28
  go_upto_region 1 with (fail)
  rw [← HW1.out]
  go_wp2_with fail
  refine HCF.out.mono ?_
  rintro e w2 ⟨rfl, hq2⟩
  have HB2 := Lib.hid (HB1.out.trans (hq2.mono HB1.out.size))
  clear hq2
  go_wp2_with fail
  go_ret
  exact ⟨rfl, HB2.out⟩
set_option maxRecDepth 100000 in
set_option maxHeartbeats 1000000 in
theorem idxWS_any (A : Option Addr) (c : Nat) (hs : List Value) (pr : Nat → Bool) (ab kb : Nat) (w : World) (h : Rd w A hs) (hn : hs.length ≤ 9223372036854775807)
    (hcl : ∀ k (hk : k < hs.length) W, Below w.heap.size w W → Calls Tryz.prog 28 #[hs[k], .pointer (some ⟨ab, 0, none⟩), .pointer (some ⟨kb, 0, none⟩)] W fun e w' => e = .returned (.bool (pr k)) ∧ Below W.heap.size W w') :
    Calls Tryz.prog 45 #[.slice A hs.length c, .func (.func 28) #[] #[.pointer (some ⟨ab, 0, none⟩), .pointer (some ⟨kb, 0, none⟩)]] w fun e w' => e = .returned (.int .i64 (idxI (fsB pr hs.length) hs.length)) ∧ Below w.heap.size w w' := by
  have HR := Lib.hid h
  have HCL := Lib.hid hcl
  clear h hcl
  obtain ⟨ix, hix⟩ : ∃ ix, fsB pr hs.length = ix := ⟨_, rfl⟩
  have HIX := Lib.hid hix
  rw [hix]
  clear hix
  go_enter Tryz.func45, Tryz.ntmps45
  go_wp2_with fail
  go_loopw [8] (fun kv wr => ∃ k : Nat, k ≤ hs.length ∧ kv = .int .i64 (k : Int) ∧ Hid (∀ j, j < k → pr j = false) ∧ Hid (Below w.heap.size w wr)) (fun kv _ => hs.length - (intOf kv).toNat)
  case atStart => exact ⟨0, Nat.zero_le _, rfl, by intro j hj0; omega, Below.refl _ _⟩
  case round =>
    obtain ⟨k, hk, rfl, HALL, HB⟩ := hrel
    by_cases hkl : k < hs.length
    case neg =>
      have hd1 : decide (k < hs.length) = false := by simpa using hkl
      have HE : Hid (idxI ix hs.length = -1) := by
        show _ = _
        rw [← HIX.out, fsB_no (fun j hj => HALL.out j (by omega))]
        unfold idxI; rw [if_neg (by omega)]
      go_wp2_with fail
      go_ret
      exact ⟨ret_int HE.out.symm, HB.out⟩
    have hd1 : decide (k < hs.length) = true := by simpa using hkl
    obtain ⟨b, off, rfl, hb, hcs⟩ := HR.out.at_ (by omega)
    have d0 := hcs k hs[k] (List.getElem?_eq_getElem hkl)
    rw [← HB.out.cell (by exact hb)] at d0
    have HC := Lib.hid (HCL.out k hkl wr HB.out)
    have HTR : Hid (pr k = true → idxI ix hs.length = (k : Int)) := fun ht => by
      rw [← HIX.out, fsB_at hkl HALL.out ht]
      unfold idxI; rw [if_pos hkl]
    have HFL : Hid (pr k = false → ∀ j, j < k + 1 → pr j = false) := fun hf j hj1 => by
      by_cases e : j = k
      · subst e; exact hf
      · exact HALL.out j (by omega)
    clear hcs
    obtain ⟨bv, hbv⟩ : ∃ bv, pr k = bv := ⟨_, rfl⟩
    rw [hbv] at HC HTR HFL
    clear hbv
    generalize hs[k] = x at *
    go_wp2_with fail
    refine HC.out.mono ?_
    rintro e w1 ⟨rfl, hb1⟩
    have HB1 := Lib.hid (HB.out.trans (hb1.mono HB.out.size))
    clear hb1 d0
    cases bv with
    | true =>
      have HE := Lib.hid (HTR.out (by first | rfl | trivial))
      go_wp2_with fail
      go_ret
      exact ⟨ret_int HE.out.symm, HB1.out⟩
    | false =>
      have HN := Lib.hid (HFL.out (by first | rfl | trivial))
      go_wp2_with fail
      go_roundw
      case rel => exact ⟨k + 1, by omega, by go_num, HN, HB1⟩
      case measure => simp [intOf]; omega
set_option maxHeartbeats 1000000 in
theorem cfWS_any (A : Option Addr) (c : Nat) (hs : List Value) (pr : Nat → Bool) (ab kb : Nat) (w : World) (h : Rd w A hs) (hn : hs.length ≤ 9223372036854775807)
    (hcl : ∀ k (hk : k < hs.length) W, Below w.heap.size w W → Calls Tryz.prog 28 #[hs[k], .pointer (some ⟨ab, 0, none⟩), .pointer (some ⟨kb, 0, none⟩)] W fun e w' => e = .returned (.bool (pr k)) ∧ Below W.heap.size W w') :
    Calls Tryz.prog 27 #[.slice A hs.length c, .func (.func 28) #[] #[.pointer (some ⟨ab, 0, none⟩), .pointer (some ⟨kb, 0, none⟩)]] w fun e w' => e = .returned (.bool ((List.range hs.length).any pr)) ∧ Below w.heap.size w w' := by
  have HI := Lib.hid (idxWS_any A c hs pr ab kb w h hn hcl)
  rw [← fsB_any]
  clear h hcl
  generalize fsB pr hs.length = ix at *
  rcases hasV ix hs.length with ⟨e1, e2⟩ | ⟨e1, e2⟩
  · rw [e1] at HI
    have HE : Hid (decide (ix < hs.length) = true) := by show _ = _; simpa using e2
    have hz : (0 : Int) ≤ (ix : Int) := by omega
    clear e1 e2
    go_enter Tryz.func27, Tryz.ntmps27
    go_wp2_with fail
    refine HI.out.mono ?_
    rintro e w1 ⟨rfl, hb1⟩
    have HB1 := Lib.hid hb1
    clear hb1
    go_wp2_with fail
    go_ret
    exact ⟨ret_bool (by rw [HE.out]), HB1.out⟩
  · rw [e1] at HI
    have HE : Hid (decide (ix < hs.length) = false) := by show _ = _; simpa using e2
    clear e1 e2
    go_enter Tryz.func27, Tryz.ntmps27
    go_wp2_with fail
    refine HI.out.mono ?_
    rintro e w1 ⟨rfl, hb1⟩
    have HB1 := Lib.hid hb1
    clear hb1
    go_wp2_with fail
    go_ret
    exact ⟨ret_bool HE.out.symm, HB1.out⟩
end Go.Proofs.YtnpdekgmiphagaaGreatDoor
/- The contract of credit.Doubts. -/
namespace Go.Proofs.YtnpdekgmiphagaaGreatDoor
open Go.RowKit Go.Dw Go.Maps

theorem info_sss : (Tryz.prog.info? 26).map (fun i => (i.zero, i.size, i.bytes)) = some (some (.slice none 0 0), 1, 24) := by kernel_rfl
theorem min_max_id {p : Ppl} (hp : PplR p) {i k : Nat} (hi : i < p.ps.length) (hk : k < p.ps.length) :
    (Lib.minS (idAt p.ps (lab p i)) (idAt p.ps (lab p k)), Lib.maxS (idAt p.ps (lab p i)) (idAt p.ps (lab p k))) = prI p i k := by
  have ha := lab_lt hi
  have hb := lab_lt hk
  unfold prI
  rcases Nat.lt_or_ge (lab p i) (lab p k) with h | h
  · obtain ⟨e1, e2⟩ := mm_lt ((hp.ps.idLt ha hb).2 h)
    rw [e1, e2, show max (lab p i) (lab p k) = lab p k by omega, show min (lab p i) (lab p k) = lab p i by omega]
  · rcases Nat.lt_or_ge (lab p k) (lab p i) with h2 | h2
    · obtain ⟨e1, e2⟩ := mm_gt ((hp.ps.idLt hb ha).2 h2)
      rw [e1, e2, show max (lab p i) (lab p k) = lab p i by omega, show min (lab p i) (lab p k) = lab p k by omega]
    · have e : lab p i = lab p k := by omega
      rw [e, Nat.min_self, Nat.max_self]; simp [Lib.minS, Lib.maxS]
/-- of which block a slice may not be, behind an append -/
theorem RdS.app {B : Nat} {o : Option Nat} {w w' : World} {A : Option Addr} {vs : List Value} (h : RdS (fun b => B ≤ b ∧ o ≠ some b) w A vs) (hg : w.grownBy w' o) {g : Nat} (hat : o = some g ∨ g = w.heap.size) : RdS (fun b => B ≤ b ∧ (some g : Option Nat) ≠ some b) w' A vs := by
  rcases h with h1 | ⟨b, off, h1, ⟨h2, h2'⟩, h3, h4⟩
  · exact .inl h1
  · refine .inr ⟨b, off, h1, ⟨h2, ?_⟩, Nat.lt_of_lt_of_le h3 hg.size, fun j u hu => ?_⟩
    · intro hh
      injection hh with hh
      subst hh
      rcases hat with hat | hat
      · exact h2' hat
      · omega
    · rw [hg.cell_far _ h3 (fun e => h2' e.symm)]; exact h4 j u hu
theorem WdS.app {B : Nat} {o : Option Nat} {w w' : World} {v : Value} {ws : List (List UInt8)} (h : WdS (fun b => B ≤ b ∧ o ≠ some b) w v ws) (hg : w.grownBy w' o) {g : Nat} (hat : o = some g ∨ g = w.heap.size) : WdS (fun b => B ≤ b ∧ (some g : Option Nat) ≠ some b) w' v ws := by
  obtain ⟨A, c, e, h⟩ := h
  exact ⟨A, c, e, RdS.app h hg hat⟩
theorem NmS.app {B : Nat} {o : Option Nat} {w w' : World} {v : Value} {l : List (List (List UInt8))} (h : NmS (fun b => B ≤ b ∧ o ≠ some b) w v l) (hg : w.grownBy w' o) {g : Nat} (hat : o = some g ∨ g = w.heap.size) : NmS (fun b => B ≤ b ∧ (some g : Option Nat) ≠ some b) w' v l := by
  obtain ⟨A, c, hh, e, h1, h2, h3⟩ := h
  exact ⟨A, c, hh, e, h1, RdS.app h2 hg hat, fun i a b => WdS.app (h3 i a b) hg hat⟩
/-- the words of the first k persons' names, in memory -/
def AllI (w4 wr : World) (p : Ppl) (k : Nat) : Prop :=
  ∃ av, ∃ hs : List Value, hs.length = k ∧ Blk wr w4.heap.size 60 [av] ∧ wr.ownsRow (w4.heap.size + 1) 26 1 av k hs ∧ (∀ i (h : i < hs.length), NmS (fun b => w4.heap.size + 1 ≤ b ∧ av.ownBlock ≠ some b) wr hs[i] (wdNs (nsAt p i))) ∧ Gq w4 wr ∧ w4.heap.size + 1 ≤ wr.heap.size
/-- the words of one person's first j names -/
def NamI (wB wr : World) (lv : Value) (ns : List ByteArray) (j : Nat) : Prop :=
  ∃ ws : List Value, ws.length = j ∧ wr.ownsRow wB.heap.size 44 1 lv j ws ∧ (∀ i (h : i < ws.length) (h2 : i < ns.length), WdS (fun b => wB.heap.size ≤ b ∧ lv.ownBlock ≠ some b) wr ws[i] (wdN ns[i])) ∧ Gq wB wr
theorem namI_snoc {wB wn wC w7 : World} {lA wA : Option Addr} {lC j wc2 g2 cap2 : Nat} {ns : List ByteArray} {ws : List Value} {o : Obj} (hwl : ws.length = j) (hown : wn.ownsRow wB.heap.size 44 1 (.slice lA j lC) j ws)
    (hwd : ∀ i (h : i < ws.length) (h2 : i < ns.length), WdS (fun b => wB.heap.size ≤ b ∧ (Value.slice lA j lC).ownBlock ≠ some b) wn ws[i] (wdN ns[i])) (hgn : Gq wB wn) (hj : j < ns.length) (hgc : Gq wn wC)
    (hr : RdS (fun b => wn.heap.size ≤ b) wC wA (sc (wdN ns[j])))
    (hown2 : w7.ownsRow wB.heap.size 44 1 (.slice (some ⟨g2, 0, none⟩) (j + 1) cap2) (j + 1) (ws ++ [.slice wA (wdN ns[j]).length wc2]))
    (hgrow2 : (wC.alloc o).grownBy w7 (Value.slice lA j lC).ownBlock) (hat2 : (Value.slice lA j lC).ownBlock = some g2 ∨ g2 = wC.heap.size + 1) : NamI wB w7 (.slice (some ⟨g2, 0, none⟩) (j + 1) cap2) ns (j + 1) := by
  have hA : Below wC.heap.size wC (wC.alloc o) := (Below.refl _ _).alloc (Nat.le_refl _) _
  have hlt : ∀ b, (Value.slice lA j lC).ownBlock = some b → wB.heap.size ≤ b ∧ b < wn.heap.size := hown.lt
  have hat3 : (Value.slice lA j lC).ownBlock = some g2 ∨ g2 = (wC.alloc o).heap.size := by rw [show (wC.alloc o).heap.size = wC.heap.size + 1 by simp]; exact hat2
  have hs1 := Below.size hgn
  have hs2 := Below.size hgc
  refine ⟨ws ++ [.slice wA (wdN ns[j]).length wc2], by simp [hwl], hown2, fun i h h2 => ?_, Below.grown (Below.alloc (Below.trans hgn (Below.mono hgc hs1)) (by omega) o) hgrow2 (by simp; omega) (fun b hb => (hlt b hb).1)⟩
  refine WdS.app ?_ hgrow2 hat3
  by_cases e : i < j
  · have hi : i < ws.length := by omega
    rw [List.getElem_append_left hi]
    exact ((hwd i hi h2).same (Same.of_below hgc)).same (Same.of_below hA)
  · have he : i = j := by simp [hwl] at h; omega
    subst he
    rw [List.getElem_append_right (by omega)]
    simp only [hwl, Nat.sub_self, List.getElem_cons_zero]
    refine ⟨wA, wc2, rfl, ((hr.same (Same.of_below hA)).mono (fun b _ hb => ⟨by omega, fun e => ?_⟩))⟩
    have := (hlt b e).2
    omega
theorem allI_snoc {wo wq wn w8 : World} {p : Ppl} {aA : Option Addr} {aC k g2 cap2 : Nat} {hs : List Value} {hdr : Value} {o : Obj} (hsl : hs.length = k) (hblk : Blk wq wo.heap.size 60 [.slice aA k aC])
    (hown : wq.ownsRow (wo.heap.size + 1) 26 1 (.slice aA k aC) k hs) (hnm : ∀ i (h : i < hs.length), NmS (fun b => wo.heap.size + 1 ≤ b ∧ (Value.slice aA k aC).ownBlock ≠ some b) wq hs[i] (wdNs (nsAt p i)))
    (hgq : Gq wo wq) (hszq : wo.heap.size + 1 ≤ wq.heap.size) (hqn : Gq wq wn) (hN : NmS (fun b => wq.heap.size ≤ b) wn hdr (wdNs (nsAt p k)))
    (hown2 : w8.ownsRow (wo.heap.size + 1) 26 1 (.slice (some ⟨g2, 0, none⟩) (k + 1) cap2) (k + 1) (hs ++ [hdr]))
    (hgrow2 : (wn.alloc o).grownBy w8 (Value.slice aA k aC).ownBlock) (hat2 : (Value.slice aA k aC).ownBlock = some g2 ∨ g2 = wn.heap.size + 1) :
    Blk w8 wo.heap.size 60 [.slice aA k aC] ∧ AllI wo (w8.setCell ⟨wo.heap.size, 0, none⟩ (.slice (some ⟨g2, 0, none⟩) (k + 1) cap2)) p (k + 1) := by
  have hA : Below wn.heap.size wn (wn.alloc o) := (Below.refl _ _).alloc (Nat.le_refl _) _
  have hlt : ∀ b, (Value.slice aA k aC).ownBlock = some b → wo.heap.size + 1 ≤ b ∧ b < wq.heap.size := hown.lt
  have hat3 : (Value.slice aA k aC).ownBlock = some g2 ∨ g2 = (wn.alloc o).heap.size := by rw [show (wn.alloc o).heap.size = wn.heap.size + 1 by simp]; exact hat2
  have hs1 := Below.size hgq
  have hs2 := Below.size hqn
  have hblk8 : Blk w8 wo.heap.size 60 [.slice aA k aC] := blk_grown ((hblk.same (Same.of_below (S := fun _ => True) hqn) trivial).same (Same.of_below (S := fun _ => True) hA) trivial) hgrow2 (fun e => by have := (hlt _ e.symm).1; omega)
  refine ⟨hblk8, .slice (some ⟨g2, 0, none⟩) (k + 1) cap2, hs ++ [hdr], by simp [hsl], ?_, ownsRow_setCell_below hown2 (by show wo.heap.size < _; omega) _, fun i h => ?_, ?_, ?_⟩
  · have := hblk8.set_ 0 (.slice (some ⟨g2, 0, none⟩) (k + 1) cap2)
    simpa using this
  · refine NmS.same (w := w8) ?_ (Same.set w8 _ _ (fun hh => by have h1 : wo.heap.size + 1 ≤ wo.heap.size := hh.1; omega))
    refine NmS.app ?_ hgrow2 hat3
    by_cases e : i < k
    · have hi : i < hs.length := by omega
      rw [List.getElem_append_left hi]
      exact ((hnm i hi).same (Same.of_below hqn)).same (Same.of_below hA)
    · have he : i = k := by simp [hsl] at h; omega
      subst he
      rw [List.getElem_append_right (by omega)]
      simp only [hsl, Nat.sub_self, List.getElem_cons_zero]
      refine (hN.same (Same.of_below hA)).mono (fun b _ hb => ⟨by omega, fun e => ?_⟩)
      have := (hlt b e).2
      omega
  · have hB8 : Gq wo w8 := Below.grown (Below.alloc (Below.trans hgq (Below.mono hqn hs1)) (by omega) o) hgrow2 (by simp; omega) (fun b hb => by have := (hlt b hb).1; omega)
    exact Gq.set hB8 (Nat.le_refl _) _
  · have := hgrow2.size
    simp at this
    simp [World.setCell]
    omega
theorem own_ne {w : World} {base e size n g : Nat} {t : TypeId} {v : Value} {xs cs : List Value} (h : w.ownsRow base e size v n xs) (hb : Blk w g t cs) (ht : t ≠ e) : ∀ b, v.ownBlock = some b → b ≠ g := by
  intro b hv hbg
  subst hbg
  rcases h.2 with ⟨rfl, _⟩ | ⟨g', cap, cur, rfl, _, hg, _⟩
  · cases hv
  · injection hv with hv
    subst hv
    unfold Blk at hb
    rw [hg] at hb
    injection hb with hb
    injection hb with _ hb _
    exact ht hb.symm
theorem agr_range (a b : List ByteArray) : (List.range (wdNs a).length).any (fun m => agW ((wdNs a).getD m []) (wdNs b)) = agrP a b := by
  rw [any_range (wdNs a) (fun s => agW s (wdNs b)) []]
  unfold wdNs agW agrP
  rw [List.any_map]
  congr 1
  funext x
  simp only [Function.comp, List.any_map]
  rfl
theorem nms_len {ns : List ByteArray} (h : nmsF ns = 0) : ns.length ≤ 10 := by
  unfold nmsF at h
  split at h
  · omega
  · split at h
    · omega
    · omega
set_option maxRecDepth 100000 in
set_option maxHeartbeats 8000000 in
theorem dbts_any (x : Peo) (w : World) (h : PeoOk w x) (hmx : HasMax w) :
    Calls Tryz.prog 11 #[x.v] w (RDbt w x.x (peoF x.x)) := by
  have HOK := Lib.hid h
  have HCK := Lib.hid (fun (W : World) (hW : Below w.heap.size w W) => people_any x W (h.below hW) (hmx.below hW))
  have HMN := Lib.hid (fun (W : World) (hW : Below w.heap.size w W) hps hcs hn hm => mains_any x W (h.below hW) hps hcs hn hm)
  obtain ⟨⟨A, c, L⟩, ⟨B, d, C⟩⟩ := x
  have hpl : L.length ≤ 9223372036854775807 := h.pl
  have hpc : L.length ≤ c := h.pc
  obtain ⟨p, hp⟩ : ∃ p : Ppl, p = Peo.x ⟨⟨A, c, L⟩, ⟨B, d, C⟩⟩ := ⟨_, rfl⟩
  have HPP : Hid (p.ps = L.map Psn.x) := by rw [hp]; rfl
  have HPC : Hid (p.cs = C) := by rw [hp]; rfl
  have HLN : Hid (p.ps.length = L.length) := by show _ = _; rw [HPP.out]; simp
  have HID : Hid (∀ k (hk : k < L.length), idAt p.ps k = L[k].id) := fun k hk => by
    rw [idAt_at (by rw [HLN.out]; exact hk)]
    simp only [HPP.out, List.getElem_map]; rfl
  have HSZ : Hid (∀ k (hk : k < L.length), (idAt p.ps k).size ≤ 9223372036854775807) := fun k hk => by
    rw [HID.out k hk]; exact (HOK.out.po _ (List.getElem_mem hk)).1.1
  have HNS : Hid (∀ k (hk : k < L.length), nsAt p k = L[k].s.xs) := fun k hk => by
    have htp : k < p.ps.length := by rw [HLN.out]; exact hk
    unfold nsAt; rw [getD_at _ _ _ htp]
    simp only [HPP.out, List.getElem_map]; rfl
  rw [← hp] at HMN HCK ⊢
  clear h hmx hp
  unfold Peo.v at *
  simp only [Slc.v] at *
  obtain ⟨w0, hw0⟩ : ∃ w0, w0 = w.alloc (.cells #[.slice A L.length c, .slice B C.length d] 25) := ⟨_, rfl⟩
  have HB0 : Hid (Below w.heap.size w w0) := by rw [hw0]; exact (Below.refl _ _).alloc (Nat.le_refl _) _
  have HX0 : Hid (w0.cell? ⟨w.heap.size, 0, none⟩ = some (.slice A L.length c) ∧ w0.cell? ⟨w.heap.size, 1, none⟩ = some (.slice B C.length d)) := by rw [hw0]; exact peoBox
  have hz0 : w.heap.size < w0.heap.size := by rw [hw0]; simp
  have HW0 := Lib.hid hw0
  have HPX : Hid (∀ W, Gq w0 W → Below w.heap.size w W ∧ W.cell? ⟨w.heap.size, 0, none⟩ = some (.slice A L.length c) ∧ W.cell? ⟨w.heap.size, 1, none⟩ = some (.slice B C.length d)) := fun W hW => by
    have hb : Below w.heap.size w W := HB0.out.trans (Below.mono hW HB0.out.size)
    exact ⟨hb, by rw [Below.cell hW (by exact hz0)]; exact HX0.out.1, by rw [Below.cell hW (by exact hz0)]; exact HX0.out.2⟩
  obtain ⟨_, z0, z1⟩ := HPX.out w0 (Gq.refl _)
  obtain ⟨pf, hpf⟩ : ∃ pf, peoF p = pf := ⟨_, rfl⟩
  have HPF := Lib.hid hpf
  simp only [hpf] at HCK
  rw [hpf]
  clear hw0 HX0 hpf
  have HC0 := Lib.hid (HCK.out w0 HB0.out)
  have hmm := @run_makeMap Tryz.prog
  go_enter Tryz.func11, Tryz.ntmps11
  go_upto_region 1 with (fail)
  rw [← HW0.out]
  go_wp2_with fail
  refine HC0.out.mono ?_
  rintro e w1 ⟨rfl, hq1⟩
  have HG1 : Hid (Gq w0 w1) := hq1
  clear hq1 z0 z1
  obtain ⟨hbw1, z0, z1⟩ := HPX.out w1 HG1.out
  have HB1 := Lib.hid hbw1
  clear hbw1
  by_cases hz : pf = 0
  case neg =>
    have hzb : (pf != 0) = true := by simpa using hz
    have HR := Lib.hid (fun e he => rdbt_bad (p := p) (e := e) hz HB1.out he)
    clear hz
    go_wp2_with fail
    go_ret2
    exact HR.out _ rfl
  subst hz
  have HPR := Lib.hid (pplR_of HPF.out)
  have HNZ : Hid (∀ y ∈ p.ps, y.ns.length ≤ 10 ∧ ∀ s ∈ y.ns, s.size ≤ 1048576) := fun y hy => by
    obtain ⟨i, hi, rfl⟩ := List.getElem_of_mem hy
    exact ⟨nms_len (HPR.out.ps.nms i hi), nms_size (HPR.out.ps.nms i hi)⟩
  have HST : Hid (∀ l ∈ p.ps.map (fun y => wdNs y.ns), l.length ≤ 100 ∧ ∀ t ∈ l, t.length ≤ 9223372036854775807 ∧ ∀ x ∈ t, x.length ≤ 1048576) := fun l hl => by
    obtain ⟨y, hy, rfl⟩ := List.mem_map.1 hl
    obtain ⟨h1, h2⟩ := HNZ.out y hy
    refine ⟨by unfold wdNs; rw [List.length_map]; omega, fun t ht => ?_⟩
    unfold wdNs at ht
    obtain ⟨q, hq, rfl⟩ := List.mem_map.1 ht
    have h3 := words_small (h2 q hq)
    exact ⟨by have := h3.1; unfold wdN; omega, h3.2⟩
  have hn100 : L.length ≤ 100 := by have := HPR.out.n; rw [HLN.out] at this; exact this
  have hm200 : C.length ≤ 200 := by have := HPR.out.m; rw [HPC.out] at this; exact this
  have HM := Lib.hid (HMN.out w1 HB1.out HPR.out.ps HPR.out.cs HPR.out.n HPR.out.m)
  go_wp2_with fail
  refine HM.out.mono ?_
  rintro e w2 ⟨mb, hmb, rfl, hof, hq2⟩
  have HOF := Lib.hid hof
  have hmbl : mb < w2.heap.size := OMap.lt hof
  have HG2 : Hid (Gq w0 w2) := Below.trans HG1.out (hq2.mono (Below.size HG1.out))
  clear hq2 hof z0 z1
  obtain ⟨w3, hw3⟩ : ∃ w3, w3 = w2.alloc (.map #[] 0) := ⟨_, rfl⟩
  have HA3 : Hid (OMap Tryz.prog 38 w3 w2.heap.size 0 (setF (twoP p 0))) := by rw [hw3, setF_none (twoP_zero p)]; exact OMap.made w2 _ _
  have HG3 : Hid (Gq w2 w3) := by rw [hw3]; exact (Gq.refl _).alloc _
  have HW3 := Lib.hid hw3
  clear hw3
  obtain ⟨_, z0, z1⟩ := HPX.out w3 (Below.trans HG2.out (Below.mono HG3.out (Below.size HG2.out)))
  go_upto_region 6 with (fail)
  rw [← HW3.out]
  go_wp2_with fail
  go_loopw [37] (fun kv wr => ∃ k : Nat, k ≤ C.length ∧ kv = .int .i64 (k : Int) ∧ Hid (OMap Tryz.prog 38 wr w2.heap.size k (setF (twoP p k))) ∧ Hid (Gq w2 wr)) (fun kv _ => C.length - (intOf kv).toNat)
  case atStart => exact ⟨0, Nat.zero_le _, rfl, HA3, HG3⟩
  case round =>
    obtain ⟨k, hk, rfl, HTW, HG⟩ := hrel
    obtain ⟨wo, hwo⟩ : ∃ wo, wo = wr := ⟨_, rfl⟩
    subst hwo
    have HGW : Hid (Gq w0 wo) := Below.trans HG2.out (Below.mono HG.out (Below.size HG2.out))
    have HBW := Lib.hid (HPX.out wo HGW.out).1
    clear z0 z1
    by_cases hlt : k < C.length
    case pos =>
      have hd1 : decide (k < C.length) = true := by simpa using hlt
      obtain ⟨b, off, hAB, hb, hcs⟩ := clm_at (HOK.out.cr.below HBW.out) (by show 0 < C.length; omega)
      simp only at hAB hcs
      subst hAB
      obtain ⟨d0, d1, d2⟩ := hcs k hlt
      have hltp : k < p.cs.length := by rw [HPC.out]; exact hlt
      have hck : p.cs[k] = C[k] := by simp only [HPC.out]
      have hmem : C[k] ∈ p.cs := by rw [HPC.out]; exact List.getElem_mem hlt
      have ia := HPR.out.cs.ia _ hmem
      have ib := HPR.out.cs.ib _ hmem
      obtain ⟨sza, szb⟩ := HOK.out.co C[k] (List.getElem_mem hlt)
      have HLA := Lib.hid (ofK_at (f := lab p) ia)
      have HLB := Lib.hid (ofK_at (f := lab p) ib)
      have HKA := Lib.hid (strKey sza)
      have HKB := Lib.hid (strKey szb)
      have HMM := Lib.hid (min_max_id HPR.out ia ib)
      have HSUC := Lib.hid (fun x => twoP_succ p hltp x)
      have la1 := lab_lt ia
      have lb1 := lab_lt ib
      have HIZ : Hid ((idAt p.ps (lab p (ixP p.ps C[k].a))).size ≤ 9223372036854775807 ∧ (idAt p.ps (lab p (ixP p.ps C[k].b))).size ≤ 9223372036854775807) := ⟨HSZ.out _ (by rw [← HLN.out]; exact la1), HSZ.out _ (by rw [← HLN.out]; exact lb1)⟩
      have HPZ : Hid ((prI p (ixP p.ps C[k].a) (ixP p.ps C[k].b)).1.size ≤ 9223372036854775807 ∧ (prI p (ixP p.ps C[k].a) (ixP p.ps C[k].b)).2.size ≤ 9223372036854775807) := ⟨HSZ.out _ (by rw [← HLN.out]; omega), HSZ.out _ (by rw [← HLN.out]; omega)⟩
      rw [hck] at HSUC
      unfold twoC at HSUC
      obtain ⟨pr, hpr⟩ : ∃ pr, prI p (ixP p.ps C[k].a) (ixP p.ps C[k].b) = pr := ⟨_, rfl⟩
      rw [hpr] at HSUC HMM HPZ
      obtain ⟨nA, hnA⟩ : ∃ nA, idAt p.ps (lab p (ixP p.ps C[k].a)) = nA := ⟨_, rfl⟩
      obtain ⟨nB, hnB⟩ : ∃ nB, idAt p.ps (lab p (ixP p.ps C[k].b)) = nB := ⟨_, rfl⟩
      rw [hnA, hnB] at HMM
      rw [hnA] at HLA
      rw [hnB] at HLB
      clear hcs hck hmem ia ib sza szb la1 lb1 hpr hnA hnB HIZ
      generalize C[k] = cc at *
      obtain ⟨ca, cb, cs⟩ := cc
      simp only at d0 d1 d2 HLA HLB HKA HKB HSUC
      obtain ⟨wB, hwB⟩ : ∃ wB, wB = wo.alloc (.cells #[.string ca, .string cb, .bool cs] 51) := ⟨_, rfl⟩
      have HGB : Hid (Gq w2 wB) := by rw [hwB]; exact HG.out.alloc _
      have HTB : Hid (OMap Tryz.prog 38 wB w2.heap.size k (setF (twoP p k))) := by rw [hwB]; exact HTW.out.alloc _
      have k0 : wB.cell? ⟨wo.heap.size, 0, none⟩ = some (.string ca) := by rw [hwB]; exact new_cell (cs := [_, _, _]) rfl rfl
      have k1 : wB.cell? ⟨wo.heap.size, 1, none⟩ = some (.string cb) := by rw [hwB]; exact new_cell (cs := [_, _, _]) rfl rfl
      have k2 : wB.cell? ⟨wo.heap.size, 2, none⟩ = some (.bool cs) := by rw [hwB]; exact new_cell (cs := [_, _, _]) rfl rfl
      have HMB : Hid (OMap Tryz.prog 9 wB mb 30000 (ofK p.ps (lab p) p.ps.length)) := OMap.below HOF.out HGB.out
      have hrA := fun n => (HMB.out.drewN n).look strKeyed Tryz.underlying41 zeroStr HKA.out
      have hrB := fun n => (HMB.out.drewN n).look strKeyed Tryz.underlying41 zeroStr HKB.out
      simp only [HLA.out, Option.getD_some] at hrA
      simp only [HLB.out, Option.getD_some] at hrB
      have HWB := Lib.hid hwB
      clear hwB HLA HLB
      go_upto_region 9 with (fail)
      rw [← HWB.out]
      clear d0 d1 d2
      go_quiet (fail)
      have HGQ : Hid (Gq w2 (wB.drewN nq)) := below_drewN HGB.out nq
      have HTQ : Hid (OMap Tryz.prog 38 (wB.drewN nq) w2.heap.size k (setF (twoP p k))) := HTB.out.drewN nq
      have k2' : (wB.drewN nq).cell? ⟨wo.heap.size, 2, none⟩ = some (.bool cs) := k2
      obtain ⟨w5, hw5⟩ : ∃ w5, w5 = wB.drewN nq := ⟨_, rfl⟩
      rw [← hw5] at HGQ HTQ k2' ⊢
      clear hw5 hrA hrB k0 k1 k2 HMB HGB HTB
      cases cs with
      | true =>
        have HT6 : Hid (OMap Tryz.prog 38 w5 w2.heap.size (k + 1) (setF (twoP p (k + 1)))) := by
          rw [setF_congr (g := twoP p k) (fun x => by rw [HSUC.out]; simp)]; exact HTQ.out.mono (by omega)
        go_wp2_with fail
        go_roundw
        case rel => exact ⟨k + 1, by omega, by go_num, HT6, HGQ⟩
        case measure => simp [intOf]; omega
      | false =>
        obtain ⟨kl, hkl⟩ := keyPr pr HPZ.out.1 HPZ.out.2
        have HKL := Lib.hid hkl
        have HPUT := Lib.hid (setF_put (f := twoP p k) (g := twoP p (k + 1)) (x := pr) (fun y => by rw [HSUC.out]; simp))
        have hrx := Lib.run_max_strs (P := Tryz.prog) w5 #[9, 9] 9 nA nB
        have hrn := Lib.run_min_strs (P := Tryz.prog) w5 #[9, 9] 9 nA nB
        have e1 : Lib.minS nA nB = pr.1 := congrArg Prod.fst HMM.out
        have e2 : Lib.maxS nA nB = pr.2 := congrArg Prod.snd HMM.out
        rw [e2] at hrx
        rw [e1] at hrn
        clear hkl e1 e2
        go_wp2_with (at_mapUpdate; refine wpList_omap _ rfl _ _ _ 59 rfl 38 4 prKeyed Tryz.underlying59 w2.heap.size k (setF (twoP p k)) (by rfl) HTQ.out (by unfold maxLen; omega) (pv pr) (.bool true) (by rfl) (by rfl) _ HKL.out (setF (twoP p (k + 1))) HPUT.out.1 HPUT.out.2 ?_; intro w6 ho6 hg6)
        have HT6 := Lib.hid ho6
        have HG6 : Hid (Gq w2 w6) := Below.grown HGQ.out hg6 (Below.size HGQ.out) (fun j hj => by injection hj with hj; omega)
        clear ho6 hg6
        go_wp2_with fail
        go_roundw
        case rel => exact ⟨k + 1, by omega, by go_num, HT6, HG6⟩
        case measure => simp [intOf]; omega
    have hd1 : decide (k < C.length) = false := by simpa using hlt
    have hke : k = p.cs.length := by rw [HPC.out]; omega
    have HTF : Hid (OMap Tryz.prog 38 wo w2.heap.size 200 (setF (twoP p p.cs.length))) := by
      have := HTW.out.mono (m := 200) (by omega)
      rw [hke] at this; exact this
    clear hke hlt HTW
    obtain ⟨w5, hw5⟩ : ∃ w5, w5 = wo.alloc (.cells #[.slice none 0 0] 60) := ⟨_, rfl⟩
    have HA5 : Hid (AllI wo w5 p 0) := ⟨.slice none 0 0, [], rfl, by rw [hw5]; exact Blk.new wo _ _, World.ownsRow_nil _ _ _ _, (fun i h => by cases h), by rw [hw5]; exact (Gq.refl _).alloc _, by rw [hw5]; simp⟩
    have HG5 : Hid (Gq wo w5) := by rw [hw5]; exact (Gq.refl _).alloc _
    have HW5 := Lib.hid hw5
    clear hw5
    obtain ⟨_, z0, z1⟩ := HPX.out w5 (Below.trans HGW.out (Below.mono HG5.out (Below.size HGW.out)))
    obtain ⟨ir, hir0, hir1, hir2, hir3⟩ := info_parts info_sss
    obtain ⟨is, his0, his1, his2, his3⟩ := info_parts info_ss
    obtain ⟨ip, hip0, hip1, hip2, hip3⟩ := info_parts info_pr
    have HIP := Lib.hid (And.intro hip0 (And.intro hip1 (And.intro hip2 hip3)))
    clear hip0 hip1 hip2 hip3
    have HIR := Lib.hid (And.intro hir0 (And.intro hir1 (And.intro hir2 hir3)))
    have HIS := Lib.hid (And.intro his0 (And.intro his1 (And.intro his2 his3)))
    clear hir0 hir1 hir2 hir3 his0 his1 his2 his3
    go_upto_region 14 with (fail)
    rw [← HW5.out]
    go_wp2_with fail
    go_loopw [64] (fun kv wr => ∃ k : Nat, k ≤ L.length ∧ kv = .int .i64 (k : Int) ∧ Hid (AllI wo wr p k)) (fun kv _ => L.length - (intOf kv).toNat)
    case atStart => exact ⟨0, Nat.zero_le _, rfl, HA5⟩
    case round =>
      obtain ⟨k, hk, rfl, HAL⟩ := hrel
      obtain ⟨wq, hwq⟩ : ∃ wq, wq = wr := ⟨_, rfl⟩
      subst hwq
      obtain ⟨av, hs, hsl, hblk, hown, hnm, hgq, hszq⟩ := HAL.out
      have HGQ : Hid (Gq wo wq) := hgq
      have HGX : Hid (Gq w0 wq) := Below.trans HGW.out (Below.mono hgq (Below.size HGW.out))
      have HBX := Lib.hid (HPX.out wq HGX.out).1
      clear z0 z1
      by_cases hlt : k < L.length
      case neg =>
        have hd1 : decide (k < L.length) = false := by simpa using hlt
        have hke : k = L.length := by omega
        subst hke
        have HAB : Hid (0 < L.length → ∃ gA cA, ∀ W, Gq wq W → W.cell? ⟨wo.heap.size, 0, none⟩ = some (.slice (some ⟨gA, 0, none⟩) L.length cA) ∧ AllS W gA L.length (p.ps.map fun y => wdNs y.ns)) := fun h0 => by
          rcases hown.2 with ⟨_, h1⟩ | ⟨gA, cA, cur, hv, _⟩
          · omega
          · subst hv
            refine ⟨gA, cA, fun W hW => ⟨(hblk.same (Same.of_below (S := fun _ => True) hW) trivial).cell 0, by rw [List.length_map]; exact HLN.out, fun j hj => ?_⟩⟩
            have hj2 : j < L.length := by rw [List.length_map, HLN.out] at hj; exact hj
            have hj3 : j < p.ps.length := by rw [HLN.out]; exact hj2
            have e1 : (p.ps.map fun y => wdNs y.ns)[j] = wdNs (nsAt p j) := by
              simp only [List.getElem_map]
              unfold nsAt; rw [getD_at _ _ _ hj3]
            rw [e1]
            refine ⟨hs[j], ?_, ((hnm j (by omega)).same (Same.of_below hW)).mono (fun _ _ _ => trivial)⟩
            rw [(own_belowL hown hW).cellAt j (by omega)]
            exact List.getElem?_eq_getElem (by omega)
        clear hown hblk hnm hsl HAL hgq hlt
        obtain ⟨w7, hw7⟩ : ∃ w7, w7 = wq.alloc (.map #[] 0) := ⟨_, rfl⟩
        have HM7 : Hid (OMap Tryz.prog 38 w7 wq.heap.size 0 (setF (memQ []))) := by rw [hw7, setF_none (f := memQ []) (fun _ => rfl)]; exact OMap.made wq _ _
        have HG7 : Hid (Gq wq w7) := by rw [hw7]; exact (Gq.refl _).alloc _
        have hsz7 : wq.heap.size + 1 ≤ w7.heap.size := by rw [hw7]; simp
        have HW7 := Lib.hid hw7
        clear hw7
        obtain ⟨_, z0, z1⟩ := HPX.out w7 (Below.trans HGX.out (Below.mono HG7.out (Below.size HGX.out)))
        go_upto_region 27 with (fail)
        rw [← HW7.out]
        go_wp2_with fail
        go_loopw [18, 90] (fun ov iv wr => ∃ (i : Nat) (D : List (ByteArray × ByteArray)), i ≤ L.length ∧ iv = .int .i64 (i : Int) ∧ D.length ≤ i * 100 ∧ Hid (D = outI p i) ∧ Hid (wr.ownsRow (wq.heap.size + 1) 38 2 ov D.length (D.flatMap pcs)) ∧ Hid (OMap Tryz.prog 38 wr wq.heap.size (i * 100) (setF (memQ D))) ∧ Hid (Gq wq wr) ∧ wq.heap.size + 1 ≤ wr.heap.size) (fun _ iv _ => L.length - (intOf iv).toNat)
        case atStart => exact ⟨0, [], Nat.zero_le _, rfl, by simp, rfl, World.ownsRow_nil _ _ _ _, HM7, HG7, hsz7⟩
        case round =>
          obtain ⟨i, D, hi, rfl, hDl, HDE, HDO, HDM, HDG, hszi⟩ := hrel
          obtain ⟨wi, hwi⟩ : ∃ wi, wi = wr := ⟨_, rfl⟩
          subst hwi
          obtain ⟨oA, oC, rfl⟩ := slice_of_own HDO.out
          have HGI : Hid (Gq w0 wi) := Below.trans HGX.out (Below.mono HDG.out (Below.size HGX.out))
          have HBI := Lib.hid (HPX.out wi HGI.out).1
          clear z0 z1
          by_cases hil : i < L.length
          case neg =>
            have hd2 : decide (i < L.length) = false := by simpa using hil
            have hie : i = p.ps.length := by rw [HLN.out]; omega
            have HSR := Lib.hid (sortP_any (wq.heap.size + 1) (wq.heap.size + 1) oA D.length oC D wi (Nat.le_refl _) HDO.out rfl (by omega))
            have HDF : Hid (D = outI p p.ps.length) := by show _ = _; rw [HDE.out, hie]
            clear hie hil
            go_wp2_with fail
            refine HSR.out.mono ?_
            rintro e wS ⟨rfl, l', hperm, hpw, hrd, hbS⟩
            have hle := hperm.length_eq
            rw [HDF.out] at hperm
            have HLD := Lib.hid (srt_dbts HPR.out hperm hpw)
            have HFI : Hid (RDbt w p 0 (.returned (.tuple #[.slice oA D.length oC, .int .i64 0])) wS) := by
              refine ⟨oA, oC, l', by rw [hle], hrd, by rw [if_pos rfl]; exact HLD.out, HBI.out.trans (hbS.mono ?_)⟩
              have h1 := Below.size HBX.out
              omega
            clear hperm hpw hrd hbS hle
            go_wp2_with fail
            go_ret2
            exact HFI.out
          have hd2 : decide (i < L.length) = true := by simpa using hil
          obtain ⟨b, off, hAB, hb, hcs⟩ := psn_at (HOK.out.pr.below HBI.out) (by show 0 < L.length; omega)
          simp only at hAB hcs
          subst hAB
          obtain ⟨d0, d1⟩ := hcs i hil
          have HIDI := Lib.hid (HID.out i hil)
          clear hcs
          obtain ⟨idi, hidi⟩ : ∃ s, L[i].id = s := ⟨_, rfl⟩
          obtain ⟨si, hsi⟩ : ∃ s, L[i].s = s := ⟨_, rfl⟩
          rw [hidi] at d0 HIDI
          rw [hsi] at d1
          clear hidi hsi
          obtain ⟨sia, sic, sil⟩ := si
          simp only at d1
          obtain ⟨wX, hwX⟩ : ∃ wX, wX = wi.alloc (.cells #[.string idi, .slice sia sil.length sic] 46) := ⟨_, rfl⟩
          have HPX2 : Hid (Gq wi wX) := by rw [hwX]; exact (Gq.refl _).alloc _
          have HKX : Hid (Blk wX wi.heap.size 46 [.string idi, .slice sia sil.length sic]) := by rw [hwX]; exact Blk.new wi _ _
          have HOX : Hid (wX.ownsRow (wq.heap.size + 1) 38 2 (.slice oA D.length oC) D.length (D.flatMap pcs)) := own_belowL HDO.out HPX2.out
          have HMX : Hid (OMap Tryz.prog 38 wX wq.heap.size (i * 100 + 0) (setF (memQ D))) := HDM.out.below HPX2.out
          have HGXQ : Hid (Gq wq wX) := Below.trans HDG.out (Below.mono HPX2.out (Below.size HDG.out))
          have hszX : wq.heap.size + 1 ≤ wX.heap.size := Nat.le_trans hszi (Below.size HPX2.out)
          have HGX0 : Hid (Gq w0 wX) := Below.trans HGI.out (Below.mono HPX2.out (Below.size HGI.out))
          have x0 := (HPX.out wX HGX0.out).2.1
          have HWX := Lib.hid hwX
          have i0 : (0 : Int) ≤ (i : Int) := by omega
          have i1 : (i : Int) ≤ (c : Int) := by omega
          have i2 : (i : Int) ≤ (L.length : Int) := by omega
          clear hwX
          go_upto_region 30 with (fail)
          rw [← HWX.out]
          clear d0 d1
          go_wp2_with fail
          go_loopw [18, 100] (fun ov jv wr => ∃ (k : Nat) (E : List (ByteArray × ByteArray)), k ≤ i ∧ jv = .int .i64 (k : Int) ∧ E.length ≤ i * 100 + k ∧ Hid (E = rowI p i k D) ∧ Hid (wr.ownsRow (wq.heap.size + 1) 38 2 ov E.length (E.flatMap pcs)) ∧ Hid (OMap Tryz.prog 38 wr wq.heap.size (i * 100 + k) (setF (memQ E))) ∧ Hid (Gq wq wr) ∧ wX.heap.size ≤ wr.heap.size ∧ Hid (Blk wr wi.heap.size 46 [.string idi, .slice sia sil.length sic])) (fun _ jv _ => i - (intOf jv).toNat)
          case atStart => exact ⟨0, D, Nat.zero_le _, rfl, by omega, rfl, HOX, HMX, HGXQ, Nat.le_refl _, HKX⟩
          case round =>
            obtain ⟨k, E, hk, rfl, hEl, HEE, HEO, HEM, HEG, hszk, HKK⟩ := hrel
            obtain ⟨wk, hwk⟩ : ∃ wk, wk = wr := ⟨_, rfl⟩
            subst hwk
            obtain ⟨qA, qC, rfl⟩ := slice_of_own HEO.out
            have HGK : Hid (Gq w0 wk) := Below.trans HGX.out (Below.mono HEG.out (Below.size HGX.out))
            have HBK := Lib.hid (HPX.out wk HGK.out).1
            clear x0
            by_cases hki : k < i
            case neg =>
              have hd3 : decide (k < i) = false := by simpa using hki
              have hke : k = i := by omega
              have HF : Hid (E = outI p (i + 1)) := by show _ = _; rw [HEE.out, hke, outI_succ, HDE.out]
              have HM8 : Hid (OMap Tryz.prog 38 wk wq.heap.size ((i + 1) * 100) (setF (memQ E))) := HEM.out.mono (by omega)
              have hEl2 : E.length ≤ (i + 1) * 100 := by omega
              have hsz8 : wq.heap.size + 1 ≤ wk.heap.size := by omega
              clear hke hki
              go_wp2_with fail
              go_roundw
              case rel => exact ⟨i + 1, E, by omega, by go_num, hEl2, HF, HEO, HM8, HEG, hsz8⟩
              case measure => simp [intOf]; omega
            have hd3 : decide (k < i) = true := by simpa using hki
            have hkl : k < L.length := by omega
            obtain ⟨b2, off2, hAB2, hb2, hcs2⟩ := psn_at (HOK.out.pr.below HBK.out) (by show 0 < L.length; omega)
            simp only at hAB2 hcs2
            obtain ⟨rfl, rfl⟩ : b = b2 ∧ off = off2 := by
              injection hAB2 with hAB2
              injection hAB2 with e1 e2
              exact ⟨e1, e2⟩
            obtain ⟨d0, d1⟩ := hcs2 k hkl
            have HIDK := Lib.hid (HID.out k hkl)
            clear hcs2 hAB2
            obtain ⟨idk, hidk⟩ : ∃ s, L[k].id = s := ⟨_, rfl⟩
            obtain ⟨sk, hsk⟩ : ∃ s, L[k].s = s := ⟨_, rfl⟩
            rw [hidk] at d0 HIDK
            rw [hsk] at d1
            clear hidk hsk
            obtain ⟨ska, skc, skl⟩ := sk
            simp only at d1
            obtain ⟨wY, hwY⟩ : ∃ wY, wY = (wk.alloc (.cells #[.int .i64 (k : Int)] 3)).alloc (.cells #[.string idk, .slice ska skl.length skc] 46) := ⟨_, rfl⟩
            have HWY := Lib.hid hwY
            have HPY : Hid (Gq wk wY) := by rw [hwY]; exact ((Gq.refl _).alloc _).alloc _
            have HKY : Hid (Blk wY wi.heap.size 46 [.string idi, .slice sia sil.length sic]) := HKK.out.same (Same.of_below (S := fun _ => True) HPY.out) trivial
            have HIY : Hid (Blk wY wk.heap.size 3 [.int .i64 (k : Int)]) := by
              rw [hwY]
              exact (Blk.new wk 3 [.int .i64 (k : Int)]).same (Same.of_below (S := fun _ => True) ((Below.refl _ _).alloc (Nat.le_refl _) _)) trivial
            have k0 : wY.cell? ⟨wi.heap.size, 0, none⟩ = some (.string idi) := HKY.out.cell 0
            have k1 : wY.cell? ⟨wk.heap.size + 1, 0, none⟩ = some (.string idk) := by rw [hwY]; exact new_cell (cs := [_, _]) (by simp) rfl
            have HQY : Hid (Gq wq wY) := Below.trans HEG.out (Below.mono HPY.out (Below.size HEG.out))
            have HMB : Hid (OMap Tryz.prog 9 wY mb 30000 (ofK p.ps (lab p) p.ps.length)) := OMap.below HOF.out (Below.trans HG.out (Below.mono (Below.trans HGQ.out (Below.mono HQY.out (Below.size HGQ.out))) (Below.size HG.out)))
            have hip : i < p.ps.length := by rw [HLN.out]; exact hil
            have hkp : k < p.ps.length := by rw [HLN.out]; exact hkl
            have HKA := Lib.hid (strKey (HSZ.out i hil))
            have HKB := Lib.hid (strKey (HSZ.out k hkl))
            have hrA := fun n => (HMB.out.drewN n).look strKeyed Tryz.underlying41 zeroStr HKA.out
            have hrB := fun n => (HMB.out.drewN n).look strKeyed Tryz.underlying41 zeroStr HKB.out
            have hvA : ofK p.ps (lab p) p.ps.length (.string (idAt p.ps i)) = some (.string (idAt p.ps (lab p i))) := by rw [ofK_at (by rw [HPR.out.ps.ixAt hip]; exact hip), HPR.out.ps.ixAt hip]
            have hvB : ofK p.ps (lab p) p.ps.length (.string (idAt p.ps k)) = some (.string (idAt p.ps (lab p k))) := by rw [ofK_at (by rw [HPR.out.ps.ixAt hkp]; exact hkp), HPR.out.ps.ixAt hkp]
            simp only [hvA, Option.getD_some] at hrA
            simp only [hvB, Option.getD_some] at hrB
            simp only [HIDI.out] at hrA
            simp only [HIDK.out] at hrB
            have HMM := Lib.hid (min_max_id HPR.out hip hkp)
            have HEQ : Hid (idAt p.ps (lab p i) = idAt p.ps (lab p k) ↔ lab p i = lab p k) := HPR.out.ps.idInj (lab_lt hip) (lab_lt hkp)
            have HSUC := Lib.hid (rowI_succ p i k D)
            have HPZ : Hid ((prI p i k).1.size ≤ 9223372036854775807 ∧ (prI p i k).2.size ≤ 9223372036854775807) := by
              have h1 := lab_lt hip
              have h2 := lab_lt hkp
              exact ⟨HSZ.out _ (by rw [← HLN.out]; omega), HSZ.out _ (by rw [← HLN.out]; omega)⟩
            rw [← HEE.out] at HSUC
            unfold stepI skipI at HSUC
            obtain ⟨pr, hpr⟩ : ∃ pr, prI p i k = pr := ⟨_, rfl⟩
            rw [hpr] at HSUC HMM HPZ
            obtain ⟨qa, hqa⟩ : ∃ v, decide (lab p i = lab p k) = v := ⟨_, rfl⟩
            obtain ⟨qt, hqt⟩ : ∃ v, twoP p p.cs.length pr = v := ⟨_, rfl⟩
            obtain ⟨qf, hqf⟩ : ∃ v, memQ E pr = v := ⟨_, rfl⟩
            obtain ⟨qh, hqh⟩ : ∃ v, agrP (nsAt p i) (nsAt p k) = v := ⟨_, rfl⟩
            have HQH := Lib.hid hqh
            rw [hqa, hqt, hqf, hqh] at HSUC
            obtain ⟨nA, hnA⟩ : ∃ nA, idAt p.ps (lab p i) = nA := ⟨_, rfl⟩
            obtain ⟨nB, hnB⟩ : ∃ nB, idAt p.ps (lab p k) = nB := ⟨_, rfl⟩
            rw [hnA, hnB] at HMM HEQ
            simp only [hnA] at hrA
            simp only [hnB] at hrB
            have hqs : (nA.toList == nB.toList) = qa := by
              by_cases e : lab p i = lab p k
              · rw [← hqa, seq_t (HEQ.out.2 e)]; simp [e]
              · rw [← hqa, seq_f (fun h => e (HEQ.out.1 h))]; simp [e]
            have HQT := Lib.hid hqt
            have HQF := Lib.hid hqf
            have HQS := Lib.hid hqs
            clear hvA hvB hip hkp hpr hqa hqt hqf hqh hnA hnB hqs HEQ hwY
            go_upto_region 33 with (fail)
            rw [← HWY.out]
            clear d0 d1
            go_quiet (fail)
            have HP8 : Hid (Gq wk (wY.drewN nq)) := below_drewN HPY.out nq
            obtain ⟨w8, hw8⟩ : ∃ w8, w8 = wY.drewN nq := ⟨_, rfl⟩
            have HY8 : Hid (Gq wY w8) := by rw [hw8]; exact below_drewN (Gq.refl wY) nq
            rw [← hw8] at HP8 ⊢
            clear hw8 hrA hrB k0 k1 HMB
            have hrx := Lib.run_max_strs (P := Tryz.prog) w8 #[9, 9] 9 nA nB
            have hrn := Lib.run_min_strs (P := Tryz.prog) w8 #[9, 9] 9 nA nB
            have e1 : Lib.minS nA nB = pr.1 := congrArg Prod.fst HMM.out
            have e2 : Lib.maxS nA nB = pr.2 := congrArg Prod.snd HMM.out
            rw [e2] at hrx
            rw [e1] at hrn
            clear e1 e2
            obtain ⟨w9, hw9⟩ : ∃ w9, w9 = w8.alloc (.cells #[.string pr.1, .string pr.2] 38) := ⟨_, rfl⟩
            have HB9 : Hid (Blk w9 w8.heap.size 38 [.string pr.1, .string pr.2]) := by rw [hw9]; exact Blk.new w8 _ _
            have HP9 : Hid (Gq wk w9) := by rw [hw9]; exact HP8.out.alloc _
            have HY9 : Hid (Gq wY w9) := by rw [hw9]; exact HY8.out.alloc _
            have HW9 := Lib.hid hw9
            clear hw9
            go_upto_region 35 with (fail)
            rw [← HW9.out]
            clear hrx hrn
            have hsz9 : wX.heap.size ≤ w9.heap.size := Nat.le_trans hszk (Below.size HP9.out)
            have HQ9 : Hid (Gq wq w9) := Below.trans HEG.out (Below.mono HP9.out (Below.size HEG.out))
            have HO9 : Hid (w9.ownsRow (wq.heap.size + 1) 38 2 (.slice qA E.length qC) E.length (E.flatMap pcs)) := own_belowL HEO.out HP9.out
            have HMF : Hid (OMap Tryz.prog 38 w9 wq.heap.size (i * 100 + k) (setF (memQ E))) := HEM.out.below HP9.out
            have HM9 : Hid (OMap Tryz.prog 38 w9 wq.heap.size (i * 100 + (k + 1)) (setF (memQ E))) := HMF.out.mono (by omega)
            have HK9 : Hid (Blk w9 wi.heap.size 46 [.string idi, .slice sia sil.length sic]) := HKK.out.same (Same.of_below (S := fun _ => True) HP9.out) trivial
            have HI9 : Hid (Blk w9 wk.heap.size 3 [.int .i64 (k : Int)]) := HIY.out.same (Same.of_below (S := fun _ => True) HY9.out) trivial
            have HT9 : Hid (OMap Tryz.prog 38 w9 w2.heap.size 200 (setF (twoP p p.cs.length))) := HTF.out.below (Below.trans HGQ.out (Below.mono HQ9.out (Below.size HGQ.out)))
            obtain ⟨kl, hkl2⟩ := keyPr pr HPZ.out.1 HPZ.out.2
            have HKL := Lib.hid hkl2
            have hrt := HT9.out.look prKeyed Tryz.underlying59 zeroBoolP hkl2
            have hrf := HMF.out.look prKeyed Tryz.underlying59 zeroBoolP hkl2
            rw [setF_get, HQT.out] at hrt
            rw [setF_get, HQF.out] at hrf
            unfold pv at hrt hrf
            have hqs := HQS.out
            have p0 : w9.cell? ⟨w8.heap.size, 0, none⟩ = some (.string pr.1) := HB9.out.cell 0
            have p1 : w9.cell? ⟨w8.heap.size, 1, none⟩ = some (.string pr.2) := HB9.out.cell 1
            have he9 : E.length + 1 ≤ i * 100 + (k + 1) := by omega
            have hsz89 : wk.heap.size ≤ w8.heap.size := Below.size HP8.out
            clear hkl2 HKK HEO HEM HKY HIY HP8 HY8 HPY HEE
            cases qa with
            | true =>
              have HE2 : Hid (E = rowI p i (k + 1) D) := by show _ = _; rw [HSUC.out]; rfl
              go_wp2_with fail
              go_roundw
              case rel => exact ⟨k + 1, E, by omega, by go_num, by omega, HE2, HO9, HM9, HQ9, hsz9, HK9⟩
              case measure => simp [intOf]; omega
            | false =>
            cases qt with
            | true =>
              have HE2 : Hid (E = rowI p i (k + 1) D) := by show _ = _; rw [HSUC.out]; rfl
              go_wp2_with fail
              go_roundw
              case rel => exact ⟨k + 1, E, by omega, by go_num, by omega, HE2, HO9, HM9, HQ9, hsz9, HK9⟩
              case measure => simp [intOf]; omega
            | false =>
            cases qf with
            | true =>
              have HE2 : Hid (E = rowI p i (k + 1) D) := by show _ = _; rw [HSUC.out]; rfl
              go_wp2_with fail
              go_roundw
              case rel => exact ⟨k + 1, E, by omega, by go_num, by omega, HE2, HO9, HM9, HQ9, hsz9, HK9⟩
              case measure => simp [intOf]; omega
            | false =>
            obtain ⟨gA, cA, hab⟩ := HAB.out (by omega)
            have HABX := Lib.hid hab
            obtain ⟨hb0, hal⟩ := hab w9 HQ9.out
            have HAL9 := Lib.hid hal
            obtain ⟨hv, hc9, hA9, cc9, hh, rfl, hhl, hrd, hwd⟩ := hal.2 i (by rw [hal.1]; exact hil)
            have hli : (p.ps.map fun y => wdNs y.ns)[i]'(by rw [hal.1]; exact hil) = wdNs (nsAt p i) := by
              simp only [List.getElem_map]
              unfold nsAt; rw [getD_at _ _ _ (by rw [HLN.out]; exact hil)]
            have hlk : (p.ps.map fun y => wdNs y.ns).getD k [] = wdNs (nsAt p k) := by
              rw [getD_atW _ _ _ (by rw [hal.1]; exact hkl)]
              simp only [List.getElem_map]
              unfold nsAt; rw [getD_at _ _ _ (by rw [HLN.out]; exact hkl)]
            have HSI : Hid ((wdNs (nsAt p i)).length ≤ 100 ∧ ∀ t ∈ wdNs (nsAt p i), t.length ≤ 9223372036854775807 ∧ ∀ x ∈ t, x.length ≤ 1048576) := by
              have := HST.out _ (List.getElem_mem (by rw [hal.1]; exact hil : i < (p.ps.map fun y => wdNs y.ns).length))
              rw [hli] at this; exact this
            simp only [hli] at hc9 hhl hwd
            have HCF := Lib.hid (cfWS_any hA9 cc9 hh (fun m => agW ((wdNs (nsAt p i)).getD m []) (wdNs (nsAt p k))) wo.heap.size wk.heap.size w9 hrd.rd (by have := HSI.out.1; omega) (fun m hm W hW => by
              have hml : m < (wdNs (nsAt p i)).length := by omega
              have hQW : Gq wq W := Below.trans HQ9.out (Below.mono hW (Below.size HQ9.out))
              have h1 := dbt1_any hh[m] (wdNs (nsAt p i))[m] wo.heap.size wk.heap.size gA L.length cA k (p.ps.map fun y => wdNs y.ns) W ((hwd m hm hml).same (Same.of_below hW)) (HABX.out W hQW).1 ((HI9.out.same (Same.of_below (S := fun _ => True) hW) trivial).cell 0) (HABX.out W hQW).2 hkl hn100 (HSI.out.2 _ (List.getElem_mem hml)).1 (HSI.out.2 _ (List.getElem_mem hml)).2 (fun l hl => ⟨(HST.out l hl).1, fun t ht => ((HST.out l hl).2 t ht).2⟩)
              rw [hlk] at h1
              simp only [getD_atW _ _ _ hml]
              exact h1))
            rw [hhl, agr_range, HQH.out] at HCF
            have hn0 : (i : Int) < (L.length : Int) := by omega
            have HHL := Lib.hid hhl
            obtain ⟨ln, hln⟩ : ∃ ln, (wdNs (nsAt p i)).length = ln := ⟨_, rfl⟩
            rw [hln] at hc9 HCF
            clear hab hal hrd hwd hli hlk hhl hln
            go_wp2_with fail
            refine HCF.out.mono ?_
            rintro e wZ ⟨rfl, hqZ⟩
            have HPZ2 : Hid (Gq w9 wZ) := hqZ
            have HQZ : Hid (Gq wq wZ) := Below.trans HQ9.out (Below.mono hqZ (Below.size HQ9.out))
            have HOZ : Hid (wZ.ownsRow (wq.heap.size + 1) 38 2 (.slice qA E.length qC) E.length (E.flatMap pcs)) := own_belowL HO9.out hqZ
            have HMZ : Hid (OMap Tryz.prog 38 wZ wq.heap.size (i * 100 + k) (setF (memQ E))) := HMF.out.below hqZ
            have HKZ : Hid (Blk wZ wi.heap.size 46 [.string idi, .slice sia sil.length sic]) := HK9.out.same (Same.of_below (S := fun _ => True) hqZ) trivial
            have HBZ : Hid (Blk wZ w8.heap.size 38 [.string pr.1, .string pr.2]) := HB9.out.same (Same.of_below (S := fun _ => True) hqZ) trivial
            have hszZ : wX.heap.size ≤ wZ.heap.size := Nat.le_trans hsz9 (Below.size hqZ)
            clear hqZ hrt hrf hqs p0 p1 hb0 hc9 HCF HMF HO9 HM9 HK9 HB9 HI9 HT9 HQ9
            cases qh with
            | false =>
              have HE2 : Hid (E = rowI p i (k + 1) D) := by show _ = _; rw [HSUC.out]; rfl
              have HMZ2 : Hid (OMap Tryz.prog 38 wZ wq.heap.size (i * 100 + (k + 1)) (setF (memQ E))) := HMZ.out.mono (by omega)
              go_wp2_with fail
              go_roundw
              case rel => exact ⟨k + 1, E, by omega, by go_num, by omega, HE2, HOZ, HMZ2, HQZ, hszZ, HKZ⟩
              case measure => simp [intOf]; omega
            | true =>
              have HE2 : Hid (E ++ [pr] = rowI p i (k + 1) D) := by show _ = _; rw [HSUC.out]; rfl
              have HPUT := Lib.hid (setF_put (f := memQ E) (g := memQ (E ++ [pr])) (x := pr) (memQ_snoc E pr))
              have p0 : wZ.cell? ⟨w8.heap.size, 0, none⟩ = some (.string pr.1) := HBZ.out.cell 0
              have p1 : wZ.cell? ⟨w8.heap.size, 1, none⟩ = some (.string pr.2) := HBZ.out.cell 1
              have hn1 : i * 100 + k ≤ 20000 := by omega
              have hn2 : E.length ≤ 20000 := by omega
              go_upto_region 38 with (at_mapUpdate; refine wpList_omap _ rfl _ _ _ 59 rfl 38 4 prKeyed Tryz.underlying59 wq.heap.size (i * 100 + k) (setF (memQ E)) (by rfl) HMZ.out (by unfold maxLen; omega) (pv pr) (.bool true) (by rfl) (by rfl) _ HKL.out (setF (memQ (E ++ [pr]))) HPUT.out.1 HPUT.out.2 ?_; intro w11 ho11 hg11)
              have HM11 : Hid (OMap Tryz.prog 38 w11 wq.heap.size (i * 100 + (k + 1)) (setF (memQ (E ++ [pr])))) := ho11
              have HQ11 : Hid (Gq wq w11) := Below.grown HQZ.out hg11 (Below.size HQZ.out) (fun j hj => by injection hj with hj; omega)
              have HO11 : Hid (w11.ownsRow (wq.heap.size + 1) 38 2 (.slice qA E.length qC) E.length (E.flatMap pcs)) := own_keep HOZ.out hg11 (fun b hb e => by injection e with e; have := (HOZ.out.lt b hb).1; omega)
              have HK11 : Hid (Blk w11 wi.heap.size 46 [.string idi, .slice sia sil.length sic]) := blk_grown HKZ.out hg11 (fun e => by injection e with e; omega)
              have HB11 : Hid (Blk w11 w8.heap.size 38 [.string pr.1, .string pr.2]) := blk_grown HBZ.out hg11 (fun e => by injection e with e; omega)
              have hsz11 : wX.heap.size ≤ w11.heap.size := Nat.le_trans hszZ hg11.size
              clear ho11 hg11 p0 p1
              have p0 : w11.cell? ⟨w8.heap.size, 0, none⟩ = some (.string pr.1) := HB11.out.cell 0
              have p1 : w11.cell? ⟨w8.heap.size, 1, none⟩ = some (.string pr.2) := HB11.out.cell 1
              have hA : Gq w11 (w11.alloc (.cells #[.string pr.1, .string pr.2] 38)) := (Gq.refl _).alloc _
              have HOA : Hid ((w11.alloc (.cells #[.string pr.1, .string pr.2] 38)).ownsRow (wq.heap.size + 1) 38 2 (.slice qA E.length qC) E.length (E.flatMap pcs)) := HO11.out.alloc _
              have HAP : Hid (∀ w12, (w11.alloc (.cells #[.string pr.1, .string pr.2] 38)).grownBy w12 (Value.slice qA E.length qC).ownBlock → OMap Tryz.prog 38 w12 wq.heap.size (i * 100 + (k + 1)) (setF (memQ (E ++ [pr]))) ∧ Gq wq w12 ∧ wX.heap.size ≤ w12.heap.size ∧ Blk w12 wi.heap.size 46 [.string idi, .slice sia sil.length sic]) := fun w12 hg => by
                have hlt : ∀ b, (Value.slice qA E.length qC).ownBlock = some b → wq.heap.size + 1 ≤ b ∧ b < w11.heap.size := HO11.out.lt
                refine ⟨(HM11.out.below hA).kept hg (fun e => by have := (hlt _ e.symm).1; omega), Below.grown (Below.trans HQ11.out (Below.mono hA (Below.size HQ11.out))) hg (by have := Below.size hA; omega) (fun b hb => by have := (hlt b hb).1; omega), by have := hg.size; have := Below.size hA; omega, ?_⟩
                have hK2 : Blk (w11.alloc (.cells #[.string pr.1, .string pr.2] 38)) wi.heap.size 46 [.string idi, .slice sia sil.length sic] := HK11.out.same (Same.of_below (S := fun _ => True) hA) trivial
                exact blk_grown hK2 hg (fun e => own_ne HO11.out HK11.out (by decide) _ e.symm rfl)
              clear hA
              go_wp2_with (at_builtin; refine wpList_append_lies _ rfl _ _ 34 rfl (wq.heap.size + 1) 38 ip _ 2 32 Tryz.underlying34 HIP.out.1 HIP.out.2.1 HIP.out.2.2.1 HIP.out.2.2.2 rfl (by decide) _ _ _ rfl HOA.out ⟨w11.heap.size, 0, none⟩ 1 1 [.string pr.1, .string pr.2] (by rfl) (by rfl) (World.news_of_block (cs := #[.string pr.1, .string pr.2]) (t := 38) (fr := (0, 0)) (heap_alloc_new w11 _)) (by simp [Value.oneCell']) (by decide) (by unfold maxLen; omega) (by omega) (by simp; omega) (w11.heap.size + 1) (by simp) ?_; intro g2 cap2 w12 hown2 hgrow2 hat2 hlt2)
              have HF12 := Lib.hid (HAP.out w12 hgrow2)
              have HO12 : Hid (w12.ownsRow (wq.heap.size + 1) 38 2 (.slice (some ⟨g2, 0, none⟩) (E ++ [pr]).length cap2) (E ++ [pr]).length ((E ++ [pr]).flatMap pcs)) := by
                show World.ownsRow _ _ _ _ _ _ _
                rw [show (E ++ [pr]).flatMap pcs = E.flatMap pcs ++ [.string pr.1, .string pr.2] from pcs_snoc E pr.1 pr.2, List.length_append]
                exact hown2
              have hl5 : (E ++ [pr]).length = E.length + 1 := by simp
              clear hown2 hgrow2 hat2 hlt2
              generalize E ++ [pr] = E5 at *
              have HL5 := Lib.hid hl5
              have hl6 : E5.length ≤ i * 100 + (k + 1) := by omega
              clear hl5
              go_wp2_with fail
              go_roundw
              case rel => exact ⟨k + 1, E5, by omega, by go_num, hl6, HE2, by rw [← HL5.out]; exact HO12, HF12.out.1, HF12.out.2.1, HF12.out.2.2.1, HF12.out.2.2.2⟩
              case measure => simp [intOf]; omega
      have hd1 : decide (k < L.length) = true := by simpa using hlt
      obtain ⟨aA, aC, rfl⟩ := slice_of_own hown
      have HBLK := Lib.hid hblk
      have HOWN := Lib.hid hown
      have HNM := Lib.hid hnm
      have HSL := Lib.hid hsl
      obtain ⟨b, off, hAB, hb, hcs⟩ := psn_at (HOK.out.pr.below HBX.out) (by show 0 < L.length; omega)
      simp only at hAB hcs
      subst hAB
      obtain ⟨d0, d1⟩ := hcs k hlt
      have hpo := (HOK.out.po _ (List.getElem_mem hlt)).below HBX.out
      have HNK := Lib.hid (HNS.out k hlt)
      have HNSZ : Hid (∀ s ∈ nsAt p k, s.size ≤ 1048576) := fun s hs => by
        have hkp : k < p.ps.length := by rw [HLN.out]; exact hlt
        have h1 := HPR.out.ps.nms k hkp
        unfold nsAt at hs
        rw [getD_at _ _ _ hkp] at hs
        exact nms_size h1 s hs
      have hkN : (nsAt p k).length ≤ 10 := by
        have hkp : k < p.ps.length := by rw [HLN.out]; exact hlt
        have h1 := HPR.out.ps.nms k hkp
        unfold nsAt
        rw [getD_at _ _ _ hkp]
        unfold nmsF at h1
        split at h1
        · omega
        · split at h1
          · omega
          · omega
      rw [HNK.out] at HNSZ hkN
      clear hcs hown hnm hsl hgq hblk HAL
      generalize L[k] = xx at *
      obtain ⟨id1, ⟨sa, sc1, sl⟩⟩ := xx
      obtain ⟨_, _, hrx, _⟩ := hpo
      simp only at d0 d1 hrx HNK HNSZ hkN
      obtain ⟨wB, hwB⟩ : ∃ wB, wB = wq.alloc (.cells #[.string id1, .slice sa sl.length sc1] 46) := ⟨_, rfl⟩
      have HPB : Hid (Gq wq wB) := by rw [hwB]; exact (Gq.refl _).alloc _
      have k1 : wB.cell? ⟨wq.heap.size, 1, none⟩ = some (.slice sa sl.length sc1) := by rw [hwB]; exact new_cell (cs := [_, _]) rfl rfl
      have HRX := Lib.hid (hrx.below HPB.out)
      have HWB := Lib.hid hwB
      have HN0 : Hid (NamI wB wB (.slice none 0 0) sl 0) := ⟨[], rfl, World.ownsRow_nil _ _ _ _, (fun i h => by cases h), Gq.refl _⟩
      clear hwB hrx
      go_upto_region 18 with (fail)
      rw [← HWB.out]
      clear d0 d1
      go_wp2_with fail
      go_loopw [14, 71] (fun lv jv wr => ∃ j : Nat, j ≤ sl.length ∧ jv = .int .i64 (j : Int) ∧ Hid (NamI wB wr lv sl j)) (fun _ jv _ => sl.length - (intOf jv).toNat)
      case atStart => exact ⟨0, Nat.zero_le _, rfl, HN0⟩
      case round =>
        obtain ⟨j, hj, rfl, HNI⟩ := hrel
        obtain ⟨wn, hwn⟩ : ∃ wn, wn = wr := ⟨_, rfl⟩
        subst hwn
        obtain ⟨ws, hwl, hown, hwd, hgn⟩ := HNI.out
        obtain ⟨lA, lC, rfl⟩ := slice_of_own hown
        have hszn := Below.size hgn
        by_cases hjl : j < sl.length
        case pos =>
          have hd2 : decide (j < sl.length) = true := by simpa using hjl
          obtain ⟨b2, off2, rfl, hb2, hcs2⟩ := (HRX.out.below hgn).at_ (by rw [sb_len]; omega)
          have e0 := hcs2 j _ (sb_at sl j hjl)
          have HWN := Lib.hid (words_own sl[j] wn (HNSZ.out _ (List.getElem_mem hjl)))
          have HOW := Lib.hid hown
          have HWD := Lib.hid hwd
          have HGN : Hid (Gq wB wn) := hgn
          have HWL := Lib.hid hwl
          clear hcs2 hown hwd hgn hwl HNI
          obtain ⟨nj, hnj⟩ : ∃ nj, sl[j] = nj := ⟨_, rfl⟩
          rw [hnj] at e0 HWN
          have HNJ := Lib.hid hnj
          clear hnj
          go_wp2_with fail
          refine HWN.out.mono ?_
          rintro e wC ⟨wA, wc2, rfl, hwr, hqC⟩
          have HGC : Hid (Gq wn wC) := hqC
          have HWR := Lib.hid hwr
          have HWLN : Hid (wordsP nj.data.toList = wdN nj) := rfl
          rw [HWLN.out] at HWR
          rw [HWLN.out]
          clear hwr hqC e0
          obtain ⟨wl, hwl2⟩ : ∃ wl, wdN nj = wl := ⟨_, rfl⟩
          have HWJ : Hid (wdN sl[j] = wl) := by show _ = _; rw [HNJ.out, hwl2]
          rw [hwl2] at HWR
          rw [hwl2]
          clear hwl2
          have HOA : Hid ((wC.alloc (.cells #[.slice wA wl.length wc2] 44)).ownsRow wB.heap.size 44 1 (.slice lA j lC) j ws) := (own_belowL HOW.out HGC.out).alloc _
          have hszC := Below.size HGC.out
          have hjm : j ≤ 10 := by omega
          go_wp2_with (at_builtin; refine wpList_append_lies _ rfl _ _ 26 rfl wB.heap.size 44 is _ 1 24 Tryz.underlying26 HIS.out.1 HIS.out.2.1 HIS.out.2.2.1 HIS.out.2.2.2 rfl (by decide) _ _ _ rfl HOA.out ⟨wC.heap.size, 0, none⟩ 1 1 [.slice wA wl.length wc2] (by rfl) (by rfl) (World.news_of_block (cs := #[.slice wA wl.length wc2]) (t := 44) (fr := (0, 0)) (heap_alloc_new wC _)) (by simp [Value.oneCell']) (by decide) (by unfold maxLen; omega) (by omega) (by simp; omega) (wC.heap.size + 1) (by simp) ?_; intro g2 cap2 w7 hown2 hgrow2 hat2 hlt2)
          have HN7 : Hid (NamI wB w7 (.slice (some ⟨g2, 0, none⟩) (j + 1) cap2) sl (j + 1)) := by
            refine namI_snoc (wA := wA) (wc2 := wc2) HWL.out HOW.out HWD.out HGN.out hjl HGC.out ?_ ?_ hgrow2 hat2
            · rw [HWJ.out]; exact HWR.out
            · rw [HWJ.out]; exact hown2
          clear hown2 hgrow2 hat2 hlt2 HOA
          go_wp2_with fail
          go_roundw
          case rel => exact ⟨j + 1, by omega, by go_num, HN7⟩
          case measure => simp [intOf]; omega
        have hd2 : decide (j < sl.length) = false := by simpa using hjl
        have hje : j = sl.length := by omega
        have HQN : Hid (Gq wq wn) := Below.trans HPB.out (Below.mono hgn (Below.size HPB.out))
        have HNN : Hid (NmS (fun b => wq.heap.size ≤ b) wn (.slice lA j lC) (wdNs (nsAt p k))) := by
          show NmS _ _ _ _
          rw [HNK.out]
          have hll : j = (wdNs sl).length := by unfold wdNs; rw [List.length_map]; exact hje
          have hsB := Below.size HPB.out
          refine ⟨lA, lC, ws, by rw [← hll], by omega, (rds_base hown).mono (fun b _ hb => by omega), fun i h1 h2 => ?_⟩
          have h3 : i < sl.length := by omega
          have h4 := hwd i h1 h3
          have h5 : (wdNs sl)[i] = wdN sl[i] := by simp only [wdNs, List.getElem_map]
          rw [h5]
          exact h4.mono (fun b _ hb => by have := hb.1; omega)
        have HOA : Hid ((wn.alloc (.cells #[.slice lA j lC] 26)).ownsRow (wo.heap.size + 1) 26 1 (.slice aA k aC) k hs) := (own_belowL HOWN.out HQN.out).alloc _
        have hcn : wn.cell? ⟨wo.heap.size, 0, none⟩ = some (.slice aA k aC) := (HBLK.out.same (Same.of_below (S := fun _ => True) HQN.out) trivial).cell 0
        have hszw := Below.size HQN.out
        clear hje hjl hown hwd hgn hwl HNI k1
        go_wp2_with (at_builtin; refine wpList_append_lies _ rfl _ _ 60 rfl (wo.heap.size + 1) 26 ir _ 1 24 Tryz.underlying60 HIR.out.1 HIR.out.2.1 HIR.out.2.2.1 HIR.out.2.2.2 rfl (by decide) _ _ _ rfl HOA.out ⟨wn.heap.size, 0, none⟩ 1 1 [.slice lA j lC] (by rfl) (by rfl) (World.news_of_block (cs := #[.slice lA j lC]) (t := 26) (fr := (0, 0)) (heap_alloc_new wn _)) (by simp [Value.oneCell']) (by decide) (by unfold maxLen; omega) (by omega) (by simp; omega) (wn.heap.size + 1) (by simp) ?_; intro g2 cap2 w8 hown2 hgrow2 hat2 hlt2; have HAK := Lib.hid (allI_snoc (p := p) HSL.out HBLK.out HOWN.out HNM.out HGQ.out hszq HQN.out HNN.out hown2 hgrow2 hat2); have bk0 : w8.cell? ⟨wo.heap.size, 0, none⟩ = some (.slice aA k aC) := HAK.out.1.cell 0; have bf0 := HAK.out.1.frozen 0; have HAK2 := Lib.hid HAK.out.2; clear hown2 hgrow2 hat2 hlt2 HOA HAK hcn)
        go_roundw
        case rel => exact ⟨k + 1, by omega, by go_num, HAK2⟩
        case measure => simp [intOf]; omega
end Go.Proofs.YtnpdekgmiphagaaGreatDoor
/- A drawn region whose condition is strengthened behind a call: whatever program. -/
namespace Go
variable {P : Program} {ops : Array Oper} {Q : Exit → Act → World → Prop} {md : Region.Mode} {S S' : World → Prop}
theorem wpAnyH_S (hs : ∀ w, S' w → S w) : ∀ {fuel : Nat} {listed : Array Bool} {a : Act} {w : World}, wpAnyH P md ops Q S' fuel listed a w → wpAnyH P md ops Q S fuel listed a w
  | 0, _, _, _, h => h
  | _ + 1, _, _, _, h => ⟨h.1, fun i hi => wpOp_mono (fun _ _ h' => ⟨hs _ h'.1, wpAnyH_S hs h'.2⟩) (h.2 i hi)⟩
end Go
/- The contract of the reference's Main. -/
namespace Go.Proofs.YtnpdekgmiphagaaGreatDoor
open Go.RowKit Go.Dw Go.Maps

theorem Blk.gq {w w' : World} {g : Nat} {t : TypeId} {cs : List Value} (h : Blk w g t cs) (hb : Gq w w') : Blk w' g t cs := h.same (Same.of_below (S := fun _ => True) hb) trivial
theorem Blk.new2 (w : World) {w' : World} {t : TypeId} {a b : Value} (h : Gq (w.alloc (.cells #[a, b] t)) w') : Blk w' w.heap.size t [a, b] := Blk.gq (Blk.new w t [a, b]) h
theorem blk_set2 {w : World} {g : Nat} {t : TypeId} {a b u v : Value} (h : Blk w g t [a, b]) : Blk ((w.setCell ⟨g, 0, none⟩ u).setCell ⟨g, 1, none⟩ v) g t [u, v] := by
  unfold Blk at *
  obtain ⟨h1, h2⟩ := Array.getElem?_eq_some_iff.1 h
  simp [World.setCell, h1, Array.getElem_modify, h2]
theorem Gq.new (w : World) (o : Obj) : Gq w (w.alloc o) := (Gq.refl w).alloc o
set_option maxRecDepth 100000 in
set_option maxHeartbeats 40000000 in
theorem mainR_any (x : Peo) (q : ByteArray) (w : World) (h : PeoOk w x) (hmx : HasMax w) (_hq : q.size ≤ 9223372036854775807) :
    Calls Tryz.prog 10 #[x.v, .string q] w fun e w' => e = .returned (manV (manF x.x q)) ∧ Below w.heap.size w w' := by
  have HCK := Lib.hid (fun (W : World) (hW : Below w.heap.size w W) => peopleR_any x W (h.below hW) (hmx.below hW))
  have HPN := Lib.hid (fun (W : World) (hW : Below w.heap.size w W) => personR_any x q W (h.below hW))
  have HLD := Lib.hid (fun (W : World) (hW : Below w.heap.size w W) hcs hn hm => leaders_any x W (h.below hW) hcs hn hm)
  have HOK := Lib.hid h
  obtain ⟨p, hp⟩ : ∃ p, x.x = p := ⟨_, rfl⟩
  rw [hp] at HLD ⊢
  simp only [hp] at HCK HPN
  obtain ⟨⟨A, c, L⟩, ⟨B, d, C⟩⟩ := x
  have HPP : Hid (p.ps = L.map Psn.x) := by rw [← hp]; rfl
  have HLN : Hid (p.ps.length = L.length) := by show _ = _; rw [HPP.out]; simp
  clear h hmx hp
  unfold Peo.v at *
  simp only [Slc.v] at *
  obtain ⟨w0, hw0⟩ : ∃ w0, w0 = w.alloc (.cells #[.slice A L.length c, .slice B C.length d] 25) := ⟨_, rfl⟩
  have HB0 : Hid (Below w.heap.size w w0) := by rw [hw0]; exact (Below.refl _ _).alloc (Nat.le_refl _) _
  have HX0 : Hid (w0.cell? ⟨w.heap.size, 0, none⟩ = some (.slice A L.length c) ∧ w0.cell? ⟨w.heap.size, 1, none⟩ = some (.slice B C.length d)) := by rw [hw0]; exact peoBox
  have hz0 : w.heap.size < w0.heap.size := by rw [hw0]; simp
  have HW0 := Lib.hid hw0
  have HPX : Hid (∀ W, Gq w0 W → Below w.heap.size w W ∧ W.cell? ⟨w.heap.size, 0, none⟩ = some (.slice A L.length c) ∧ W.cell? ⟨w.heap.size, 1, none⟩ = some (.slice B C.length d)) := fun W hW => by
    have hb : Below w.heap.size w W := HB0.out.trans (Below.mono hW HB0.out.size)
    exact ⟨hb, by rw [Below.cell hW (by exact hz0)]; exact HX0.out.1, by rw [Below.cell hW (by exact hz0)]; exact HX0.out.2⟩
  obtain ⟨_, z0, z1⟩ := HPX.out w0 (Gq.refl _)
  obtain ⟨pf, hpf⟩ : ∃ pf, peoF p = pf := ⟨_, rfl⟩
  have HPF := Lib.hid hpf
  simp only [hpf] at HCK
  clear hw0 HX0 hpf
  have HC0 := Lib.hid (HCK.out w0 HB0.out)
  go_enter Tryz.func10, Tryz.ntmps10
  go_upto_region 1 with (fail)
  rw [← HW0.out]
  go_wp2_with fail
  refine HC0.out.mono ?_
  rintro e w1 ⟨rfl, hq1⟩
  have HG1 : Hid (Gq w0 w1) := hq1
  clear hq1 z0 z1
  obtain ⟨hbw1, z0, z1⟩ := HPX.out w1 HG1.out
  have HB1 := Lib.hid hbw1
  clear hbw1
  by_cases hz : pf = 0
  case neg =>
    have hzb : (pf != 0) = true := by simpa using hz
    have HR : Hid (manF p q = (⟨#[]⟩, ⟨#[]⟩, pf)) := by show _ = _; unfold manF; rw [HPF.out, if_pos hz]
    clear hz
    go_wp2_with fail
    go_ret3
    exact ⟨by rw [HR.out]; rfl, HB1.out⟩
  subst hz
  have HPR := Lib.hid (pplR_of HPF.out)
  have HH1 := Lib.hid (HPN.out w1 HB1.out)
  by_cases hh : ixP p.ps q < p.ps.length
  case neg =>
    rw [show pix p.ps q = -1 by unfold pix; rw [if_neg hh]] at HH1
    have HR : Hid (manF p q = (⟨#[]⟩, ⟨#[]⟩, 9)) := by show _ = _; unfold manF; rw [HPF.out, if_neg (by simp), if_pos (by omega)]
    clear hh
    go_wp2_with fail
    refine HH1.out.mono ?_
    rintro e w2 ⟨rfl, hq2⟩
    have HB2 := Lib.hid (HB1.out.trans (hq2.mono HB1.out.size))
    clear hq2
    go_wp2_with fail
    go_ret3
    exact ⟨by rw [HR.out]; rfl, HB2.out⟩
  have hd : decide (((ixP p.ps q : Nat) : Int) < 0) = false := by simp
  rw [pix_in hh] at HH1
  simp only [pix_in hh] at HPN
  have hll := lab_lt hh
  have HR : Hid (manF p q = (idAt p.ps (lab p (ixP p.ps q)), nam0 p.ps (lab p (ixP p.ps q)), 0)) := by show _ = _; unfold manF; rw [HPF.out, if_neg (by simp), if_neg (by omega)]
  go_wp2_with fail
  refine HH1.out.mono ?_
  rintro e w2 ⟨rfl, hq2⟩
  have HG2 : Hid (Gq w0 w2) := Below.trans HG1.out (hq2.mono (Below.size HG1.out))
  clear hq2 z0 z1
  have HB2 := Lib.hid (HPX.out w2 HG2.out).1
  clear HH1
  have HCL : Hid (∀ W, Gq w2 W → Calls Tryz.prog 16 #[.agg #[.slice A L.length c, .slice B C.length d]] W fun e w' => ∃ g goff c3, e = .returned (.slice (some ⟨g, goff, none⟩) p.ps.length c3) ∧ (∀ W', Gq w' W' → W'.cell? ⟨g, goff + ixP p.ps q, none⟩ = some (.int .i64 ((lab p (ixP p.ps q) : Nat) : Int))) ∧ Gq w2 w' ∧ ∀ c, Gq c W → Gq c w') := fun W hW =>
    (HLD.out W (HPX.out W (Below.trans HG2.out (Below.mono hW (Below.size HG2.out)))).1 HPR.out.cs HPR.out.n HPR.out.m).mono fun e w' ⟨A3, c3, he, hr, hb⟩ => by
      obtain ⟨g, goff, rfl, hg, hgc⟩ := hr.at_ (by rw [nc_len]; simp; omega)
      refine ⟨g, goff, c3, he, fun W' hW' => ?_, Below.trans hW (hb.mono (Below.size hW)), fun c hc => Below.trans hc (hb.mono (Below.size hc))⟩
      rw [Below.cell hW' (by exact hg)]
      exact hgc _ _ (by rw [nc_at _ _ (by simpa using hh)]; simp)
  have HCP : Hid (∀ W, Gq w2 W → Calls Tryz.prog 22 #[.agg #[.slice A L.length c, .slice B C.length d], .string q] W fun e w' => e = .returned (.int .i64 ((ixP p.ps q : Nat) : Int)) ∧ Gq w2 w' ∧ ∀ c, Gq c W → Gq c w') := fun W hW =>
    (HPN.out W (HPX.out W (Below.trans HG2.out (Below.mono hW (Below.size HG2.out)))).1).mono fun e w' ⟨he, hb⟩ => ⟨he, Below.trans hW (hb.mono (Below.size hW)), fun c hc => Below.trans hc (hb.mono (Below.size hc))⟩
  have hll2 : lab p (ixP p.ps q) < L.length := by rw [← HLN.out]; exact hll
  obtain ⟨b, off, hAB, hb, hcs⟩ := psn_at (HOK.out.pr.below HB2.out) (by show 0 < L.length; omega)
  simp only at hAB hcs
  subst hAB
  obtain ⟨d0, d1⟩ := hcs _ hll2
  have hnm : p.ps[lab p (ixP p.ps q)] = L[lab p (ixP p.ps q)].x := by simp only [HPP.out, List.getElem_map]
  have hne := nms_ne (HPR.out.ps.nms _ hll)
  have HI : Hid (idAt p.ps (lab p (ixP p.ps q)) = L[lab p (ixP p.ps q)].id) := by show _ = _; rw [idAt_at hll, hnm]; rfl
  have HNA : Hid (nam0 p.ps (lab p (ixP p.ps q)) = L[lab p (ixP p.ps q)].s.xs.headD ⟨#[]⟩) := by show _ = _; unfold nam0; rw [getD_at _ _ _ hll, hnm]; rfl
  rw [hnm] at hne
  obtain ⟨⟨o1, o2⟩, o3, o4, o5⟩ := HOK.out.po L[lab p (ixP p.ps q)] (List.getElem_mem hll2)
  have HRN := Lib.hid (o4.below HB2.out)
  rw [HI.out, HNA.out] at HR
  clear hcs hnm o4 o5 HI HNA hll HPN HLD
  generalize L[lab p (ixP p.ps q)] = xx at *
  generalize lab p (ixP p.ps q) = la at *
  generalize ixP p.ps q = ea at *
  obtain ⟨mid, ⟨sa, sc, sl⟩⟩ := xx
  simp only [Psn.x] at d0 d1 HR hne o1 o2 o3 HRN
  have e0 : (0 : Int) ≤ (ea : Int) := by omega
  have e1 : (ea : Int) < (p.ps.length : Int) := by omega
  have l0 : (0 : Int) ≤ (la : Int) := by omega
  have l1 : (la : Int) < (L.length : Int) := by omega
  have hb2 : b < w2.heap.size := hb
  have HS : Hid (∀ W, Gq w2 W → W.cell? ⟨w.heap.size, 0, none⟩ = some (.slice (some ⟨b, off, none⟩) L.length c) ∧ W.cell? ⟨w.heap.size, 1, none⟩ = some (.slice B C.length d) ∧ W.cell? ⟨b, off + la * 2, none⟩ = some (.string mid) ∧ W.cell? ⟨b, off + la * 2 + 1, none⟩ = some (.slice sa sl.length sc) ∧ Gq w2 W) := fun W hW => by
    obtain ⟨_, x0, x1⟩ := HPX.out W (Below.trans HG2.out (Below.mono hW (Below.size HG2.out)))
    exact ⟨x0, x1, by rw [Below.cell hW (by exact hb2)]; exact d0, by rw [Below.cell hW (by exact hb2)]; exact d1, hW⟩
  have hBR : Gq w2 w2 := Gq.refl _
  have hBD : Gq w2 w2.drew := (Gq.refl _).drew
  clear d0 d1
  go_upto_region 6 with (fail)
  --REGION6
  go_cut [8] (fun v W => ∃ b, v = .pointer (some ⟨b, 0, none⟩) ∧ Hid (Blk W b 46 [.string mid, .slice sa sl.length sc]) ∧ Hid (Gq w2 W))
  case rest =>
    obtain ⟨bx, rfl, hbk, hgc⟩ := hcut
    have HGC : Hid (Below w.heap.size w wc) := (HPX.out wc (Below.trans HG2.out (Below.mono hgc.out (Below.size HG2.out)))).1
    have k0 := hbk.out.cell 0
    have k1 := hbk.out.cell 1
    simp only [List.getElem?_cons_zero, List.getElem?_cons_succ] at k0 k1
    have hrn := HRN.out.below hgc.out
    cases sl with
    | nil => exact absurd rfl hne
    | cons n0 nr =>
      obtain ⟨g5, o5, rfl, hg5, hc5⟩ := hrn.at_ (by simp [sb])
      have k2 : wc.cell? ⟨g5, o5, none⟩ = some (.string n0) := hc5 0 _ rfl
      have HR2 : Hid (manF p q = (mid, n0, 0)) := HR.out
      clear hrn hc5 HR
      go_wp2_with fail
      go_quiet (fail)
      go_wp2_with fail
      go_ret3
      exact ⟨by rw [HR2.out]; rfl, below_drewN HGC.out _⟩
  case first =>
  refine wp_region_held_drew (S := fun W => W.cell? ⟨w.heap.size, 0, none⟩ = some (.slice (some ⟨b, off, none⟩) L.length c) ∧ W.cell? ⟨w.heap.size, 1, none⟩ = some (.slice B C.length d) ∧ W.cell? ⟨b, off + la * 2, none⟩ = some (.string mid) ∧ W.cell? ⟨b, off + la * 2 + 1, none⟩ = some (.slice sa sl.length sc) ∧ Gq w2 W) (by kernel_rfl) (HS.out _ hBD) (fun hHeld => ?_)
  refine wpAnyH_take (i := 0) (oi := { dst := some 18, op := Go.Op.fieldAddr 25 (Go.Operand.tmp 2) 0, type := 0, pos := "people.go:154", after := #[], guard := none }) (v := ?_) rfl (by kernel_rfl) (by kernel_rfl) (by kernel_rfl) (fun _ _ _ h => h) (Or.inl ⟨by rfl, ?_⟩) (by assumption) ?_
  rotate_left
  · (intro wS hSw; (try dsimp only at hSw); go_simp; try (with_reducible rfl))
  try simp only [Act.put, List.setIfInBounds_toArray, List.set_cons_zero, List.set_cons_succ]
  refine wpAnyH_take (i := 1) (oi := { dst := some 19, op := Go.Op.load 22 (Go.Operand.tmp 18), type := 22, pos := "people.go:154", after := #[{ on := 0, ground := Go.Ground.data }], guard := none }) (v := ?_) rfl (by kernel_rfl) (by kernel_rfl) (by kernel_rfl) (fun _ _ _ h => h) (Or.inl ⟨by rfl, ?_⟩) (by assumption) ?_
  rotate_left
  · (intro wS hSw; (try dsimp only at hSw); go_simp; try (with_reducible rfl))
  try simp only [Act.put, List.setIfInBounds_toArray, List.set_cons_zero, List.set_cons_succ]
  refine wpAnyH_take (i := 2) (oi := { dst := some 20, op := Go.Op.load 25 (Go.Operand.tmp 2), type := 25, pos := "people.go:154", after := #[], guard := none }) (v := ?_) rfl (by kernel_rfl) (by kernel_rfl) (by kernel_rfl) (fun _ _ _ h => h) (Or.inl ⟨by rfl, ?_⟩) (by assumption) ?_
  rotate_left
  · (intro wS hSw; (try dsimp only at hSw); go_simp; try (with_reducible rfl))
  try simp only [Act.put, List.setIfInBounds_toArray, List.set_cons_zero, List.set_cons_succ]
  refine wpAnyH_take (i := 4) (oi := { dst := some 22, op := Go.Op.load 25 (Go.Operand.tmp 2), type := 25, pos := "people.go:154", after := #[], guard := none }) (v := ?_) rfl (by kernel_rfl) (by kernel_rfl) (by kernel_rfl) (fun _ _ _ h => h) (Or.inl ⟨by rfl, ?_⟩) (by assumption) ?_
  rotate_left
  · (intro wS hSw; (try dsimp only at hSw); go_simp; try (with_reducible rfl))
  try simp only [Act.put, List.setIfInBounds_toArray, List.set_cons_zero, List.set_cons_succ]
  refine wpAnyH_take (i := 5) (oi := { dst := some 23, op := Go.Op.move (Go.Operand.tmp 1), type := 9, pos := "people.go:154", after := #[], guard := none }) (v := ?_) rfl (by kernel_rfl) (by kernel_rfl) (by kernel_rfl) (fun _ _ _ h => h) (Or.inl ⟨by rfl, ?_⟩) (by assumption) ?_
  rotate_left
  · (intro wS hSw; (try dsimp only at hSw); go_simp; try (with_reducible rfl))
  try simp only [Act.put, List.setIfInBounds_toArray, List.set_cons_zero, List.set_cons_succ]
  refine wpAnyH_ready (rs := [3, 11]) (by kernel_rfl) (by simp) ?_
  refine AllReadyH.cons (o := { dst := some 21, op := Go.Op.call { callee := Go.Callee.value (Go.Operand.func 16), args := #[Go.Operand.tmp 20], argTypes := #[25] }, type := 47, pos := "people.go:154", after := #[{ on := 2, ground := Go.Ground.data }], guard := none }) rfl (fun K hK => ?_) ?_
  ·
    go_simp
    with_reducible refine (HCL.out _ hBD).mono ?_
    rintro e wA ⟨g, goff, c3, rfl, hgc, hqA, hbt⟩
    go_wp2_with fail
    refine hK.out _ _ (HS.out _ hqA) (fun hHeld => ?_)
    clear hK K
    try simp only [Act.put, List.setIfInBounds_toArray, List.set_cons_zero, List.set_cons_succ]
    refine wpAnyH_ready (rs := [6, 11]) (by kernel_rfl) (by simp) ?_
    refine AllReadyH.cons (o := { dst := some 24, op := Go.Op.call { callee := Go.Callee.value (Go.Operand.func 22), args := #[Go.Operand.tmp 22, Go.Operand.tmp 23], argTypes := #[25, 9] }, type := 3, pos := "people.go:154", after := #[{ on := 4, ground := Go.Ground.data }, { on := 5, ground := Go.Ground.data }, { on := 3, ground := Go.Ground.chain }], guard := none }) rfl (fun K hK => ?_) ?_
    ·
      go_simp
      with_reducible refine (HCP.out _ hqA).mono ?_
      rintro e wB ⟨rfl, hqB, hbs⟩
      go_wp2_with fail
      refine hK.out _ _ (HS.out _ hqB) (fun hHeld => ?_)
      clear hK K
      try simp only [Act.put, List.setIfInBounds_toArray, List.set_cons_zero, List.set_cons_succ]
      have hAB : Gq wA wB := hbs _ (Gq.refl _)
      have hcell := hgc _ hAB
      have HS2 : Hid (∀ W, Gq wB W → W.cell? ⟨w.heap.size, 0, none⟩ = some (.slice (some ⟨b, off, none⟩) L.length c) ∧ W.cell? ⟨w.heap.size, 1, none⟩ = some (.slice B C.length d) ∧ W.cell? ⟨b, off + la * 2, none⟩ = some (.string mid) ∧ W.cell? ⟨b, off + la * 2 + 1, none⟩ = some (.slice sa sl.length sc) ∧ W.cell? ⟨g, goff + ea, none⟩ = some (.int .i64 (la : Int)) ∧ Gq w2 W) := fun W hW => by
        obtain ⟨y0, y1, y2, y3, y4⟩ := HS.out W (Below.trans hqB (Below.mono hW (Below.size hqB)))
        exact ⟨y0, y1, y2, y3, hgc _ (Below.trans hAB (Below.mono hW (Below.size hAB))), y4⟩
      refine wpAnyH_S (S' := fun W => W.cell? ⟨w.heap.size, 0, none⟩ = some (.slice (some ⟨b, off, none⟩) L.length c) ∧ W.cell? ⟨w.heap.size, 1, none⟩ = some (.slice B C.length d) ∧ W.cell? ⟨b, off + la * 2, none⟩ = some (.string mid) ∧ W.cell? ⟨b, off + la * 2 + 1, none⟩ = some (.slice sa sl.length sc) ∧ W.cell? ⟨g, goff + ea, none⟩ = some (.int .i64 (la : Int)) ∧ Gq w2 W) (fun W hW => ⟨hW.1, hW.2.1, hW.2.2.1, hW.2.2.2.1, hW.2.2.2.2.2⟩) ?_
      clear hHeld
      have hHeld2 := HS2.out _ (Gq.refl _)
      refine wpAnyH_take (i := 7) (oi := { dst := some 25, op := Go.Op.indexAddr 47 (Go.Operand.tmp 21) (Go.Operand.tmp 24), type := 0, pos := "people.go:154", after := #[{ on := 3, ground := Go.Ground.data }, { on := 6, ground := Go.Ground.data }], guard := none }) (v := ?_) rfl (by kernel_rfl) (by kernel_rfl) (by kernel_rfl) (fun _ _ _ h => h) (Or.inl ⟨by rfl, ?_⟩) (by assumption) ?_
      rotate_left
      · (intro wS hSw; (try dsimp only at hSw); go_simp; try (with_reducible rfl))
      try simp only [Act.put, List.setIfInBounds_toArray, List.set_cons_zero, List.set_cons_succ]
      refine wpAnyH_take (i := 8) (oi := { dst := some 26, op := Go.Op.load 3 (Go.Operand.tmp 25), type := 3, pos := "people.go:154", after := #[{ on := 7, ground := Go.Ground.data }], guard := none }) (v := ?_) rfl (by kernel_rfl) (by kernel_rfl) (by kernel_rfl) (fun _ _ _ h => h) (Or.inl ⟨by rfl, ?_⟩) (by assumption) ?_
      rotate_left
      · (intro wS hSw; (try dsimp only at hSw); go_simp; try (with_reducible rfl))
      try simp only [Act.put, List.setIfInBounds_toArray, List.set_cons_zero, List.set_cons_succ]
      refine wpAnyH_take (i := 9) (oi := { dst := some 27, op := Go.Op.indexAddr 22 (Go.Operand.tmp 19) (Go.Operand.tmp 26), type := 0, pos := "people.go:154", after := #[{ on := 1, ground := Go.Ground.data }, { on := 8, ground := Go.Ground.data }], guard := none }) (v := ?_) rfl (by kernel_rfl) (by kernel_rfl) (by kernel_rfl) (fun _ _ _ h => h) (Or.inl ⟨by rfl, ?_⟩) (by assumption) ?_
      rotate_left
      · (intro wS hSw; (try dsimp only at hSw); go_simp; try (with_reducible rfl))
      try simp only [Act.put, List.setIfInBounds_toArray, List.set_cons_zero, List.set_cons_succ]
      refine wpAnyH_take (i := 10) (oi := { dst := some 28, op := Go.Op.load 46 (Go.Operand.tmp 27), type := 46, pos := "people.go:154", after := #[{ on := 9, ground := Go.Ground.data }], guard := none }) (v := ?_) rfl (by kernel_rfl) (by kernel_rfl) (by kernel_rfl) (fun _ _ _ h => h) (Or.inl ⟨by rfl, ?_⟩) (by assumption) ?_
      rotate_left
      · (intro wS hSw; (try dsimp only at hSw); go_simp; try (with_reducible rfl))
      try simp only [Act.put, List.setIfInBounds_toArray, List.set_cons_zero, List.set_cons_succ]
      refine wpAnyH_ready (rs := [11]) (by kernel_rfl) (by simp) ?_
      refine AllReadyH.cons (o := { dst := some 8, op := Go.Op.alloc 46, type := 0, pos := "people.go:154", after := #[], guard := none }) rfl (fun K hK => ?_) ?_
      · go_simp
        refine hK.out _ _ (HS2.out _ (by exact Gq.alloc (Gq.refl _) _)) (fun hHeld => ?_)
        clear hK K
        try simp only [Act.put, List.setIfInBounds_toArray, List.set_cons_zero, List.set_cons_succ]
        refine wpAnyH_ready (rs := [12]) (by kernel_rfl) (by simp) ?_
        refine AllReadyH.cons (o := { dst := none, op := Go.Op.store 46 (Go.Operand.tmp 8) (Go.Operand.tmp 28), type := 0, pos := "people.go:154", after := #[{ on := 11, ground := Go.Ground.data }, { on := 10, ground := Go.Ground.data }, { on := 6, ground := Go.Ground.chain }, { on := 0, ground := Go.Ground.phase }, { on := 1, ground := Go.Ground.phase }, { on := 2, ground := Go.Ground.phase }, { on := 3, ground := Go.Ground.phase }, { on := 4, ground := Go.Ground.phase }, { on := 5, ground := Go.Ground.phase }, { on := 6, ground := Go.Ground.phase }, { on := 7, ground := Go.Ground.phase }, { on := 8, ground := Go.Ground.phase }, { on := 9, ground := Go.Ground.phase }, { on := 10, ground := Go.Ground.phase }, { on := 11, ground := Go.Ground.phase }], guard := none }) rfl (fun K hK => ?_) ?_
        · go_simp
          refine hK.out _ _ (HS2.out _ (by exact Gq.alloc (Gq.refl _) _)) (fun hHeld => ?_)
          clear hK K hHeld hHeld2
          refine wpAnyH_done (by kernel_rfl) ?_ _
          go_wp2_with fail
          go_meet
          case rel => exact ⟨_, rfl, Blk.new wB _ _, Gq.alloc hqB _⟩
        exact AllReadyH.nil
      exact AllReadyH.nil
    refine AllReadyH.cons (o := { dst := some 8, op := Go.Op.alloc 46, type := 0, pos := "people.go:154", after := #[], guard := none }) rfl (fun K hK => ?_) ?_
    ·
      go_simp
      refine hK.out _ _ (HS.out _ (by exact Gq.alloc hqA _)) (fun hHeld => ?_)
      clear hK K
      try simp only [Act.put, List.setIfInBounds_toArray, List.set_cons_zero, List.set_cons_succ]
      refine wpAnyH_ready (rs := [6]) (by kernel_rfl) (by simp) ?_
      refine AllReadyH.cons (o := { dst := some 24, op := Go.Op.call { callee := Go.Callee.value (Go.Operand.func 22), args := #[Go.Operand.tmp 22, Go.Operand.tmp 23], argTypes := #[25, 9] }, type := 3, pos := "people.go:154", after := #[{ on := 4, ground := Go.Ground.data }, { on := 5, ground := Go.Ground.data }, { on := 3, ground := Go.Ground.chain }], guard := none }) rfl (fun K hK => ?_) ?_
      ·
        go_simp
        with_reducible refine (HCP.out _ (by exact Gq.alloc hqA _)).mono ?_
        rintro e wB ⟨rfl, hqB, hbs⟩
        go_wp2_with fail
        refine hK.out _ _ (HS.out _ hqB) (fun hHeld => ?_)
        clear hK K
        try simp only [Act.put, List.setIfInBounds_toArray, List.set_cons_zero, List.set_cons_succ]
        have hAB : Gq wA wB := hbs _ (Gq.new _ _)
        have hcell := hgc _ hAB
        have bk : Blk wB wA.heap.size 46 [.string ⟨#[]⟩, .slice none 0 0] := Blk.new2 wA (hbs _ (Gq.refl _))
        refine wpAnyH_take (i := 7) (oi := { dst := some 25, op := Go.Op.indexAddr 47 (Go.Operand.tmp 21) (Go.Operand.tmp 24), type := 0, pos := "people.go:154", after := #[{ on := 3, ground := Go.Ground.data }, { on := 6, ground := Go.Ground.data }], guard := none }) (v := ?_) rfl (by kernel_rfl) (by kernel_rfl) (by kernel_rfl) (fun _ _ _ h => h) (Or.inl ⟨by rfl, ?_⟩) (by assumption) ?_
        rotate_left
        · (intro wS hSw; (try dsimp only at hSw); go_simp; try (with_reducible rfl))
        try simp only [Act.put, List.setIfInBounds_toArray, List.set_cons_zero, List.set_cons_succ]
        refine wpAnyH_ready (rs := [8]) (by kernel_rfl) (by simp) ?_
        refine AllReadyH.cons (o := { dst := some 26, op := Go.Op.load 3 (Go.Operand.tmp 25), type := 3, pos := "people.go:154", after := #[{ on := 7, ground := Go.Ground.data }], guard := none }) rfl (fun K hK => ?_) ?_
        · go_simp
          refine hK.out _ _ (HS.out _ hqB) (fun hHeld => ?_)
          clear hK K
          try simp only [Act.put, List.setIfInBounds_toArray, List.set_cons_zero, List.set_cons_succ]
          refine wpAnyH_take (i := 9) (oi := { dst := some 27, op := Go.Op.indexAddr 22 (Go.Operand.tmp 19) (Go.Operand.tmp 26), type := 0, pos := "people.go:154", after := #[{ on := 1, ground := Go.Ground.data }, { on := 8, ground := Go.Ground.data }], guard := none }) (v := ?_) rfl (by kernel_rfl) (by kernel_rfl) (by kernel_rfl) (fun _ _ _ h => h) (Or.inl ⟨by rfl, ?_⟩) (by assumption) ?_
          rotate_left
          · (intro wS hSw; (try dsimp only at hSw); go_simp; try (with_reducible rfl))
          try simp only [Act.put, List.setIfInBounds_toArray, List.set_cons_zero, List.set_cons_succ]
          refine wpAnyH_take (i := 10) (oi := { dst := some 28, op := Go.Op.load 46 (Go.Operand.tmp 27), type := 46, pos := "people.go:154", after := #[{ on := 9, ground := Go.Ground.data }], guard := none }) (v := ?_) rfl (by kernel_rfl) (by kernel_rfl) (by kernel_rfl) (fun _ _ _ h => h) (Or.inl ⟨by rfl, ?_⟩) (by assumption) ?_
          rotate_left
          · (intro wS hSw; (try dsimp only at hSw); go_simp; try (with_reducible rfl))
          try simp only [Act.put, List.setIfInBounds_toArray, List.set_cons_zero, List.set_cons_succ]
          refine wpAnyH_ready (rs := [12]) (by kernel_rfl) (by simp) ?_
          refine AllReadyH.cons (o := { dst := none, op := Go.Op.store 46 (Go.Operand.tmp 8) (Go.Operand.tmp 28), type := 0, pos := "people.go:154", after := #[{ on := 11, ground := Go.Ground.data }, { on := 10, ground := Go.Ground.data }, { on := 6, ground := Go.Ground.chain }, { on := 0, ground := Go.Ground.phase }, { on := 1, ground := Go.Ground.phase }, { on := 2, ground := Go.Ground.phase }, { on := 3, ground := Go.Ground.phase }, { on := 4, ground := Go.Ground.phase }, { on := 5, ground := Go.Ground.phase }, { on := 6, ground := Go.Ground.phase }, { on := 7, ground := Go.Ground.phase }, { on := 8, ground := Go.Ground.phase }, { on := 9, ground := Go.Ground.phase }, { on := 10, ground := Go.Ground.phase }, { on := 11, ground := Go.Ground.phase }], guard := none }) rfl (fun K hK => ?_) ?_
          · have bk0 := bk.cell 0
            have bk1 := bk.cell 1
            have bf0 := bk.frozen 0
            have bf1 := bk.frozen 1
            go_simp
            have HE : Hid (Gq w2 ((wB.setCell ⟨wA.heap.size, 0, none⟩ (.string mid)).setCell ⟨wA.heap.size, 1, none⟩ (.slice sa sl.length sc))) := Gq.set (Gq.set hqB (by have := Below.size hqA; exact this) _) (by have := Below.size hqA; exact this) _
            refine hK.out _ _ (HS.out _ (by exact HE.out)) (fun hHeld => ?_)
            clear hK K hHeld
            refine wpAnyH_done (by kernel_rfl) ?_ _
            go_wp2_with fail
            go_meet
            case rel => exact ⟨_, rfl, blk_set2 bk, HE.out⟩
          exact AllReadyH.nil
        exact AllReadyH.nil
      exact AllReadyH.nil
    exact AllReadyH.nil
  refine AllReadyH.cons (o := { dst := some 8, op := Go.Op.alloc 46, type := 0, pos := "people.go:154", after := #[], guard := none }) rfl (fun K hK => ?_) ?_
  ·
    go_simp
    refine hK.out _ _ (HS.out _ (by exact (Gq.alloc hBR _).drew)) (fun hHeld => ?_)
    clear hK K
    try simp only [Act.put, List.setIfInBounds_toArray, List.set_cons_zero, List.set_cons_succ]
    refine wpAnyH_ready (rs := [3]) (by kernel_rfl) (by simp) ?_
    refine AllReadyH.cons (o := { dst := some 21, op := Go.Op.call { callee := Go.Callee.value (Go.Operand.func 16), args := #[Go.Operand.tmp 20], argTypes := #[25] }, type := 47, pos := "people.go:154", after := #[{ on := 2, ground := Go.Ground.data }], guard := none }) rfl (fun K hK => ?_) ?_
    ·
      go_simp
      with_reducible refine (HCL.out _ (by exact (Gq.alloc hBR _).drew)).mono ?_
      rintro e wA ⟨g, goff, c3, rfl, hgc, hqA, hbt⟩
      go_wp2_with fail
      refine hK.out _ _ (HS.out _ hqA) (fun hHeld => ?_)
      clear hK K
      try simp only [Act.put, List.setIfInBounds_toArray, List.set_cons_zero, List.set_cons_succ]
      refine wpAnyH_ready (rs := [6]) (by kernel_rfl) (by simp) ?_
      refine AllReadyH.cons (o := { dst := some 24, op := Go.Op.call { callee := Go.Callee.value (Go.Operand.func 22), args := #[Go.Operand.tmp 22, Go.Operand.tmp 23], argTypes := #[25, 9] }, type := 3, pos := "people.go:154", after := #[{ on := 4, ground := Go.Ground.data }, { on := 5, ground := Go.Ground.data }, { on := 3, ground := Go.Ground.chain }], guard := none }) rfl (fun K hK => ?_) ?_
      ·
        go_simp
        with_reducible refine (HCP.out _ hqA).mono ?_
        rintro e wB ⟨rfl, hqB, hbs⟩
        go_wp2_with fail
        refine hK.out _ _ (HS.out _ hqB) (fun hHeld => ?_)
        clear hK K
        try simp only [Act.put, List.setIfInBounds_toArray, List.set_cons_zero, List.set_cons_succ]
        have hAB : Gq wA wB := hbs _ (Gq.refl _)
        have hcell := hgc _ hAB
        have bk : Blk wB w2.heap.size 46 [.string ⟨#[]⟩, .slice none 0 0] := Blk.gq (Blk.new2 w2 (hbt _ (Gq.refl _).drew)) hAB
        refine wpAnyH_take (i := 7) (oi := { dst := some 25, op := Go.Op.indexAddr 47 (Go.Operand.tmp 21) (Go.Operand.tmp 24), type := 0, pos := "people.go:154", after := #[{ on := 3, ground := Go.Ground.data }, { on := 6, ground := Go.Ground.data }], guard := none }) (v := ?_) rfl (by kernel_rfl) (by kernel_rfl) (by kernel_rfl) (fun _ _ _ h => h) (Or.inl ⟨by rfl, ?_⟩) (by assumption) ?_
        rotate_left
        · (intro wS hSw; (try dsimp only at hSw); go_simp; try (with_reducible rfl))
        try simp only [Act.put, List.setIfInBounds_toArray, List.set_cons_zero, List.set_cons_succ]
        refine wpAnyH_ready (rs := [8]) (by kernel_rfl) (by simp) ?_
        refine AllReadyH.cons (o := { dst := some 26, op := Go.Op.load 3 (Go.Operand.tmp 25), type := 3, pos := "people.go:154", after := #[{ on := 7, ground := Go.Ground.data }], guard := none }) rfl (fun K hK => ?_) ?_
        · go_simp
          refine hK.out _ _ (HS.out _ hqB) (fun hHeld => ?_)
          clear hK K
          try simp only [Act.put, List.setIfInBounds_toArray, List.set_cons_zero, List.set_cons_succ]
          refine wpAnyH_take (i := 9) (oi := { dst := some 27, op := Go.Op.indexAddr 22 (Go.Operand.tmp 19) (Go.Operand.tmp 26), type := 0, pos := "people.go:154", after := #[{ on := 1, ground := Go.Ground.data }, { on := 8, ground := Go.Ground.data }], guard := none }) (v := ?_) rfl (by kernel_rfl) (by kernel_rfl) (by kernel_rfl) (fun _ _ _ h => h) (Or.inl ⟨by rfl, ?_⟩) (by assumption) ?_
          rotate_left
          · (intro wS hSw; (try dsimp only at hSw); go_simp; try (with_reducible rfl))
          try simp only [Act.put, List.setIfInBounds_toArray, List.set_cons_zero, List.set_cons_succ]
          refine wpAnyH_take (i := 10) (oi := { dst := some 28, op := Go.Op.load 46 (Go.Operand.tmp 27), type := 46, pos := "people.go:154", after := #[{ on := 9, ground := Go.Ground.data }], guard := none }) (v := ?_) rfl (by kernel_rfl) (by kernel_rfl) (by kernel_rfl) (fun _ _ _ h => h) (Or.inl ⟨by rfl, ?_⟩) (by assumption) ?_
          rotate_left
          · (intro wS hSw; (try dsimp only at hSw); go_simp; try (with_reducible rfl))
          try simp only [Act.put, List.setIfInBounds_toArray, List.set_cons_zero, List.set_cons_succ]
          refine wpAnyH_ready (rs := [12]) (by kernel_rfl) (by simp) ?_
          refine AllReadyH.cons (o := { dst := none, op := Go.Op.store 46 (Go.Operand.tmp 8) (Go.Operand.tmp 28), type := 0, pos := "people.go:154", after := #[{ on := 11, ground := Go.Ground.data }, { on := 10, ground := Go.Ground.data }, { on := 6, ground := Go.Ground.chain }, { on := 0, ground := Go.Ground.phase }, { on := 1, ground := Go.Ground.phase }, { on := 2, ground := Go.Ground.phase }, { on := 3, ground := Go.Ground.phase }, { on := 4, ground := Go.Ground.phase }, { on := 5, ground := Go.Ground.phase }, { on := 6, ground := Go.Ground.phase }, { on := 7, ground := Go.Ground.phase }, { on := 8, ground := Go.Ground.phase }, { on := 9, ground := Go.Ground.phase }, { on := 10, ground := Go.Ground.phase }, { on := 11, ground := Go.Ground.phase }], guard := none }) rfl (fun K hK => ?_) ?_
          · have bk0 := bk.cell 0
            have bk1 := bk.cell 1
            have bf0 := bk.frozen 0
            have bf1 := bk.frozen 1
            go_simp
            have HE : Hid (Gq w2 ((wB.setCell ⟨w2.heap.size, 0, none⟩ (.string mid)).setCell ⟨w2.heap.size, 1, none⟩ (.slice sa sl.length sc))) := Gq.set (Gq.set hqB (by exact Nat.le_refl _) _) (by exact Nat.le_refl _) _
            refine hK.out _ _ (HS.out _ (by exact HE.out)) (fun hHeld => ?_)
            clear hK K hHeld
            refine wpAnyH_done (by kernel_rfl) ?_ _
            go_wp2_with fail
            go_meet
            case rel => exact ⟨_, rfl, blk_set2 bk, HE.out⟩
          exact AllReadyH.nil
        exact AllReadyH.nil
      exact AllReadyH.nil
    exact AllReadyH.nil
  exact AllReadyH.nil
end Go.Proofs.YtnpdekgmiphagaaGreatDoor
/- How people that came in read. -/
namespace Go.Proofs.YtnpdekgmiphagaaGreatDoor
open Go.RowKit Go.Dw

theorem sb_flat (l : List ByteArray) : l.flatMap (fun s => [Value.string s]) = sb l := by
  induction l with
  | nil => rfl
  | cons x t ih => rw [List.flatMap_cons, ih]; rfl
def NamOk (w : World) (l : Slc ByteArray) : Prop := (l.xs.length ≤ maxLen ∧ Rd w l.a (l.xs.flatMap fun s => [Value.string s]) ∧ ∀ s ∈ l.xs, s.size ≤ maxLen) ∧ l.xs.length ≤ l.c ∧ l.c ≤ maxLen
theorem decNames {H : Type} {enc : TypeId × Value → H} {w : World} :
    Dec enc Tryz.prog w 44 (fun l : Slc ByteArray => [l.v]) (NamOk w) :=
  Dec.sliceC 1 Tryz.underlying44 (by kernel_rfl) (fun _ => rfl) (by omega) (Dec.string Tryz.underlying9)
theorem decPerson {H : Type} {enc : TypeId × Value → H} {w : World} :
    Dec enc Tryz.prog w 46 Psn.cs (fun x => PsnOk w x) :=
  (Dec.struct (tot := 2) (fl := [(9, 0, 1), (44, 1, 1)]) Tryz.underlying46 (by kernel_rfl) (by kernel_rfl)
    (DecS.cons (Dec.string Tryz.underlying9) (DecS.cons (tot := 0) decNames DecS.nil))).map
    (fun p => (⟨p.1, p.2.1⟩ : Psn)) (fun _ => rfl) (fun p h => by
      obtain ⟨h1, ⟨⟨h2, h3, h4⟩, h5, _⟩, _⟩ := h
      rw [sb_flat] at h3
      exact ⟨⟨by simpa [maxLen] using h1, h5⟩, by simpa [maxLen] using h2, h3, fun s hs => by simpa [maxLen] using h4 s hs⟩)
theorem decClaim {H : Type} {enc : TypeId × Value → H} {w : World} :
    Dec enc Tryz.prog w 51 Clm.cs ClmOk :=
  (Dec.struct (tot := 3) (fl := [(9, 0, 1), (9, 1, 1), (4, 2, 1)]) Tryz.underlying51 (by kernel_rfl) (by kernel_rfl)
    (DecS.cons (Dec.string Tryz.underlying9) (DecS.cons (Dec.string Tryz.underlying9) (DecS.cons (tot := 0) (Dec.bool Tryz.underlying4) DecS.nil)))).map
    (fun p => (⟨p.1, p.2.1, p.2.2.1⟩ : Clm)) (fun _ => rfl) (fun p h => ⟨by simpa [maxLen] using h.1, by simpa [maxLen] using h.2.1⟩)
def Peo.cells (x : Peo) : List Value := [x.p.v, x.c.v]
theorem decPeople {H : Type} {enc : TypeId × Value → H} {w : World} :
    Dec enc Tryz.prog w 25 Peo.cells (fun x => PeoOk w x) :=
  (Dec.struct (tot := 2) (fl := [(22, 0, 1), (23, 1, 1)]) Tryz.underlying25 (by kernel_rfl) (by kernel_rfl)
    (DecS.cons (Dec.sliceC 2 Tryz.underlying22 (by kernel_rfl) (fun _ => rfl) (by omega) decPerson)
      (DecS.cons (tot := 0) (Dec.slice 3 Tryz.underlying23 (by kernel_rfl) (fun _ => rfl) (by omega) decClaim) DecS.nil))).map
    (fun p => (⟨p.1, p.2.1⟩ : Peo)) (fun _ => rfl) (fun p h => by
      obtain ⟨⟨⟨h1, h2, h3⟩, h4, _⟩, ⟨h5, h6, h7⟩, _⟩ := h
      exact ⟨by simpa [maxLen] using h1, h4, h2, h3, by simpa [maxLen] using h5, h6, h7⟩)
end Go.Proofs.YtnpdekgmiphagaaGreatDoor
/- The variable that internal/bytealg reads, at a row's first world. -/
namespace Go.Proofs.YtnpdekgmiphagaaGreatDoor
open Go.RowKit Go.Dw
theorem hasMax_of (w : World) (h : w.ShapedOpen Tryz.prog) : HasMax w := Tryz.laysM144.s1_3 w h
end Go.Proofs.YtnpdekgmiphagaaGreatDoor
/- The walk of CreditGroupsMatchSpec. -/
namespace Go.Proofs.YtnpdekgmiphagaaGreatDoor
open Go.RowKit Go.Dw

theorem grpF_len (p : Ppl) (n m : Nat) : (grpF p n m).length ≤ n := by
  unfold grpF
  rw [List.length_map]
  have := List.length_filter_le (fun k => decide (lab p k = m)) (List.range n)
  simpa using this
theorem grpsF_len (p : Ppl) (n : Nat) : (grpsF p n).length ≤ n := by
  unfold grpsF ledF
  rw [List.length_map]
  have := List.length_filter_le (fun i => decide (lab p i = i)) (List.range n)
  simpa using this
theorem grpsF_mem {p : Ppl} {n : Nat} : ∀ l ∈ grpsF p n, l.length ≤ n := by
  intro l hl
  unfold grpsF at hl
  obtain ⟨m, _, rfl⟩ := List.mem_map.1 hl
  exact grpF_len p n m
theorem dbtsK_len (p : Ppl) : ∀ n, (dbtsK p n).length ≤ n * p.ps.length
  | 0 => by simp [dbtsK]
  | n + 1 => by
    rw [dbtsK_succ, List.length_append, Nat.succ_mul]
    have h1 := dbtsK_len p n
    have h2 := dbtRow_len p n p.ps.length
    omega
set_option maxRecDepth 100000 in
set_option maxHeartbeats 2000000 in
theorem groups_law (x : Peo) (q : ByteArray) (w : World) (h : PeoOk w x) (hq : q.size ≤ maxLen) (hm : HasMax w) :
    Calls Tryz.prog 3 #[.agg x.cells.toArray, .string q] w fun e w' => e = .returned (.bool true) ∧ Below w.heap.size w w' := by
  show Calls _ _ #[x.v, .string q] w _
  have hq2 : q.size ≤ 9223372036854775807 := by simpa [maxLen] using hq
  have H1 := Lib.hid (fun (W : World) (hW : Below w.heap.size w W) => groups_any x W (h.below hW) (hm.below hW))
  have H2 := Lib.hid (fun (W : World) (hW : Below w.heap.size w W) => groupsR_any x W (h.below hW) (hm.below hW))
  have H3 := Lib.hid (fun (W : World) (hW : Below w.heap.size w W) => people_any x W (h.below hW) (hm.below hW))
  have H4 := Lib.hid (fun (W : World) (hW : Below w.heap.size w W) => peopleR_any x W (h.below hW) (hm.below hW))
  have H5 := Lib.hid (fun (W : World) (hW : Below w.heap.size w W) => main_any x q W (h.below hW) (hm.below hW) hq2)
  have H6 := Lib.hid (fun (W : World) (hW : Below w.heap.size w W) => mainR_any x q W (h.below hW) (hm.below hW) hq2)
  have H7 := Lib.hid (fun (W : World) (hW : Below w.heap.size w W) => dbts_any x W (h.below hW) (hm.below hW))
  have H8 := Lib.hid (fun (W : World) (hW : Below w.heap.size w W) => dbtsR_any x W (h.below hW) (hm.below hW))
  obtain ⟨⟨A, c, L⟩, ⟨B, d, C⟩⟩ := x
  obtain ⟨p, hp⟩ : ∃ p : Ppl, Peo.x ⟨⟨A, c, L⟩, ⟨B, d, C⟩⟩ = p := ⟨_, rfl⟩
  simp only [hp] at H1 H2 H3 H4 H5 H6 H7 H8
  have hll : p.ps.length = L.length := by rw [← hp]; simp [Peo.x]
  have hpl : p.ps.length ≤ 9223372036854775807 := by rw [hll]; exact h.pl
  have HP1 : Hid (peoF p = 0 → p.ps.length ≤ 100) := fun h => (pplR_of h).n
  obtain ⟨pf, hpf⟩ : ∃ pf, peoF p = pf := ⟨_, rfl⟩
  rw [hpf] at HP1
  simp only [hpf] at H1 H2 H3 H4 H7 H8
  obtain ⟨⟨m1, m2, m3⟩, hmf⟩ : ∃ r, manF p q = r := ⟨_, rfl⟩
  simp only [hmf] at H5 H6
  obtain ⟨GR, hgr⟩ : ∃ r, (if pf = 0 then grpsF p p.ps.length else []) = r := ⟨_, rfl⟩
  have HGL : Hid (GR.length ≤ 9223372036854775807 ∧ ∀ l ∈ GR, l.length ≤ 9223372036854775807) := by
    rw [← hgr]
    split
    · exact ⟨Nat.le_trans (grpsF_len p _) hpl, fun l hl => Nat.le_trans (grpsF_mem l hl) hpl⟩
    · exact ⟨by simp, fun l hl => by cases hl⟩
  obtain ⟨DR, hdr⟩ : ∃ r, (if pf = 0 then dbtsF p else []) = r := ⟨_, rfl⟩
  have HDL : Hid (DR.length ≤ 9223372036854775807) := by
    show _ ≤ _
    rw [← hdr]
    split
    · rename_i h0
      have h1 := HP1.out h0
      have h2 := dbtsK_len p p.ps.length
      unfold dbtsF
      have h3 : p.ps.length * p.ps.length ≤ 100 * 100 := Nat.mul_le_mul h1 h1
      omega
    · simp
  unfold GrpsPost at H1
  unfold RGrps at H2
  unfold RDbt at H7 H8
  simp only [hgr] at H1 H2
  simp only [hdr] at H7 H8
  have e1 : (pf != pf) = false := by simp
  have e2 : (m3 != m3) = false := by simp
  have e3 : (pf == pf) = true := by simp
  have e4 := seq_t (a := m1) rfl
  have e5 := seq_t (a := m2) rfl
  unfold Peo.v at *
  simp only [Slc.v] at *
  clear h hm hq hq2 hp hll hpl hpf hmf hgr hdr HP1
  obtain ⟨w0, hw0⟩ : ∃ w0, w0 = w.alloc (.cells #[.slice A L.length c, .slice B C.length d] 25) := ⟨_, rfl⟩
  have HB0 : Hid (Below w.heap.size w w0) := by rw [hw0]; exact (Below.refl _ _).alloc (Nat.le_refl _) _
  have HX0 : Hid (w0.cell? ⟨w.heap.size, 0, none⟩ = some (.slice A L.length c) ∧ w0.cell? ⟨w.heap.size, 1, none⟩ = some (.slice B C.length d)) := by rw [hw0]; exact peoBox
  have hz0 : w.heap.size < w0.heap.size := by rw [hw0]; simp
  have HW0 := Lib.hid hw0
  have HPX : Hid (∀ W, Gq w0 W → Below w.heap.size w W ∧ W.cell? ⟨w.heap.size, 0, none⟩ = some (.slice A L.length c) ∧ W.cell? ⟨w.heap.size, 1, none⟩ = some (.slice B C.length d)) := fun W hW => by
    have hb : Below w.heap.size w W := HB0.out.trans (Below.mono hW HB0.out.size)
    exact ⟨hb, by rw [Below.cell hW (by exact hz0)]; exact HX0.out.1, by rw [Below.cell hW (by exact hz0)]; exact HX0.out.2⟩
  obtain ⟨_, z0, z1⟩ := HPX.out w0 (Gq.refl _)
  clear hw0 HX0
  go_enter Tryz.func3, Tryz.ntmps3
  go_upto_region 1 with (fail)
  rw [← HW0.out]
  go_wp2_with fail
  refine (H1.out _ HB0.out).mono ?_
  rintro e w1 ⟨hq1, gA, gc, R, rfl, hR, hGI⟩
  have HG1 : Hid (Gq w0 w1) := hq1
  have HGR := Lib.hid hGI.grs
  rw [hR] at HGR
  have hRl : R.length = (R.map rwOf).length := by simp
  clear hq1 hGI hR z0 z1
  obtain ⟨hb1, z0, z1⟩ := HPX.out w1 HG1.out
  have HB1 := Lib.hid hb1
  rw [hRl]
  clear hb1 hRl
  generalize R.map rwOf = G1 at *
  go_wp2_with fail
  refine (H2.out _ HB1.out).mono ?_
  rintro e w2 ⟨gB, gd, G2, rfl, hr2, hs2, hc2, hq2⟩
  have HG2 : Hid (Gq w0 w2) := Below.trans HG1.out (hq2.mono (Below.size HG1.out))
  have HGA := Lib.hid (HGR.out.below hq2)
  have HGB : Hid (Grs w2 gB G2 GR) := ⟨hr2, hs2, hc2⟩
  clear hr2 hs2 hc2 hq2 z0 z1
  obtain ⟨hb2, z0, z1⟩ := HPX.out w2 HG2.out
  have HB2 := Lib.hid hb2
  clear hb2
  go_upto_region 3 with (fail)
  have HC3 := Lib.hid (call_gq (w := w2) fun W hW => H3.out W (HPX.out W (Below.trans HG2.out (Below.mono hW (Below.size HG2.out)))).1)
  have HC4 := Lib.hid (call_gq (w := w2) fun W hW => H4.out W (HPX.out W (Below.trans HG2.out (Below.mono hW (Below.size HG2.out)))).1)
  have HSG : Hid (∀ W, Gq w2 W → Calls Tryz.prog 8 #[.slice gA G1.length gc, .slice gB G2.length gd] W fun e w' => e = .returned (.bool true) ∧ Gq w2 w') := fun W hW =>
    (sameGroups_any gA gB gc gd G1 G2 GR W (HGA.out.below hW) (HGB.out.below hW) HGL.out.1 HGL.out.2).mono fun e w' ⟨he, n, hn⟩ => ⟨he, by rw [hn]; exact below_drewN hW n⟩
  have HS : Hid (∀ W, Gq w2 W → W.cell? ⟨w.heap.size, 0, none⟩ = some (.slice A L.length c) ∧ W.cell? ⟨w.heap.size, 1, none⟩ = some (.slice B C.length d) ∧ Gq w2 W) := fun W hW => by
    obtain ⟨_, y0, y1⟩ := HPX.out W (Below.trans HG2.out (Below.mono hW (Below.size HG2.out)))
    exact ⟨y0, y1, hW⟩
  have hBR : Gq w2 w2 := Gq.refl _
  have hBD : Gq w2 w2.drew := (Gq.refl _).drew
  go_region_held3 (fun W => W.cell? ⟨w.heap.size, 0, none⟩ = some (.slice A L.length c) ∧ W.cell? ⟨w.heap.size, 1, none⟩ = some (.slice B C.length d) ∧ Gq w2 W)
    (first | exact HS.out _ hBD | exact HS.out _ hqB | exact HS.out _ hBR | exact HS.out _ (Gq.drew hqB))
    (first | (go_at_call 6; with_reducible refine (HC3.out _ (by first | exact hqB | exact hBD | exact hBR)).mono ?_; rintro e wA ⟨rfl, hqB⟩) | (go_at_call 7; with_reducible refine (HC4.out _ (by first | exact hqB | exact hBD | exact hBR)).mono ?_; rintro e wA ⟨rfl, hqB⟩) | (go_at_call 8; with_reducible refine (HSG.out _ (by first | exact hqB | exact hBD | exact hBR)).mono ?_; rintro e wA ⟨rfl, hqB⟩))
  have HG3 : Hid (Gq w0 wA) := Below.trans HG2.out (Below.mono hqB (Below.size HG2.out))
  have HB3 := Lib.hid (HPX.out wA HG3.out).1
  clear hqB HS HC3 HC4 HSG hBR hBD HGA HGB z0 z1
  obtain ⟨_, z0, z1⟩ := HPX.out wA HG3.out
  unfold manV at H5 H6
  go_wp2_with fail
  refine (H5.out _ HB3.out).mono ?_
  rintro e w5 ⟨rfl, hq5⟩
  have HG5 : Hid (Gq w0 w5) := Below.trans HG3.out (hq5.mono (Below.size HG3.out))
  have HB5 := Lib.hid (HPX.out w5 HG5.out).1
  clear hq5 z0 z1
  obtain ⟨_, z0, z1⟩ := HPX.out w5 HG5.out
  go_wp2_with fail
  refine (H6.out _ HB5.out).mono ?_
  rintro e w6 ⟨rfl, hq6⟩
  have HG6 : Hid (Gq w0 w6) := Below.trans HG5.out (hq6.mono (Below.size HG5.out))
  have HB6 := Lib.hid (HPX.out w6 HG6.out).1
  clear hq6 z0 z1
  obtain ⟨_, z0, z1⟩ := HPX.out w6 HG6.out
  go_wp2_with fail
  refine (H7.out _ HB6.out).mono ?_
  rintro e w7 ⟨dA, dc, D7, rfl, hr7, hD7, hq7⟩
  subst hD7
  have HG7 : Hid (Gq w0 w7) := Below.trans HG6.out (hq7.mono (Below.size HG6.out))
  have HB7 := Lib.hid (HPX.out w7 HG7.out).1
  have HR7 := Lib.hid hr7
  clear hq7 hr7 z0 z1
  obtain ⟨_, z0, z1⟩ := HPX.out w7 HG7.out
  go_wp2_with fail
  refine (H8.out _ HB7.out).mono ?_
  rintro e w8 ⟨dB, dd, D8, rfl, hr8, hD8, hq8⟩
  subst hD8
  have HB8 := Lib.hid (HB7.out.trans (hq8.mono HB7.out.size))
  have HSP := Lib.hid (samePr_any dA dB dc dd D8 w8 (HR7.out.below hq8) hr8 HDL.out)
  clear hq8 hr8 z0 z1
  go_wp2_with fail
  refine HSP.out.mono ?_
  rintro e w9 ⟨rfl, n9, rfl⟩
  have HB9 : Hid (Below w.heap.size w (w8.drewN n9)) := below_drewN HB8.out n9
  go_wp2_with fail
  refine (awake5 _).mono ?_
  rintro e w10 ⟨rfl, hb10⟩
  have HB10 := Lib.hid (HB9.out.trans (hb10.mono HB9.out.size))
  clear hb10
  go_wp2_with fail
  go_ret
  exact ⟨rfl, HB10.out⟩
end Go.Proofs.YtnpdekgmiphagaaGreatDoor
