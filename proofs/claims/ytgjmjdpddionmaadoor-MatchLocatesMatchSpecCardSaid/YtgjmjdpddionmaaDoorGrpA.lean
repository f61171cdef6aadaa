/- The contract of match.groups. -/
import Derived.Test.YtgjmjdpddionmaaDoorDblA
import Derived.Test.YtgjmjdpddionmaaDoorGrp
import Derived.Deep.DeepCutAuto
import Derived.Deep.CutBlock
namespace Go.Proofs.YtgjmjdpddionmaaDoor
open Go.RowKit Go.Dw
attribute [local go_sem ↓] Go.wp_at_zero Go.wp_at_succ

theorem info_int : (Tryd.prog.info? 3).map (fun i => (i.zero, i.size, i.bytes)) = some (some (.int .i64 0), 1, 8) := by kernel_rfl
theorem info_ints : (Tryd.prog.info? 23).map (fun i => (i.zero, i.size, i.bytes)) = some (some (.slice none 0 0), 1, 24) := by kernel_rfl
/-- groups of numbers -/
def GrpPost (w : World) (R : List (List Nat)) (e : Ending) (w' : World) : Prop :=
  ∃ (A : Option Addr) (c : Nat) (G : List Rw), e = .returned (.slice A G.length c) ∧ Rd w' A (G.map Rw.v) ∧ (∀ s ∈ G, Rd w' s.a s.cs) ∧ G.map Rw.cs = R.map nc ∧ Below w.heap.size w w'
section
variable {al : Nat → Nat → Bool} {n : Nat}
/-- the round's row while i's are put together -/
def rowF (al : Nat → Nat → Bool) (n i k : Nat) (j : Nat) : Nat := if j < i + 1 then (rowD al i (grpD al n i) k).getD j 0 else 0
def headF (al : Nat → Nat → Bool) (n i : Nat) (j : Nat) : Nat := if j < i then (grpD al n i).getD j 0 else 0
theorem row_inv {i k : Nat} (hi : i < n) (hk : k ≤ i) : InvD n i (rowD al i (grpD al n i) k) := rowD_inv al n hi (grpD_start al n hi) k hk
theorem head_start {i : Nat} (hi : i < n) (j : Nat) (hj : j < n) : rowF al n i 0 j = if j = i then i else headF al n i j := by
  unfold rowF headF rowD
  by_cases h : j = i
  · subst h; rw [if_pos rfl, if_pos (by omega)]; exact (grpD_inv al n j (by omega)).2.2 j hj (Nat.le_refl _)
  · rw [if_neg h]
    by_cases h2 : j < i
    · rw [if_pos h2, if_pos (by omega)]
    · rw [if_neg h2, if_neg (by omega)]
theorem head_end {i : Nat} (j : Nat) : rowF al n i i j = headF al n (i + 1) j := by
  unfold rowF headF; rw [grpD]
theorem stp_no {i k : Nat} {st : List Nat} (h : st.getD i 0 = st.getD k 0 ∨ al i k = false) : stp al i k st = st := by
  unfold stp
  rw [if_neg]
  rintro ⟨h1, h2⟩
  rcases h with h | h
  · exact h1 h
  · rw [h] at h2; cases h2
theorem stp_yes {i k j : Nat} {st : List Nat} (h1 : st.getD i 0 ≠ st.getD k 0) (h2 : al i k = true) (hj : j < st.length) : (stp al i k st).getD j 0 = if st.getD j 0 = max (st.getD i 0) (st.getD k 0) then min (st.getD i 0) (st.getD k 0) else st.getD j 0 := by
  unfold stp
  rw [if_pos ⟨h1, h2⟩, getD_map _ _ _ _ hj]
theorem row_same {i k : Nat} (j : Nat) (h : (rowD al i (grpD al n i) k).getD i 0 = (rowD al i (grpD al n i) k).getD k 0 ∨ al i k = false) : rowF al n i (k + 1) j = rowF al n i k j := by
  unfold rowF
  rw [rowD, stp_no h]
/-- while j's are looked at -/
def mixF (al : Nat → Nat → Bool) (n i k M m p : Nat) (j : Nat) : Nat := if j < p ∧ rowF al n i k j = M then m else rowF al n i k j
theorem mix_end {i k : Nat} (hi : i < n) (hk : k < i) (j : Nat) (hj : j < n) (h1 : (rowD al i (grpD al n i) k).getD i 0 ≠ (rowD al i (grpD al n i) k).getD k 0) (h2 : al i k = true) {M m : Nat}
    (hM : M = max ((rowD al i (grpD al n i) k).getD i 0) ((rowD al i (grpD al n i) k).getD k 0)) (hm : m = min ((rowD al i (grpD al n i) k).getD i 0) ((rowD al i (grpD al n i) k).getD k 0)) :
    mixF al n i k M m (i + 1) j = rowF al n i (k + 1) j := by
  obtain ⟨q1, q2, q3⟩ := row_inv (al := al) hi (Nat.le_of_lt hk)
  unfold mixF rowF
  rw [rowD]
  by_cases hji : j < i + 1
  · rw [if_pos hji, if_pos hji, stp_yes h1 h2 (by omega), ← hM, ← hm]
    by_cases he : (rowD al i (grpD al n i) k).getD j 0 = M
    · rw [if_pos ⟨hji, he⟩, if_pos he]
    · rw [if_neg (fun h => he h.2), if_neg he]
  · rw [if_neg hji, if_neg hji, if_neg (fun h => hji h.1)]
theorem mix_step {i k M m p : Nat} (j : Nat) : mixF al n i k M m (p + 1) j = if j = p then (if rowF al n i k p = M then m else rowF al n i k p) else mixF al n i k M m p j := by
  unfold mixF
  by_cases h : j = p
  · subst h
    rw [if_pos rfl]
    by_cases he : rowF al n i k j = M
    · rw [if_pos ⟨by omega, he⟩, if_pos he]
    · rw [if_neg (fun h => he h.2), if_neg he]
  · rw [if_neg h]
    by_cases h2 : j < p
    · simp only [h2, show j < p + 1 by omega]
    · simp only [h2, show ¬ j < p + 1 by omega]
end
set_option maxRecDepth 100000 in
set_option maxHeartbeats 4000000 in
theorem groups_any (n : Nat) (al : Nat → Nat → Bool) (p3 p4 p5 : Value) (w : World) (hn : n ≤ 50)
    (hal : ∀ W, Gw w W → ∀ i k : Nat, i < n → k < i → Calls Tryd.prog 29 #[.int .i64 (k : Int), .int .i64 (i : Int), p3, p4, p5] W fun e w' => e = .returned (.bool (al i k)) ∧ Below W.heap.size W w') :
    Calls Tryd.prog 28 #[.int .i64 (n : Int), .func (.func 29) #[] #[p3, p4, p5]] w (GrpPost w (grpsF al n)) := by
  have HAL := Lib.hid hal
  obtain ⟨i0, hi0, hz00, hz01, hz02⟩ := info_parts info_int
  have hmk := run_mk (P := Tryd.prog) 23 3 i0 _ 8 Tryd.underlying23 hi0 hz00 hz01 hz02 rfl (n : Int) n rfl (by omega) (by omega)
  obtain ⟨w1, hw1⟩ : ∃ w1, w1 = w.alloc (.cells (zs n (.int .i64 0)).toArray 3) := ⟨_, rfl⟩
  have HG0 : Hid (Grp 3 w w.heap.size n n (headF al n 0) w1) := by
    refine ⟨?_, by rw [hw1]; exact (Below.refl _ _).alloc (Nat.le_refl _) _⟩
    have e1 : nc ((List.range n).map (headF al n 0)) = zs n (.int .i64 0) := by
      apply List.ext_getElem
      · simp [nc, zs]
      · intro j h1 h2; simp [nc, zs, headF]
    rw [e1, hw1]
    exact ⟨by simp [zs], .inr ⟨w.heap.size, n, _, rfl, Nat.le_refl _, heap_alloc_new w _, Nat.le_refl _, by unfold maxLen; omega, by simp [zs], by simp [zs]⟩⟩
  have HW1 := Lib.hid hw1
  clear hal hi0 hz00 hz01 hz02 hw1
  go_enter Tryd.func28, Tryd.ntmps28
  go_upto_block 0 with (fail)
  rw [← HW1.out]
  obtain ⟨g, hg⟩ : ∃ g, w.heap.size = g := ⟨_, rfl⟩
  have hgw : w.heap.size ≤ g := by omega
  rw [hg] at HG0 ⊢
  clear hg hmk
  go_cut [] (fun wx => Hid (Grp 3 w g n n (headF al n n) wx))
  case first =>
    go_wp2_with fail
    go_loopw [20] (fun iv wr => ∃ i : Nat, i ≤ n ∧ iv = .int .i64 (i : Int) ∧ Hid (Grp 3 w g n n (headF al n i) wr)) (fun iv _ => n - (intOf iv).toNat)
    case atStart => exact ⟨0, by omega, rfl, HG0⟩
    case round =>
      obtain ⟨i, hi, rfl, HG⟩ := hrel
      by_cases hil : i < n
      case neg =>
        have hie : i = n := by omega
        have hd0 : decide (i < n) = false := by simpa using hil
        have HGE : Hid (Grp 3 w g n n (headF al n n) wr) := by show Grp _ _ _ _ _ _ _; have := HG.out; rw [hie] at this; exact this
        clear hie
        go_wp2_with fail
        go_meet
        case rel => exact HGE
      have hd0 : decide (i < n) = true := by simpa using hil
      obtain ⟨wo, hwo⟩ : ∃ wo, wo = wr := ⟨_, rfl⟩
      subst hwo
      have z0 := HG.out.frozen i
      have y0 := HG.out.cell hil
      have hgl := HG.out.lt
      have HG1 : Hid (Grp 3 w g n n (rowF al n i 0) (wo.setCell ⟨g, i, none⟩ (.int .i64 (i : Int)))) := HG.out.store i i (fun j hj => head_start hil j hj)
      have j0 : (0 : Int) ≤ (i : Int) := by omega
      have j1 : (i : Int) < (n : Int) := by omega
      go_upto_block 2 with (fail)
      generalize wo.setCell ⟨g, i, none⟩ (.int .i64 (i : Int)) = w2 at HG1 ⊢
      clear y0 z0
      go_wp2_with fail
      go_loopw [28] (fun kv wr => ∃ k : Nat, k ≤ i ∧ kv = .int .i64 (k : Int) ∧ Hid (Grp 3 w g n n (rowF al n i k) wr)) (fun kv _ => i - (intOf kv).toNat)
      case atStart => exact ⟨0, by omega, rfl, HG1⟩
      case round =>
        obtain ⟨k, hk, rfl, HK⟩ := hrel
        by_cases hki : k < i
        case neg =>
          have hke : k = i := by omega
          have hd1 : decide (k < i) = false := by simpa using hki
          have HKE : Hid (Grp 3 w g n n (headF al n (i + 1)) wr) := by show Grp _ _ _ _ _ _ _; have := HK.out; rw [hke] at this; exact this.congr (fun j _ => head_end j)
          clear hke
          go_wp2_with fail
          go_roundw
          case rel => exact ⟨i + 1, by omega, by go_num, HKE⟩
          case measure => simp [intOf]; omega
        have hd1 : decide (k < i) = true := by simpa using hki
        obtain ⟨wq, hwq⟩ : ∃ wq, wq = wr := ⟨_, rfl⟩
        subst hwq
        have hkn : k < n := by omega
        have yi := HK.out.cell hil
        have yk := HK.out.cell hkn
        have ei : rowF al n i k i = (rowD al i (grpD al n i) k).getD i 0 := by unfold rowF; rw [if_pos (by omega)]
        have ek : rowF al n i k k = (rowD al i (grpD al n i) k).getD k 0 := by unfold rowF; rw [if_pos (by omega)]
        have HSAME := Lib.hid (@row_same al n i k)
        have HMIX := Lib.hid (@mix_end al n i k hil hki)
        obtain ⟨q1, q2, q3⟩ := row_inv (al := al) (n := n) hil hk
        have hlei := q2 i hil
        have hlek := q2 k hkn
        rw [ei] at yi
        rw [ek] at yk
        have HEI := Lib.hid ei
        have HEK := Lib.hid ek
        generalize hA : (rowD al i (grpD al n i) k).getD i 0 = a at *
        generalize hB : (rowD al i (grpD al n i) k).getD k 0 = b at *
        have hgq := HK.out.lt
        have k0 : (0 : Int) ≤ (k : Int) := by omega
        have k1 : (k : Int) < (n : Int) := by omega
        clear q1 q2 q3 ei ek hA hB
        by_cases hab : a = b
        · have HN : Hid (Grp 3 w g n n (rowF al n i (k + 1)) wq) := HK.out.congr (fun j _ => (HSAME.out j (.inl hab)).symm)
          have hne : ((b : Int) != (a : Int)) = false := by simp [hab]
          clear hab
          go_wp2_with fail
          go_quiet (fail)
          go_wp2_with fail
          go_roundw
          case rel => exact ⟨k + 1, by omega, by go_num, HN.out.below (below_drewN (Below.refl _ _) _)⟩
          case measure => simp [intOf]; omega
        have hne : ((b : Int) != (a : Int)) = true := by simp; omega
        have HAB := Lib.hid hab
        clear hab
        obtain ⟨av, hav⟩ : ∃ v, al i k = v := ⟨_, rfl⟩
        have HCL : Hid (∀ W, Gw wq W → Calls Tryd.prog 29 #[.int .i64 (k : Int), .int .i64 (i : Int), p3, p4, p5] W fun e w' => e = .returned (.bool av) ∧ Gw wq w') := fun W hW => by
          rw [← hav]
          exact (HAL.out W (Below.trans HK.out.2 (Below.mono hW HK.out.2.size)) i k hil hki).mono fun e w' ⟨he, hb⟩ => ⟨he, Below.trans hW (hb.mono (Below.size hW))⟩
        have HAV := Lib.hid hav
        clear hav
        have HS : Hid (∀ W, Gw wq W → W.cell? ⟨g, k, none⟩ = some (.int .i64 (b : Int)) ∧ W.cell? ⟨g, i, none⟩ = some (.int .i64 (a : Int)) ∧ Gw wq W) := fun W hW => by
          rw [Below.cell hW (by exact hgq), Below.cell hW (by exact hgq)]
          exact ⟨yk, yi, hW⟩
        have hBD : Gw wq wq.drew := (Below.refl _ _).drew
        go_wp2_with fail
        go_region_held3 (fun W => W.cell? ⟨g, k, none⟩ = some (.int .i64 (b : Int)) ∧ W.cell? ⟨g, i, none⟩ = some (.int .i64 (a : Int)) ∧ Gw wq W)
          (first | exact HS.out _ hBD | exact HS.out _ hqB)
          (first | (go_at_call 29; refine (HCL.out _ (by first | assumption | (go_split_ands; assumption))).mono ?_; rintro e wA ⟨rfl, hqB⟩))
        have HKA : Hid (Grp 3 w g n n (rowF al n i k) wA) := HK.out.below hqB
        have zi := HKA.out.cell hil
        have zk := HKA.out.cell hkn
        rw [HEI.out] at zi
        rw [HEK.out] at zk
        have HAB2 := HAB
        clear HS HCL hBD yi yk hqB HK
        cases av with
        | false =>
          have HN : Hid (Grp 3 w g n n (rowF al n i (k + 1)) wA) := HKA.out.congr (fun j _ => (HSAME.out j (.inr HAV.out)).symm)
          go_wp2_with fail
          go_roundw
          case rel => exact ⟨k + 1, by omega, by go_num, HN⟩
          case measure => simp [intOf]; omega
        | true =>
          obtain ⟨M, hM⟩ : ∃ M, M = max a b := ⟨_, rfl⟩
          obtain ⟨m, hm⟩ : ∃ m, m = min a b := ⟨_, rfl⟩
          have hmx : max (a : Int) (b : Int) = (M : Int) := by omega
          have hmn : min (a : Int) (b : Int) = (m : Int) := by omega
          have HEND : Hid (∀ j, j < n → mixF al n i k M m (i + 1) j = rowF al n i (k + 1) j) := fun j hj => HMIX.out j hj HAB.out HAV.out hM hm
          clear hM hm
          go_upto_region 10 with (fail)
          go_quiet (fail)
          have HKB : Hid (Grp 3 w g n n (mixF al n i k M m 0) (wA.drewN nq)) := (HKA.out.below (below_drewN (Below.refl _ _) _)).congr (fun j _ => by unfold mixF; rw [if_neg (by omega)])
          generalize wA.drewN nq = wB at HKB ⊢
          clear zi zk hmx hmn
          have hi1 : IntKind.i64.wrap ((i : Int) + 1) = (i : Int) + 1 := IntWalk.i64_in _ (by omega)
          go_wp2_with fail
          go_loopw [66] (fun pv wr => ∃ p : Nat, p ≤ i + 1 ∧ pv = .int .i64 (p : Int) ∧ Hid (Grp 3 w g n n (mixF al n i k M m p) wr)) (fun pv _ => i + 1 - (intOf pv).toNat)
          case atStart => exact ⟨0, by omega, rfl, HKB⟩
          case round =>
            obtain ⟨p, hp, rfl, HP⟩ := hrel
            by_cases hpi : p < i + 1
            case neg =>
              have hpe : p = i + 1 := by omega
              have hd2 : decide ((p : Int) < (i : Int) + 1) = false := by simp; omega
              have HN : Hid (Grp 3 w g n n (rowF al n i (k + 1)) wr) := HP.out.congr (fun j hj => by rw [hpe]; exact HEND.out j hj)
              clear hpe
              go_wp2_with fail
              go_roundw
              case rel => exact ⟨k + 1, by omega, by go_num, HN⟩
              case measure => simp [intOf]; omega
            have hd2 : decide ((p : Int) < (i : Int) + 1) = true := by simp; omega
            have hpn : p < n := by omega
            have yp := HP.out.cell hpn
            have zp := HP.out.frozen p
            have hgp := HP.out.lt
            have epp : mixF al n i k M m p p = rowF al n i k p := by unfold mixF; rw [if_neg (by omega)]
            rw [epp] at yp
            obtain ⟨u, hu⟩ : ∃ u, rowF al n i k p = u := ⟨_, rfl⟩
            rw [hu] at yp
            have HU := Lib.hid hu
            have HEPP := Lib.hid epp
            clear hu epp
            have p0 : (0 : Int) ≤ (p : Int) := by omega
            have p1 : (p : Int) < (n : Int) := by omega
            by_cases hum : u = M
            · have HN : Hid (Grp 3 w g n n (mixF al n i k M m (p + 1)) (wr.setCell ⟨g, p, none⟩ (.int .i64 (m : Int)))) := HP.out.store p m (fun j _ => by rw [mix_step, HU.out, if_pos hum])
              subst hum
              go_wp2_with fail
              go_roundw
              case rel => exact ⟨p + 1, by omega, by go_num, HN⟩
              case measure => simp [intOf]; omega
            · have hub : ((u : Int) == (M : Int)) = false := by simp; omega
              have hub2 : (u == M) = false := by simp [hum]
              have HN : Hid (Grp 3 w g n n (mixF al n i k M m (p + 1)) wr) := HP.out.congr (fun j _ => by
                rw [mix_step, HU.out, if_neg hum]
                by_cases hjp : j = p
                · subst hjp; rw [if_pos rfl, HEPP.out, HU.out]
                · rw [if_neg hjp])
              go_wp2_with fail
              go_roundw
              case rel => exact ⟨p + 1, by omega, by go_num, HN⟩
              case measure => simp [intOf]; omega
  case rest =>
    have HG := hcut.out
    clear hcut
    obtain ⟨st, hst⟩ : ∃ st, grpD al n n = st := ⟨_, rfl⟩
    have HGS : Hid (Grp 3 w g n n (fun j => st.getD j 0) wc) := by
      show Grp _ _ _ _ _ _ _
      exact HG.congr (fun j hj => by unfold headF; rw [if_pos hj, hst])
    have HRES : Hid (grpsF al n = outD st n n) := by show _ = _; unfold grpsF; rw [hst]
    clear hst HG0 HAL
    obtain ⟨ii, hii, hzi0, hzi1, hzi2⟩ := info_parts info_int
    obtain ⟨is, his, hzs0, hzs1, hzs2⟩ := info_parts info_ints
    have HII := Lib.hid (And.intro hii (And.intro hzi0 (And.intro hzi1 hzi2)))
    have HIS := Lib.hid (And.intro his (And.intro hzs0 (And.intro hzs1 hzs2)))
    clear hii hzi0 hzi1 hzi2 his hzs0 hzs1 hzs2
    go_wp2_with fail
    go_loopw [11, 83] (fun ov gv wr => ∃ (q : Nat) (G : List Rw), q ≤ n ∧ gv = .int .i64 (q : Int) ∧ G.length ≤ q ∧ Hid (wr.ownsRow wc.heap.size 23 1 ov G.length (G.map Rw.v)) ∧ Hid (Rws wr ov.ownBlock G) ∧ Hid (G.map Rw.cs = (outD st n q).map nc) ∧ Hid (Below wc.heap.size wc wr)) (fun _ gv _ => n - (intOf gv).toNat)
    case atStart => exact ⟨0, [], by omega, rfl, by simp, World.ownsRow_nil _ _ _ _, (fun s hs => by cases hs), rfl, Below.refl _ _⟩
    case round =>
      obtain ⟨q, G, hq, rfl, hGl, HO, HR, HE, HB⟩ := hrel
      obtain ⟨A2, c2, rfl⟩ := slice_of_own HO.out
      obtain ⟨wo, hwo⟩ : ∃ wo, wo = wr := ⟨_, rfl⟩
      subst hwo
      by_cases hqn : q < n
      case neg =>
        have hqe : q = n := by omega
        have hd0 : decide (q < n) = false := by simpa using hqn
        have HP : Hid (GrpPost w (grpsF al n) (.returned (.slice A2 G.length c2)) wo) := ⟨A2, c2, G, rfl, Rd.of_own HO.out, HR.out.rd, by rw [HE.out, HRES.out, hqe], HGS.out.2.trans (HB.out.mono HGS.out.2.size)⟩
        clear hqe
        go_wp2_with fail
        go_ret
        exact HP.out
      have hd0 : decide (q < n) = true := by simpa using hqn
      have hszo := HB.out.size
      go_wp2_with fail
      go_loopw [13, 88] (fun lv iv wr => ∃ (i : Nat) (l : List Nat), i ≤ n ∧ iv = .int .i64 (i : Int) ∧ l.length ≤ i ∧ Hid (l = mem1 st q i) ∧ Hid (wr.ownsRow wo.heap.size 3 1 lv l.length (nc l)) ∧ Hid (Below wo.heap.size wo wr)) (fun _ iv _ => n - (intOf iv).toNat)
      case atStart => exact ⟨0, [], by omega, rfl, by simp, rfl, World.ownsRow_nil _ _ _ _, Below.refl _ _⟩
      case round =>
        obtain ⟨i, l, hi, rfl, hll, HL, HLO, HLB⟩ := hrel
        obtain ⟨A3, c3, rfl⟩ := slice_of_own HLO.out
        have hszr := HLB.out.size
        by_cases hil : i < n
        case neg =>
          have hie : i = n := by omega
          have hd1 : decide (i < n) = false := by simpa using hil
          have HLE : Hid (l = mem1 st q n) := by show _ = _; rw [HL.out, hie]
          clear hie
          by_cases hbig : 1 < l.length
          case neg =>
            have hd2 : decide (1 < l.length) = false := by simpa using hbig
            have hd3 : decide ((1 : Int) < (l.length : Int)) = false := by simp; omega
            have HNX : Hid (outD st n (q + 1) = outD st n q) := by show _ = _; rw [outD, ← HLE.out, if_neg hbig]
            clear hbig
            go_wp2_with fail
            go_roundw
            case rel => exact ⟨q + 1, G, by omega, by go_num, by omega, own_belowL HO.out HLB.out, HR.out.below HLB.out, by rw [HNX.out]; exact HE, HB.out.trans (HLB.out.mono hszo)⟩
            case measure => simp [intOf]; omega
          have hd2 : decide (1 < l.length) = true := by simpa using hbig
          have hd3 : decide ((1 : Int) < (l.length : Int)) = true := by simp; omega
          have HNX : Hid (outD st n (q + 1) = outD st n q ++ [l]) := by show _ = _; rw [outD, ← HLE.out, if_pos hbig]
          clear hbig
          have HOA : Hid ((wr.alloc (.cells #[.slice A3 l.length c3] 23)).ownsRow wc.heap.size 23 1 (.slice A2 G.length c2) G.length (G.map Rw.v)) := (own_belowL HO.out HLB.out).alloc _
          have HRA : Hid (Rws (wr.alloc (.cells #[.slice A3 l.length c3] 23)) (Value.slice A2 G.length c2).ownBlock (G ++ [⟨A3, c3, nc l⟩])) := by
            refine Rws.below (Rws.snoc (HR.out.below HLB.out) ?_) ((Below.refl _ _).alloc (Nat.le_refl _) _)
            exact rds_own HLO.out (fun k hk => (HO.out.lt k hk).2)
          have HBA : Hid (Below wc.heap.size wc (wr.alloc (.cells #[.slice A3 l.length c3] 23))) := (HB.out.trans (HLB.out.mono hszo)).alloc (by omega) _
          go_wp2_with (at_builtin; refine wpList_append_lies _ rfl _ _ 51 rfl wc.heap.size 23 is _ 1 24 Tryd.underlying51 HIS.out.1 HIS.out.2.1 HIS.out.2.2.1 HIS.out.2.2.2 rfl (by decide) _ _ _ rfl HOA.out ⟨wr.heap.size, 0, none⟩ 1 1 [.slice A3 l.length c3] (by rfl) (by rfl) (World.news_of_block (cs := #[.slice A3 l.length c3]) (t := 23) (fr := (0, 0)) (heap_alloc_new wr _)) (by simp [Value.oneCell']) (by decide) (by unfold maxLen; omega) (by omega) (by simp; omega) (wr.heap.size + 1) (by simp) ?_; intro g2 cap2 w2 hown2 hgrow2 hat2 hlt2)
          have HO2 : Hid (w2.ownsRow wc.heap.size 23 1 (.slice (some ⟨g2, 0, none⟩) (G ++ [(⟨A3, c3, nc l⟩ : Rw)]).length cap2) (G ++ [(⟨A3, c3, nc l⟩ : Rw)]).length ((G ++ [(⟨A3, c3, nc l⟩ : Rw)]).map Rw.v)) := by
            show World.ownsRow _ _ _ _ _ _ _
            rw [List.length_append, List.map_append]
            have e1 : Rw.v ⟨A3, c3, nc l⟩ = .slice A3 l.length c3 := by unfold Rw.v; rw [nc_len]
            rw [List.map_cons, e1]
            exact hown2
          have HR2 : Hid (Rws w2 (some g2) (G ++ [⟨A3, c3, nc l⟩])) := HRA.out.app hgrow2 (by rw [show (wr.alloc (.cells #[.slice A3 l.length c3] 23)).heap.size = wr.heap.size + 1 by simp]; exact hat2)
          have HB2 : Hid (Below wc.heap.size wc w2) := HBA.out.grown hgrow2 (by simp; omega) (fun k hk => (HO.out.lt k hk).1)
          have HE2 : Hid ((G ++ [(⟨A3, c3, nc l⟩ : Rw)]).map Rw.cs = (outD st n (q + 1)).map nc) := by show _ = _; rw [HNX.out, List.map_append, List.map_append, HE.out]; rfl
          have hl2 : (G ++ [(⟨A3, c3, nc l⟩ : Rw)]).length ≤ q + 1 := by simp; omega
          have hl3 : (G ++ [(⟨A3, c3, nc l⟩ : Rw)]).length = G.length + 1 := by simp
          generalize G ++ [(⟨A3, c3, nc l⟩ : Rw)] = G2 at *
          have HL3 := Lib.hid hl3
          clear hown2 hgrow2 hat2 HOA HRA HBA hl3
          go_wp2_with fail
          go_roundw
          case rel => exact ⟨q + 1, G2, by omega, by go_num, hl2, by rw [← HL3.out]; exact HO2, HR2, HE2, HB2⟩
          case measure => simp [intOf]; omega
        have hd1 : decide (i < n) = true := by simpa using hil
        have hgc := HGS.out.lt
        have yi : wr.cell? ⟨g, i, none⟩ = some (.int .i64 (st.getD i 0 : Int)) := by rw [HLB.out.cell (by show g < _; omega), HB.out.cell (by exact hgc)]; exact HGS.out.cell hil
        obtain ⟨u, hu⟩ : ∃ u, st.getD i 0 = u := ⟨_, rfl⟩
        have HM1 : Hid (mem1 st q (i + 1) = if u = q then mem1 st q i ++ [i] else mem1 st q i) := by show _ = _; rw [mem1, hu]
        rw [hu] at yi
        clear hu
        by_cases huq : u = q
        · have HM2 : Hid (mem1 st q (i + 1) = l ++ [i]) := by show _ = _; rw [HM1.out, if_pos huq, ← HL.out]
          have HLA : Hid ((wr.alloc (.cells #[.int .i64 (i : Int)] 3)).ownsRow wo.heap.size 3 1 (.slice A3 l.length c3) l.length (nc l)) := HLO.out.alloc _
          subst huq
          go_wp2_with (at_builtin; refine wpList_append_own _ rfl _ _ 23 rfl wo.heap.size 3 ii _ 1 8 Tryd.underlying23 HII.out.1 HII.out.2.1 HII.out.2.2.1 HII.out.2.2.2 rfl (by decide) _ _ _ rfl HLA.out ⟨wr.heap.size, 0, none⟩ 1 1 [.int .i64 (i : Int)] (by rfl) (by rfl) (World.news_of_block (cs := #[.int .i64 (i : Int)]) (t := 3) (fr := (0, 0)) (heap_alloc_new wr _)) (by simp [Value.oneCell']) (by unfold maxLen; omega) (by omega) (by simp; omega) ?_; intro v1 w2 hown2 hgrow2 _)
          have HB2 : Hid (Below wo.heap.size wo w2) := (HLB.out.alloc hszr _).grown hgrow2 (by simp; omega) (fun g hg => (HLO.out.lt g hg).1)
          have HO2 : Hid (w2.ownsRow wo.heap.size 3 1 v1 (l ++ [i]).length (nc (l ++ [i]))) := by
            show World.ownsRow _ _ _ _ _ _ _
            rw [nc_snoc, List.length_append]
            exact hown2
          clear hown2 hgrow2 HLA
          have hl2 : (l ++ [i]).length ≤ i + 1 := by simp; omega
          generalize l ++ [i] = l2 at *
          go_wp2_with fail
          go_roundw
          case rel => exact ⟨i + 1, l2, by omega, by go_num, hl2, HM2.out.symm, HO2, HB2⟩
          case measure => simp [intOf]; omega
        · have hub : ((u : Int) == (q : Int)) = false := by simp; omega
          have hub2 : (u == q) = false := by simp [huq]
          have HM2 : Hid (mem1 st q (i + 1) = l) := by show _ = _; rw [HM1.out, if_neg huq, ← HL.out]
          go_wp2_with fail
          go_roundw
          case rel => exact ⟨i + 1, l, by omega, by go_num, by omega, HM2.out.symm, HLO, HLB⟩
          case measure => simp [intOf]; omega
end Go.Proofs.YtgjmjdpddionmaaDoor
