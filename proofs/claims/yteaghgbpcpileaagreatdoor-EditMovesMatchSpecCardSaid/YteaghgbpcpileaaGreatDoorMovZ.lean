/- Several texts laid into one: A clip changed beyond its range: the fault; plain Lean; Plain: what steps and the edit that they should lead to have to do with each other; Slip and Move, both sides' answers; plain; The contract of deadwaxlaw3's same; Several texts laid into one: The contract of deadwaxlaw3's awake; The tables out of a row's list;; Generated (gen/doe.py): the contract of the law's does; An edit's box is written: what reads as steps or as an edit lies elsewhere, by its cells alone; Generated (gen/dlaw.py): EditMovesMatchSpec: Slip and Move make the edits that are described, and are taken back; -/
import Derived.Test.YteaghgbpcpileaaGreatDoorPlaZ
import Derived.Test.YteaghgbpcpileaaGreatDoorStpZ
import Derived.Test.YteaghgbpcpileaaGreatDoorMisZ
import Derived.Test.YteaghgbpcpileaaGreatDoorPlnF
import Derived.Test.YteaghgbpcpileaaGreatDoorChnZ
import Derived.Test.YteaghgbpcpileaaGreatDoorRefM
import Derived.Test.YteaghgbpcpileaaGreatDoorSmcZ
import Derived.Test.YteaghgbpcpileaaGreatDoorTxtZ
import Derived.Test.YteaghgbpcpileaaGreatDoorBase
import Derived.Lib.LaidTab
import Derived.Test.YteaghgbpcpileaaGreatDoorSteZ
import Derived.Test.YteaghgbpcpileaaGreatDoorTuZ
import Derived.Test.YteaghgbpcpileaaGreatDoorApdZ
import Derived.Test.YteaghgbpcpileaaGreatDoorFacZ
import Derived.Test.YteaghgbpcpileaaGreatDoorEdtZ
/- A clip changed beyond its range: the fault; plain Lean. -/
namespace Go.Dw

theorem out_mem (n : Int) (G : Cli → Cli) : ∀ (cs : List Cli) (i k : Nat) (h : k < cs.length), ((i + k : Nat) : Int) = n → G cs[k] ∈ outL (chgD n G) cs i
  | c :: cs, i, 0, _, e => by
    rw [outL]
    unfold chgD
    rw [if_pos (by simpa using e)]
    exact List.mem_append_left _ (List.mem_singleton.2 rfl)
  | c :: cs, i, k + 1, h, e => by
    rw [outL]
    refine List.mem_append_right _ ?_
    have := out_mem n G cs (i + 1) k (by simpa using h) (by rw [← e]; congr 1; omega)
    simpa using this
theorem chg_fault {nm : ByteArray → Bool} {mx : Int} {e : Edt} {n : Int} {G : Cli → Cli} (he : ediF nm mx e = 0) (h0 : 0 ≤ n) (h1 : n < (e.cs.length : Int)) (hb : ∀ c ∈ e.cs, nm (G c).m = true ∧ cliR e.tracks (G c) = false) :
    ediF nm mx ⟨e.rate, e.tracks, srtC (outL (chgD n G) e.cs 0)⟩ = 1 := by
  obtain ⟨p1, p2, p3, p4⟩ := ediF_parts he
  obtain ⟨k, hk⟩ : ∃ k : Nat, (k : Int) = n := ⟨n.toNat, by omega⟩
  have hkl : k < e.cs.length := by omega
  have hf : ∀ c ∈ e.cs, cliF nm e.tracks (G c) = 1 := fun c hc => by
    obtain ⟨g1, g2⟩ := hb c hc
    unfold cliF
    rw [g1, g2]; rfl
  obtain ⟨X, hX⟩ : ∃ X, srtC (outL (chgD n G) e.cs 0) = X := ⟨_, rfl⟩
  have hS : Srt X := by rw [← hX]; exact srtC_srt _
  have hP : X.Perm (outL (chgD n G) e.cs 0) := by rw [← hX]; exact srtC_perm (List.Perm.refl _)
  have hl : X.length = e.cs.length := by rw [hP.length_eq]; exact (chg_out n G e.cs 0).1
  have hm : G e.cs[k] ∈ X := hP.symm.subset (out_mem n G e.cs 0 k hkl (by rw [Nat.zero_add]; exact hk))
  rw [hX]
  unfold ediF
  rw [if_neg (by show ¬ (¬ (1 ≤ e.rate ∧ e.rate ≤ mx) ∨ e.tracks < 1 ∨ 16 < e.tracks); omega)]
  rw [if_neg (by show ¬ 300 < X.length; omega)]
  show firstNZ (ediK nm ⟨e.rate, e.tracks, X⟩) X.length = 1
  by_cases hz : firstNZ (ediK nm ⟨e.rate, e.tracks, X⟩) X.length = 0
  · have := srt_none hS hz _ hm
    rw [hf _ (List.getElem_mem hkl)] at this
    omega
  · obtain ⟨c, hc, hf1, e1, _⟩ := srt_first hS hz
    rw [e1]
    obtain ⟨d, hd, h2⟩ := (chg_out n G e.cs 0).2 c (hP.subset hc)
    rcases h2 with rfl | rfl
    · exact absurd (p3 _ hd) hf1
    · exact hf d hd
/-- a plan that changes one clip: its fault is that of the changed edit, and its steps lead there -/
theorem chg_law {nm : ByteArray → Bool} {mx : Int} {e : Edt} (n : Int) {G : Cli → Cli} (he : ediF nm mx e = 0) (hG : ∀ c ∈ e.cs, EnvS (G c)) :
    (plaR nm mx e.rate e.tracks (plaF (chgD n G) e.cs) 0 0).2 = (mkE nm mx ⟨e.rate, e.tracks, srtC (outL (chgD n G) e.cs 0)⟩).2 ∧
    ((plaR nm mx e.rate e.tracks (plaF (chgD n G) e.cs) 0 0).2 ≠ 0 → (plaR nm mx e.rate e.tracks (plaF (chgD n G) e.cs) 0 0).1 = []) ∧
    ((plaR nm mx e.rate e.tracks (plaF (chgD n G) e.cs) 0 0).2 = 0 → ∃ a k, applyF nm mx e (plaR nm mx e.rate e.tracks (plaF (chgD n G) e.cs) 0 0).1 = (a, k, 0) ∧ a.rate = e.rate ∧ a.tracks = e.tracks ∧ a.cs.Perm (srtC (outL (chgD n G) e.cs 0)) ∧ Srt a.cs) := by
  obtain ⟨q1, q2⟩ := plaF_perm (chgD n G) e.cs
  obtain ⟨p, hp⟩ : ∃ p, plaF (chgD n G) e.cs = p := ⟨_, rfl⟩
  rw [hp] at q1 q2 ⊢
  have hs : (p.kept ++ p.made).map (shfC 0 0) = p.kept ++ p.made := by
    have : shfC 0 0 = id := by funext c; exact shfC_0 0 c
    rw [this, List.map_id]
  have hX : (plaX p 0 0).Perm (p.kept ++ p.made) := by
    have h1 : (plaX p 0 0).Perm ((p.kept ++ p.made).map (shfC 0 0)) := srtC_perm ((srtC_perm (List.Perm.refl _)).map _)
    rw [hs] at h1; exact h1
  have hz : (plaX p 0 0).Perm (srtC (outL (chgD n G) e.cs 0)) := (hX.trans q2).trans (srtC_perm (List.Perm.refl _)).symm
  have hE : ∀ c ∈ plaX p 0 0, EnvS c := fun c hc => by
    obtain ⟨d, hd, h⟩ := (chg_out n G e.cs 0).2 c (q2.subset (hX.subset hc))
    rcases h with rfl | rfl
    · exact .inl (cliF_env (ediF_cli he _ hd))
    · exact hG d hd
  have hA : ediF nm mx ⟨e.rate, e.tracks, plaX p 0 0⟩ = ediF nm mx ⟨e.rate, e.tracks, srtC (outL (chgD n G) e.cs 0)⟩ := ediF_agree hz (srtC_srt _) (srtC_srt _) hE
  by_cases h0 : ediF nm mx ⟨e.rate, e.tracks, plaX p 0 0⟩ = 0
  · have hr : plaR nm mx e.rate e.tracks p 0 0 = (plaT p 0 0, 0) := by unfold plaR; rw [if_neg (fun k => k h0)]
    rw [hr, mkE_ok (hA.symm.trans h0)]
    refine ⟨rfl, fun h => absurd rfl h, fun _ => ?_⟩
    have hm : ediF nm mx ⟨e.rate, e.tracks, srtC (p.kept ++ p.made)⟩ = 0 := ediF_perm h0 ((srtC_perm (List.Perm.refl _)).trans hX.symm) (srtC_srt _)
    obtain ⟨a, k, k1, k2, k3, k4, k5⟩ := plan_law (a := 0) (b := 0) he q1.symm hm (fun h => absurd rfl h) h0
    exact ⟨a, k, k1, k2, k3, k4.trans hz, k5⟩
  · have hr : plaR nm mx e.rate e.tracks p 0 0 = ([], ediF nm mx ⟨e.rate, e.tracks, plaX p 0 0⟩) := by unfold plaR; rw [if_pos h0]
    rw [hr, mkE_bad (by rw [← hA]; exact h0), ← hA]
    exact ⟨rfl, fun _ => rfl, fun h => absurd h h0⟩
end Go.Dw
/- Plain: what steps and the edit that they should lead to have to do with each other. -/
namespace Go.Proofs.YteaghgbpcpileaaGreatDoor
open Go.RowKit Go.Dw

/-- what steps and the edit that they should lead to have to do with each other -/
def DoesL (e : Edt) (q : List Stp × Int) (z : Edt × Int) : Prop :=
  q.2 = z.2 ∧ (q.2 ≠ 0 → q.1 = []) ∧ (q.2 = 0 → ediF isNm 1000000 e = 0 ∧ ∃ b k, applyF isNm 1000000 e q.1 = (b, k, 0) ∧ b.rate = z.1.rate ∧ b.tracks = z.1.tracks ∧ b.cs.Perm z.1.cs ∧ Srt b.cs ∧ Srt z.1.cs)
theorem doesL_bad {e : Edt} {q : List Stp × Int} {z : Edt × Int} {f : Int} (h0 : f ≠ 0) (h1 : q = ([], f)) (h2 : z = (e0, f)) : DoesL e q z := by
  subst h1; subst h2
  exact ⟨rfl, fun _ => rfl, fun h => absurd h h0⟩
theorem applyF_lenD {nm : ByteArray → Bool} {mx : Int} {e a : Edt} {l : List Stp} {k : Nat} (h : applyF nm mx e l = (a, k, 0)) : e.cs.length ≤ 300 ∧ l.length ≤ 200 := by
  unfold applyF at h
  by_cases h1 : ediF nm mx e ≠ 0
  · rw [if_pos h1] at h; injection h with _ h; injection h with _ h; exact absurd h h1
  · rw [if_neg h1] at h
    by_cases h2 : 200 < l.length
    · rw [if_pos h2] at h; injection h with _ h; injection h with _ h; omega
    · exact ⟨(ediF_parts (by simpa using h1)).2.1, by omega⟩
end Go.Proofs.YteaghgbpcpileaaGreatDoor
/- Slip and Move, both sides' answers; plain. -/
namespace Go.Proofs.YteaghgbpcpileaaGreatDoor
open Go.RowKit Go.Dw

theorem doesL_chg {e : Edt} {n : Int} {G : Cli → Cli} (he : ediF isNm 1000000 e = 0) (hG : ∀ c ∈ e.cs, EnvS (G c)) : DoesL e (plaR isNm 1000000 e.rate e.tracks (plaF (chgD n G) e.cs) 0 0) (mkE isNm 1000000 ⟨e.rate, e.tracks, srtC (outL (chgD n G) e.cs 0)⟩) := by
  obtain ⟨h1, h2, h3⟩ := chg_law n he hG
  refine ⟨h1, h2, fun h => ⟨he, ?_⟩⟩
  obtain ⟨a, k, k1, k2, k3, k4, k5⟩ := h3 h
  have hz : ediF isNm 1000000 ⟨e.rate, e.tracks, srtC (outL (chgD n G) e.cs 0)⟩ = 0 := by
    refine Decidable.byContradiction fun g => ?_
    rw [h1, mkE_bad g] at h
    exact g h
  rw [mkE_ok hz]
  exact ⟨a, k, k1, k2, k3, k4, k5, srtC_srt _⟩
theorem slip_law (e : Edt) (n a : Int) : DoesL e (slipS isNm 1000000 e n a) (slipE isNm 1000000 e n a) := by
  unfold slipS slipE
  by_cases h0 : numF isNm 1000000 e n = 0
  case neg => rw [if_pos h0, if_pos h0]; exact doesL_bad h0 rfl rfl
  obtain ⟨he, hn0, hn1⟩ := numF_inSR h0
  have hn : ¬ numF isNm 1000000 e n ≠ 0 := fun k => k h0
  rw [if_neg hn, if_neg hn]
  have hcs := ediF_cli he
  by_cases h2 : -20000000000000 ≤ a ∧ a ≤ 20000000000000
  case neg => rw [if_pos (show a < -10000000000000 ∨ 10000000000000 < a by omega), if_pos h2]; exact doesL_bad (by decide) rfl rfl
  rw [if_neg (show ¬ ¬ (-20000000000000 ≤ a ∧ a ≤ 20000000000000) from fun k => k h2)]
  by_cases h1 : a < -10000000000000 ∨ 10000000000000 < a
  · rw [if_pos h1]
    have hf := chg_fault (G := slpC a) he hn0 hn1 (fun c hc => by
      have hr := cliF_ok (hcs c hc)
      refine ⟨hr.m, ?_⟩
      obtain ⟨_, ⟨f1, f2⟩, _⟩ := hr.r
      unfold cliR slpC
      refine decide_eq_false fun k => ?_
      have := k.2.1
      simp only at this
      omega)
    exact doesL_bad (by decide) rfl (by rw [mkE_bad (by rw [hf]; decide), hf])
  · rw [if_neg h1]
    exact doesL_chg he fun c hc => .inl (show envF c.ln c.e = 0 from cliF_env (hcs c hc))
theorem move_law (e : Edt) (n a t : Int) : DoesL e (moveS isNm 1000000 e n a t) (moveE isNm 1000000 e n a t) := by
  unfold moveS moveE
  by_cases h0 : numF isNm 1000000 e n = 0
  case neg => rw [if_pos h0, if_pos h0]; exact doesL_bad h0 rfl rfl
  obtain ⟨he, hn0, hn1⟩ := numF_inMR h0
  have hn : ¬ numF isNm 1000000 e n ≠ 0 := fun k => k h0
  rw [if_neg hn, if_neg hn]
  have hcs := ediF_cli he
  by_cases h2 : -20000000000000 ≤ a ∧ a ≤ 20000000000000
  case neg => rw [if_pos (show a < -100000 ∨ 100000 < a by omega), if_pos h2]; exact doesL_bad (by decide) rfl rfl
  rw [if_neg (show ¬ ¬ (-20000000000000 ≤ a ∧ a ≤ 20000000000000) from fun k => k h2)]
  by_cases h1 : a < -100000 ∨ 100000 < a
  · rw [if_pos h1]
    have hf := chg_fault (G := mvtC a t) he hn0 hn1 (fun c hc => by
      have hr := cliF_ok (hcs c hc)
      refine ⟨hr.m, ?_⟩
      obtain ⟨_, _, _, ⟨f1, f2⟩, _⟩ := hr.r
      unfold cliR mvtC
      refine decide_eq_false fun k => ?_
      have := k.2.2.2.1
      simp only at this
      omega)
    exact doesL_bad (by decide) rfl (by rw [mkE_bad (by rw [hf]; decide), hf])
  · rw [if_neg h1]
    exact doesL_chg he fun c hc => .inl (show envF c.ln c.e = 0 from cliF_env (hcs c hc))
end Go.Proofs.YteaghgbpcpileaaGreatDoor
/- The contract of deadwaxlaw3's same. -/
namespace Go.Proofs.YteaghgbpcpileaaGreatDoor
open Go.RowKit Go.Dw

def twoE (w : World) (a b : Int) (A : Option Addr) (n c : Nat) (a' b' : Int) (A' : Option Addr) (n' c' : Nat) : World := (w.alloc (.cells #[.int .i64 a, .int .i64 b, .slice A n c] 24)).alloc (.cells #[.int .i64 a', .int .i64 b', .slice A' n' c'] 24)
theorem twoE_blk (w : World) (a b : Int) (A : Option Addr) (n c : Nat) (a' b' : Int) (A' : Option Addr) (n' c' : Nat) :
    Gq w (twoE w a b A n c a' b' A' n' c') ∧ Blk (twoE w a b A n c a' b' A' n' c') w.heap.size 24 [.int .i64 a, .int .i64 b, .slice A n c] ∧ Blk (twoE w a b A n c a' b' A' n' c') (w.heap.size + 1) 24 [.int .i64 a', .int .i64 b', .slice A' n' c'] := by
  have k1 := Blk.new w 24 [.int .i64 a, .int .i64 b, .slice A n c]
  have k2 := Blk.new (w.alloc (.cells #[.int .i64 a, .int .i64 b, .slice A n c] 24)) 24 [.int .i64 a', .int .i64 b', .slice A' n' c']
  have e2 : (w.alloc (.cells #[.int .i64 a, .int .i64 b, .slice A n c] 24)).heap.size = w.heap.size + 1 := by simp
  rw [e2] at k2
  exact ⟨((Gq.refl _).alloc _).alloc _, k1.same (Same.alloc (S := fun _ => True) _ _) trivial, k2⟩
set_option maxRecDepth 100000 in
set_option maxHeartbeats 4000000 in
theorem same_any (x y : EdtM) (q : Bool) (hq : q = true ↔ x.rate = y.rate ∧ x.tracks = y.tracks ∧ SmC (x.cs.xs.map CliM.x) (y.cs.xs.map CliM.x)) (w : World) (hx : EdtOk w x) (hy : EdtOk w y) (hl : y.cs.xs.length ≤ 1048576) :
    Calls Tryz.prog 18 #[x.v, y.v] w fun e w' => e = .returned (.bool q) ∧ Gq w w' := by
  obtain ⟨r1, t1, ⟨A, c, xs⟩⟩ := x
  obtain ⟨r2, t2, ⟨B, d, ys⟩⟩ := y
  obtain ⟨q2, hq2⟩ : ∃ q2 : Bool, q2 = true ↔ SmC (xs.map CliM.x) (ys.map CliM.x) := by
    by_cases h : SmC (xs.map CliM.x) (ys.map CliM.x)
    · exact ⟨true, by simp [h]⟩
    · exact ⟨false, by simp [h]⟩
  have HSC : Hid (∀ W, Gq w W → Calls Tryz.prog 33 #[.slice A xs.length c, .slice B ys.length d] W fun e w' => e = .returned (.bool q2) ∧ Gq W w') := fun W hW =>
    sameClips_any A B c d xs ys q2 hq2 W (hx.cr.below hW) (hy.cr.below hW) (fun x h => (hx.co x h).below hW) (fun x h => (hy.co x h).below hW) hx.cl hl
  have HQ : Hid (q = (decide (r1 = r2) && decide (t1 = t2) && q2)) := by
    show _ = _
    rw [Bool.eq_iff_iff, hq]
    simp [hq2, and_assoc]
  clear hq hq2 hx hy hl
  simp only [EdtM.v, Slc.v]
  generalize (xs.length : Nat) = xn at *
  generalize (ys.length : Nat) = yn at *
  obtain ⟨w1, hw1⟩ : ∃ w1, w1 = twoE w r1 t1 A xn c r2 t2 B yn d := ⟨_, rfl⟩
  obtain ⟨k0, k1, k2⟩ := twoE_blk w r1 t1 A xn c r2 t2 B yn d
  rw [← hw1] at k0 k1 k2
  have HG1 : Hid (Gq w w1) := k0
  have a0 : w1.cell? ⟨w.heap.size, 0, none⟩ = some _ := k1.cell 0
  have a1 : w1.cell? ⟨w.heap.size, 1, none⟩ = some _ := k1.cell 1
  have a2 : w1.cell? ⟨w.heap.size, 2, none⟩ = some _ := k1.cell 2
  have b0 : w1.cell? ⟨w.heap.size + 1, 0, none⟩ = some _ := k2.cell 0
  have b1 : w1.cell? ⟨w.heap.size + 1, 1, none⟩ = some _ := k2.cell 1
  have b2 : w1.cell? ⟨w.heap.size + 1, 2, none⟩ = some _ := k2.cell 2
  unfold twoE at hw1
  have HW := Lib.hid hw1
  clear hw1 k0 k1 k2
  go_enter Tryz.func18, Tryz.ntmps18
  go_upto_region 1 with (fail)
  rw [← HW.out]
  by_cases h1 : r1 = r2
  · subst h1
    by_cases h2 : t1 = t2
    · subst h2
      have HE : Hid (q = q2) := by show _ = _; rw [HQ.out]; simp
      go_wp2_with fail
      refine (HSC.out _ HG1.out).mono ?_
      rintro e w2 ⟨rfl, hg⟩
      have HG2 : Hid (Gq w w2) := HG1.out.trans hg
      clear hg
      go_wp2_with fail
      go_ret
      exact ⟨ret_bool (by rw [HE.out]), HG2.out⟩
    · have HE : Hid (q = false) := by show _ = _; rw [HQ.out]; simp [h2]
      have hd : (t1 == t2) = false := by simpa using h2
      clear h2
      go_wp2_with fail
      go_ret
      exact ⟨ret_bool (by rw [HE.out]), HG1.out⟩
  · have HE : Hid (q = false) := by show _ = _; rw [HQ.out]; simp [h1]
    have hd : (r1 == r2) = false := by simpa using h1
    clear h1
    go_wp2_with fail
    go_ret
    exact ⟨ret_bool (by rw [HE.out]), HG1.out⟩
end Go.Proofs.YteaghgbpcpileaaGreatDoor
/- Several texts laid into one: The contract of deadwaxlaw3's awake; The tables out of a row's list; -/
/- The contract of deadwaxlaw3's awake. -/
namespace Go.Proofs.YteaghgbpcpileaaGreatDoor
open Go.RowKit Go.Dw

theorem dig1 (n : Nat) (h : n < 10) : Lib.itoa (n : Int) = [UInt8.ofNat (48 + n)] := by
  unfold Lib.itoa
  rw [if_neg (by omega), Int.toNat_natCast, Lib.decDigits, dif_pos h]
theorem txt23 : txtF isNm 1000000 ⟨2, 3, []⟩ = ([101, 100, 105, 116, 32, 50, 32, 51, 10], 0) := by
  have h0 : ediF isNm 1000000 ⟨2, 3, []⟩ = 0 := by
    unfold ediF
    rw [if_neg (by simp), if_neg (by simp)]
    rfl
  have h1 : ediT ⟨2, 3, []⟩ = [101, 100, 105, 116, 32, 50, 32, 51, 10] := by
    have a := dig1 2 (by omega)
    have b := dig1 3 (by omega)
    have a2 : Lib.itoa 2 = [50] := a
    have b2 : Lib.itoa 3 = [51] := b
    simp [ediT, a2, b2]
  rw [txtF_ok h0 (by rw [h1]; simp), h1]
theorem ok23 (w : World) : EdtOk w ⟨2, 3, ⟨none, 0, []⟩⟩ := ⟨⟨by decide, by decide⟩, ⟨by decide, by decide⟩, by simp, .inl rfl, fun c hc => by simp at hc⟩
set_option maxHeartbeats 1000000 in
theorem awake3 (w : World) (hp : HasPow w) : Calls Tryz.prog 15 #[] w fun e w' => e = .returned (.bool true) ∧ Below w.heap.size w w' := by
  have HT : Hid (Calls Tryz.prog 28 #[.agg #[.int .i64 2, .int .i64 3, .slice none 0 0]] w fun e w' => e = .returned (.tuple #[.string ⟨#[101, 100, 105, 116, 32, 50, 32, 51, 10]⟩, .int .i64 0]) ∧ Below w.heap.size w w') := by
    have := text_e ⟨2, 3, ⟨none, 0, []⟩⟩ w (ok23 w) hp
    have e1 : EdtM.x ⟨2, 3, ⟨none, 0, []⟩⟩ = ⟨2, 3, []⟩ := rfl
    rw [e1] at this
    unfold TxtR at this
    rw [txt23] at this
    exact this
  have e2 : ((⟨#[101, 100, 105, 116, 32, 50, 32, 51, 10]⟩ : ByteArray).toList == [101, 100, 105, 116, 32, 50, 32, 51, 10]) = true := by
    rw [ByteArray.toList_eq]; rfl
  generalize (⟨#[101, 100, 105, 116, 32, 50, 32, 51, 10]⟩ : ByteArray) = s at HT e2
  go_enter Tryz.func15, Tryz.ntmps15
  go_wp2_with fail
  refine HT.out.mono ?_
  rintro e w1 ⟨rfl, hb1⟩
  have HB1 := Lib.hid hb1
  clear hb1
  go_wp2_with fail
  go_ret
  exact ⟨rfl, HB1.out⟩
end Go.Proofs.YteaghgbpcpileaaGreatDoor
/- The tables out of a row's list. -/
namespace Go.Proofs.YteaghgbpcpileaaGreatDoor
open Go.RowKit Go.Dw

theorem laid_tail {P : Program} {w : World} {n : String} {d : DataW Unit} {r : List (String × DataW Unit)} {ps : List MemPlace} (h : DataW.LaidVars P w ((n, d) :: r) ps) : ∃ qs, DataW.LaidVars P w r qs := by
  obtain ⟨_, _, _, _, _, q, _, _, _, _, h, _⟩ := h
  exact ⟨q, h⟩
theorem tab_head {P : Program} {W : World} {name : String} {k : IntKind} {zs : List Int} {rest : List (String × DataW Unit)} {g : Nat} {t e : TypeId} {n : Nat} {ps : List MemPlace}
    (hg : P.globalNamed name = some g) (hty : (P.globals[g]?).map (·.type) = some t) (ht : P.underlying t = some (.array n e)) (he : P.underlying e = some (.int k)) (hce : P.cellsOf e = 1) (hct : P.cellsOf t = n)
    (h : DataW.LaidVars P W ((name, Lib.tabData k zs) :: rest) ps) : Lib.TabIs P W name k zs := by
  obtain ⟨g', t', cs, fuel, p, q, hg', ht', hvar, hd, _, _⟩ := h
  obtain rfl := Option.some.inj (hg.symm.trans hg')
  obtain rfl := Option.some.inj (hty.symm.trans ht')
  unfold Lib.TabIs
  rw [hvar, ← Lib.cells_of_tab ht he hce hct hd]
end Go.Proofs.YteaghgbpcpileaaGreatDoor
/- Generated (gen/doe.py): the contract of the law's does. -/
namespace Go.Proofs.YteaghgbpcpileaaGreatDoor
open Go.RowKit Go.Dw

set_option maxRecDepth 100000 in
set_option maxHeartbeats 16000000 in
theorem does_any (a z : EdtM) (l : Slc StpM) (q : List Stp × Int) (y : Edt × Int) (w : World) (hd : DoesL a.x q y) (hlx : l.xs.map StpM.x = q.1) (hzx : z.x = y.1) (ha : EdtOk w a) (hz : EdtOk w z) (hl : StsB 1048576 w l) (hp : HasPow w) :
    Calls Tryz.prog 6 #[a.v, l.v, .int .i64 q.2, z.v, .int .i64 y.2] w fun e w' => e = .returned (.bool true) ∧ Gq w w' := by
  obtain ⟨d1, d2, d3⟩ := hd
  rw [← d1]
  rw [← hlx] at d2 d3
  rw [← hzx] at d3
  obtain ⟨f, hf⟩ : ∃ f, q.2 = f := ⟨_, rfl⟩
  rw [hf] at d2 d3 ⊢
  clear hf d1 hlx hzx
  obtain ⟨b, k, HD⟩ : ∃ (b : Edt) (k : Nat), Hid (f = 0 → applyF isNm 1000000 a.x (l.xs.map StpM.x) = (b, k, 0) ∧ b.rate = z.x.rate ∧ b.tracks = z.x.tracks ∧ SmC b.cs z.x.cs) := by
    by_cases h0 : f = 0
    · obtain ⟨_, b, k, h1, h2, h3, h4, h5, h6⟩ := d3 h0
      exact ⟨b, k, fun _ => ⟨h1, h2, h3, h4, h5, h6⟩⟩
    · exact ⟨a.x, 0, fun h => absurd h h0⟩
  have HN : Hid (f ≠ 0 → l.xs.length = 0) := fun h => by
    have := congrArg List.length (d2 h)
    simpa using this
  clear d2 d3
  have HA := Lib.hid ha
  have HZ := Lib.hid hz
  have HLL := Lib.hid hl
  have HAW : Hid (∀ W, Gq w W → Calls Tryz.prog 15 #[] W fun e w' => e = .returned (.bool true) ∧ Gq W w') := fun W hW => awake3 W (hp.below hW)
  clear ha hz hl hp
  obtain ⟨a', ha'⟩ : ∃ x, a = x := ⟨_, rfl⟩
  obtain ⟨z', hz'⟩ : ∃ x, z = x := ⟨_, rfl⟩
  obtain ⟨l', hl'⟩ : ∃ x, l = x := ⟨_, rfl⟩
  have HAV : Hid (a'.v = a.v) := by show _ = _; rw [ha']
  have HZV : Hid (z'.v = z.v) := by show _ = _; rw [hz']
  have HLV : Hid (l'.v = l.v) := by show _ = _; rw [hl']
  rw [ha'] at HD HA
  rw [hz'] at HD HZ
  rw [hl'] at HD HLL
  have HNL : Hid (l'.xs.length = l.xs.length) := by show _ = _; rw [hl']
  clear ha' hz' hl'
  obtain ⟨ar, at_, ⟨aA, ad, as_⟩⟩ := a
  obtain ⟨zr, zt, ⟨zA, zd, zs⟩⟩ := z
  obtain ⟨lA, lc, ls⟩ := l
  simp only [EdtM.v, Slc.v] at HN HNL ⊢
  obtain ⟨an, han⟩ : ∃ an : Nat, as_.length = an := ⟨_, rfl⟩
  obtain ⟨zn, hzn⟩ : ∃ zn : Nat, zs.length = zn := ⟨_, rfl⟩
  obtain ⟨ln, hln⟩ : ∃ ln : Nat, ls.length = ln := ⟨_, rfl⟩
  rw [han, hzn, hln]
  rw [hln] at HN HNL
  replace HAV : Hid (a'.v = .agg #[.int .i64 ar, .int .i64 at_, .slice aA an ad]) := by have := HAV.out; rw [← han]; exact this
  replace HZV : Hid (z'.v = .agg #[.int .i64 zr, .int .i64 zt, .slice zA zn zd]) := by have := HZV.out; rw [← hzn]; exact this
  replace HLV : Hid (l'.v = .slice lA ln lc) := by have := HLV.out; rw [← hln]; exact this
  clear han hzn hln
  obtain ⟨w1, hw1⟩ : ∃ w1, w1 = twoE w ar at_ aA an ad zr zt zA zn zd := ⟨_, rfl⟩
  obtain ⟨k0, k1, k2⟩ := twoE_blk w ar at_ aA an ad zr zt zA zn zd
  rw [← hw1] at k0 k1 k2
  have HG1 : Hid (Gq w w1) := k0
  have HKA : Hid (Blk w1 w.heap.size 24 [.int .i64 ar, .int .i64 at_, .slice aA an ad]) := k1
  have HKZ : Hid (Blk w1 (w.heap.size + 1) 24 [.int .i64 zr, .int .i64 zt, .slice zA zn zd]) := k2
  unfold twoE at hw1
  have HCO : Hid (∀ W W' g (r t : Int) A m c, Blk W g 24 [.int .i64 r, .int .i64 t, .slice A m c] → Gq W W' → W'.cell? ⟨g, 0, none⟩ = some (.int .i64 r) ∧ W'.cell? ⟨g, 1, none⟩ = some (.int .i64 t) ∧ W'.cell? ⟨g, 2, none⟩ = some (.slice A m c)) := fun W W' g r t A m c h hg => by
    have k := blkq h hg
    exact ⟨k.cell 0, k.cell 1, k.cell 2⟩
  have HW1 := Lib.hid hw1
  have HE1 := Lib.hid (HAW.out w1 HG1.out)
  clear hw1 k0 k1 k2 HAW
  have hff : (f != f) = false := by simp
  go_enter Tryz.func6, Tryz.ntmps6
  go_upto_region 1 with (fail)
  rw [← HW1.out]
  go_wp2_with fail
  refine HE1.out.mono ?_
  rintro e w2 ⟨rfl, hg2⟩
  have HG12 : Hid (Gq w1 w2) := hg2
  have HG2 : Hid (Gq w w2) := HG1.out.trans hg2
  clear hg2 HE1 HW1
  obtain ⟨c0, c1, c2⟩ := HCO.out _ w2 _ _ _ _ _ _ HKA.out HG12.out
  by_cases hf0 : f = 0
  case neg =>
    have hfb : (f != 0) = true := by simpa using hf0
    have HN0 : Hid (ln = 0) := HN.out hf0
    have hn0 : ((ln : Int) == 0) = true := by simp [HN0.out]
    clear hf0 HD c0 c1 c2
    go_wp2_with fail
    go_ret
    exact ⟨rfl, HG2.out⟩
  have hfb : (f != 0) = false := by simp [hf0]
  obtain ⟨hRA, hbr, hbt, hbs⟩ := HD.out hf0
  obtain ⟨hT1, ⟨yy, hB, hy1, hy2, hy3⟩, hT2⟩ := applyF_turn hRA
  have HLEN := Lib.hid (applyF_lenD hRA)
  have HLEB := Lib.hid (applyF_lenD hB)
  have HRA := Lib.hid hRA
  have HB := Lib.hid hB
  have HBZ : Hid (b.rate = z'.x.rate ∧ b.tracks = z'.x.tracks ∧ SmC b.cs z'.x.cs) := ⟨hbr, hbt, hbs⟩
  have HYA : Hid (yy.rate = a'.x.rate ∧ yy.tracks = a'.x.tracks ∧ SmC yy.cs a'.x.cs) := ⟨hy1, hy2, hy3⟩
  obtain ⟨TL, hTL⟩ : ∃ TL, (l'.xs.map StpM.x).reverse.map turn = TL := ⟨_, rfl⟩
  have HT1 := Lib.hid hT1
  rw [hTL] at HB HT1 HLEB
  have HC1 : Hid (Calls Tryz.prog 16 #[.agg #[.int .i64 ar, .int .i64 at_, .slice aA an ad], .slice lA ln lc] w2 (AplR (b, k, 0) w2)) := by
    have h := apply_any a' l' w2 (HA.out.below HG2.out) (HLL.out.below HG2.out)
    rw [HRA.out, HAV.out, HLV.out] at h
    exact h
  have HC2 : Hid (∀ W, Gq w W → Calls Tryz.prog 17 #[.slice lA ln lc] W (TurR 1048576 (TL, 0) W)) := fun W hW => by
    have h := turned_any l' W (HLL.out.below hW)
    rw [HT1.out, HLV.out] at h
    exact h
  clear hf0 hRA hbr hbt hbs hT1 hB hy1 hy2 hy3 hT2 HD hTL HT1 HRA HN
  have hd2 : decide (200 < (ln : Int)) = false := by
    have h1 := HLEN.out.2
    have h2 := HNL.out
    rw [List.length_map] at h1
    rw [decide_eq_false_iff_not]; omega
  go_wp2_with fail
  refine HC1.out.mono ?_
  rintro e u1 ⟨hb, x, rfl, hx1, hxo⟩
  have HXx : Hid (x.x = b) := hx1
  have HOx := Lib.hid hxo
  obtain ⟨x', hx'⟩ : ∃ z, x = z := ⟨_, rfl⟩
  have HVx : Hid (x'.v = x.v) := by show _ = _; rw [hx']
  have HXx' : Hid (x'.x = b) := by rw [← hx']; exact HXx.out
  have HOx' : Hid (EdtOk u1 x') := by rw [← hx']; exact HOx.out
  have HLx : Hid (x'.cs.xs.length = x.cs.xs.length) := by show _ = _; rw [hx']
  clear hx' hx1 hxo HXx HOx
  obtain ⟨xr, xt, ⟨xA, xd, xs⟩⟩ := x
  replace HVx : Hid (x'.v = .agg #[.int .i64 xr, .int .i64 xt, .slice xA xs.length xd]) := HVx
  replace HLx : Hid (x'.cs.xs.length = xs.length) := HLx
  simp only [EdtM.v, Slc.v]
  obtain ⟨xn, hxn⟩ : ∃ n : Nat, xs.length = n := ⟨_, rfl⟩
  rw [hxn] at HVx HLx ⊢
  clear hxn
  obtain ⟨w3, hw⟩ : ∃ W, W = u1.alloc (.cells #[.int .i64 xr, .int .i64 xt, .slice xA xn xd] 24) := ⟨_, rfl⟩
  have HBx : Hid (Gq w2 u1) := hb
  have HNx : Hid (Gq u1 w3) := by rw [hw]; exact (Gq.refl _).alloc _
  have HKx : Hid (Blk w3 u1.heap.size 24 [.int .i64 xr, .int .i64 xt, .slice xA xn xd]) := by rw [hw]; exact Blk.new u1 _ _
  have HGw3 : Hid (Gq w w3) := HG2.out.trans (HBx.out.trans HNx.out)
  have HWw3 := Lib.hid hw
  clear hb hw HC1
  clear c0 c1 c2
  go_upto_region 6 with (fail)
  rw [← HWw3.out]
  obtain ⟨x0, x1, x2⟩ := HCO.out _ w3 _ _ _ _ _ _ HKx.out (Gq.refl _)
  have HD2 := Lib.hid (HC2.out w3 HGw3.out)
  clear HC2
  go_wp2_with fail
  refine HD2.out.mono ?_
  rintro e w4 ⟨hg4, tl, rfl, ht1, ht2⟩
  have HT1 : Hid (tl.xs.map StpM.x = TL ∧ StsB 1048576 w4 tl) := ⟨ht1, ht2⟩
  have HG34 : Hid (Gq w3 w4) := hg4
  have HG4 : Hid (Gq w w4) := HGw3.out.trans hg4
  clear hg4 ht1 ht2 HD2 x0 x1 x2
  have HC3 : Hid (∀ W, Gq w4 W → Calls Tryz.prog 16 #[.agg #[.int .i64 xr, .int .i64 xt, .slice xA xn xd], tl.v] W (AplR (yy, 0, 0) W)) := fun W hW => by
    have h := apply_any x' tl W ((HOx'.out.below (HNx.out.trans HG34.out)).below hW) (HT1.out.2.below hW)
    rw [HXx'.out, HT1.out.1, HB.out, HVx.out] at h
    exact h
  obtain ⟨tv, htv⟩ : ∃ v, tl.v = v := ⟨_, rfl⟩
  have htv2 : ∃ (A : Option Addr) (n c : Nat), tv = .slice A n c := by rw [← htv]; exact ⟨_, _, _, rfl⟩
  obtain ⟨tA, tn, tc, rfl⟩ := htv2
  rw [htv] at HC3 ⊢
  clear htv
  have HSM : Hid (Calls Tryz.prog 18 #[.agg #[.int .i64 xr, .int .i64 xt, .slice xA xn xd], .agg #[.int .i64 zr, .int .i64 zt, .slice zA zn zd]] w4 fun e w' => e = .returned (.bool true) ∧ Gq w4 w') := by
    have hyx := HXx'.out
    have h := same_any x' z' true (by
      simp only [true_iff]
      have h2 := HBZ.out
      rw [← hyx] at h2
      exact h2) w4 (HOx'.out.below (HNx.out.trans HG34.out)) (HZ.out.below HG4.out) (by
        have h3 := HLEB.out.1
        have h4 := HBZ.out.2.2.len
        have h5 : (z'.cs.xs.map CliM.x).length ≤ 300 := by rw [h4] at h3; exact h3
        rw [List.length_map] at h5; omega)
    rw [HVx.out, HZV.out] at h
    exact h
  obtain ⟨x0, x1, x2⟩ := HCO.out _ w4 _ _ _ _ _ _ HKx.out HG34.out
  obtain ⟨z0, z1, z2⟩ := HCO.out _ w4 _ _ _ _ _ _ HKZ.out (HG12.out.trans (HBx.out.trans (HNx.out.trans HG34.out)))
  go_wp2_with fail
  refine HSM.out.mono ?_
  rintro e w5 ⟨rfl, hg5⟩
  have HG45 : Hid (Gq w4 w5) := hg5
  have HG5 : Hid (Gq w w5) := HG4.out.trans hg5
  clear hg5 HSM x0 x1 x2 z0 z1 z2
  obtain ⟨x0, x1, x2⟩ := HCO.out _ w5 _ _ _ _ _ _ HKx.out (HG34.out.trans HG45.out)
  replace HC3 := Lib.hid (HC3.out w5 HG45.out)
  go_wp2_with fail
  refine HC3.out.mono ?_
  rintro e u2 ⟨hb, y, rfl, hx1, hxo⟩
  have HXy : Hid (y.x = yy) := hx1
  have HOy := Lib.hid hxo
  obtain ⟨y', hy'⟩ : ∃ z, y = z := ⟨_, rfl⟩
  have HVy : Hid (y'.v = y.v) := by show _ = _; rw [hy']
  have HXy' : Hid (y'.x = yy) := by rw [← hy']; exact HXy.out
  have HOy' : Hid (EdtOk u2 y') := by rw [← hy']; exact HOy.out
  have HLy : Hid (y'.cs.xs.length = y.cs.xs.length) := by show _ = _; rw [hy']
  clear hy' hx1 hxo HXy HOy
  obtain ⟨yr, yt, ⟨yA, yd, ys⟩⟩ := y
  replace HVy : Hid (y'.v = .agg #[.int .i64 yr, .int .i64 yt, .slice yA ys.length yd]) := HVy
  replace HLy : Hid (y'.cs.xs.length = ys.length) := HLy
  simp only [EdtM.v, Slc.v]
  obtain ⟨yn, hyn⟩ : ∃ n : Nat, ys.length = n := ⟨_, rfl⟩
  rw [hyn] at HVy HLy ⊢
  clear hyn
  obtain ⟨w6, hw⟩ : ∃ W, W = u2.alloc (.cells #[.int .i64 yr, .int .i64 yt, .slice yA yn yd] 24) := ⟨_, rfl⟩
  have HBy : Hid (Gq w5 u2) := hb
  have HNy : Hid (Gq u2 w6) := by rw [hw]; exact (Gq.refl _).alloc _
  have HKy : Hid (Blk w6 u2.heap.size 24 [.int .i64 yr, .int .i64 yt, .slice yA yn yd]) := by rw [hw]; exact Blk.new u2 _ _
  have HGw6 : Hid (Gq w w6) := HG5.out.trans (HBy.out.trans HNy.out)
  have HWw6 := Lib.hid hw
  clear hb hw HC3
  clear x0 x1 x2
  go_upto_region 10 with (fail)
  rw [← HWw6.out]
  have HSM : Hid (Calls Tryz.prog 18 #[.agg #[.int .i64 yr, .int .i64 yt, .slice yA yn yd], .agg #[.int .i64 ar, .int .i64 at_, .slice aA an ad]] w6 fun e w' => e = .returned (.bool true) ∧ Gq w6 w') := by
    have hyx := HXy'.out
    have h := same_any y' a' true (by
      simp only [true_iff]
      have h2 := HYA.out
      rw [← hyx] at h2
      exact h2) w6 (HOy'.out.below HNy.out) (HA.out.below HGw6.out) (by have h3 := HLEN.out.1; have h4 : (a'.cs.xs.map CliM.x).length ≤ 300 := h3; rw [List.length_map] at h4; omega)
    rw [HVy.out, HAV.out] at h
    exact h
  obtain ⟨y0, y1, y2⟩ := HCO.out _ w6 _ _ _ _ _ _ HKy.out (Gq.refl _)
  obtain ⟨a0, a1, a2⟩ := HCO.out _ w6 _ _ _ _ _ _ HKA.out (HG12.out.trans (HBx.out.trans (HNx.out.trans (HG34.out.trans (HG45.out.trans (HBy.out.trans HNy.out))))))
  go_wp2_with fail
  refine HSM.out.mono ?_
  rintro e w7 ⟨rfl, hg7⟩
  have HG7 : Hid (Gq w w7) := HGw6.out.trans hg7
  clear hg7 HSM y0 y1 y2 a0 a1 a2
  go_wp2_with fail
  go_ret
  exact ⟨rfl, HG7.out⟩
end Go.Proofs.YteaghgbpcpileaaGreatDoor
/- An edit's box is written: what reads as steps or as an edit lies elsewhere, by its cells alone. -/
namespace Go.Proofs.YteaghgbpcpileaaGreatDoor
open Go.RowKit Go.Dw

/-- a row that does not lie in a box stays where the box is written -/
theorem rd_setN {g : Nat} {A : Option Addr} {vs : List Value} : ∀ (us : List Value) (W : World) (i : Nat), Rd W A vs → (∀ b off, A = some ⟨b, off, none⟩ → vs ≠ [] → b ≠ g) → Rd (setN W g i us) A vs
  | [], _, _, h, _ => h
  | u :: us, W, i, h, hne => by
    refine rd_setN us _ (i + 1) ?_ hne
    by_cases h0 : vs = []
    · exact .inl h0
    rcases h with h | ⟨b, off, e, hb, hc⟩
    · exact absurd h h0
    · refine .inr ⟨b, off, e, by simpa [World.setCell] using hb, fun j v hu => ?_⟩
      rw [← hc j v hu]
      have := Below.heap_setCell W ⟨g, i, none⟩ u b (hne b off e h0)
      simp only [World.cell?, this]
/-- a row of structs with a cell that the box has not lies elsewhere -/
theorem rd_other {α : Type} {W : World} {g j : Nat} {T : TypeId} {cs : List Value} {A : Option Addr} (f : α → List Value) {xs : List α} {u : Value} (hk : Blk W g T cs) (h : Rd W A (xs.flatMap f)) (x : α) (hx : xs[0]? = some x) (hu : (f x)[j]? = some u) (hne : ∀ off, cs[off + j]? ≠ some u) : ∀ b off, A = some ⟨b, off, none⟩ → b ≠ g := by
  rintro b off e rfl
  cases xs with
  | nil => simp at hx
  | cons y l =>
    obtain rfl : y = x := by simpa using hx
    have hu2 : ((y :: l).flatMap f)[j]? = some u := by
      rw [List.flatMap_cons, List.getElem?_append_left (by
        rcases Nat.lt_or_ge j (f y).length with h1 | h1
        · exact h1
        · rw [List.getElem?_eq_none h1] at hu; cases hu)]
      exact hu
    rcases h with h | ⟨b', off', e', _, hc⟩
    · rw [h] at hu2; simp at hu2
    · rw [e] at e'
      injection e' with e'
      injection e' with e1 e2
      subst e1; subst e2
      have := hc j u hu2
      rw [hk.cell] at this
      exact hne _ this
section
variable {W : World} {g : Nat} {T : TypeId} {r t : Int} {P : Option Addr} {n c : Nat}
theorem box_pnt {A : Option Addr} {xs : List Pnt} (hk : Blk W g T [.int .i64 r, .int .i64 t, .slice P n c]) (h : Rd W A (xs.flatMap Pnt.cs)) (us : List Value) : Rd (setN W g 0 us) A (xs.flatMap Pnt.cs) := by
  cases xs with
  | nil => exact .inl rfl
  | cons p l =>
    refine rd_setN us W 0 h fun b off e _ => ?_
    refine rd_other (j := 2) Pnt.cs hk h p rfl rfl (fun off => ?_) b off e
    match off with
    | 0 => intro h; cases h
    | k + 1 => rw [List.getElem?_eq_none (by simp)]; intro h; cases h
theorem box_clp {A : Option Addr} {xs : List CliM} (hk : Blk W g T [.int .i64 r, .int .i64 t, .slice P n c]) (h : Rd W A (xs.flatMap CliM.cs)) (us : List Value) : Rd (setN W g 0 us) A (xs.flatMap CliM.cs) := by
  cases xs with
  | nil => exact .inl rfl
  | cons p l =>
    refine rd_setN us W 0 h fun b off e _ => ?_
    exact rd_other (j := 6) CliM.cs hk h p rfl rfl (fun off => by rw [List.getElem?_eq_none (by simp)]; intro h; cases h) b off e
theorem box_stp {A : Option Addr} {xs : List StpM} (hk : Blk W g T [.int .i64 r, .int .i64 t, .slice P n c]) (h : Rd W A (xs.flatMap StpM.cells)) (us : List Value) : Rd (setN W g 0 us) A (xs.flatMap StpM.cells) := by
  cases xs with
  | nil => exact .inl rfl
  | cons p l =>
    refine rd_setN us W 0 h fun b off e _ => ?_
    exact rd_other (j := 3) StpM.cells hk h p rfl rfl (fun off => by rw [List.getElem?_eq_none (by simp)]; intro h; cases h) b off e
theorem box_cli {y : CliM} (hk : Blk W g T [.int .i64 r, .int .i64 t, .slice P n c]) (h : CliOk W y) (us : List Value) : CliOk (setN W g 0 us) y := ⟨h.m, h.ch, h.fr, h.tr, h.at_, h.ln, h.el, box_pnt hk h.er us, h.eo⟩
theorem box_edt {y : EdtM} (hk : Blk W g T [.int .i64 r, .int .i64 t, .slice P n c]) (h : EdtOk W y) (us : List Value) : EdtOk (setN W g 0 us) y := ⟨h.rate, h.tracks, h.cl, box_clp hk h.cr us, fun c hc => box_cli hk (h.co c hc) us⟩
theorem box_sts {B : Nat} {y : Slc StpM} (hk : Blk W g T [.int .i64 r, .int .i64 t, .slice P n c]) (h : StsB B W y) (us : List Value) : StsB B (setN W g 0 us) y :=
  ⟨h.n, box_stp hk h.r us, fun s hs => ⟨⟨(h.o s hs).o.kd, (h.o s hs).o.at_, (h.o s hs).o.by_, (h.o s hs).o.cl, box_clp hk (h.o s hs).o.cr us, fun c hc => box_cli hk ((h.o s hs).o.co c hc) us⟩, (h.o s hs).n, (h.o s hs).e⟩⟩
end
end Go.Proofs.YteaghgbpcpileaaGreatDoor
/- Generated (gen/dlaw.py): EditMovesMatchSpec: Slip and Move make the edits that are described, and are taken back. -/
namespace Go.Proofs.YteaghgbpcpileaaGreatDoor
open Go.RowKit Go.Dw

set_option maxRecDepth 100000 in
set_option maxHeartbeats 16000000 in
theorem moves_law (x : EdtM) (n a t : Int) (w : World) (hx : EdtOk w x) (_hn : inI64 n) (_ha : inI64 a) (ht : inI64 t) (hp : HasPow w) :
    Calls Tryz.prog 3 #[x.v, .int .i64 n, .int .i64 a, .int .i64 t] w fun e w' => e = .returned (.bool true) ∧ Below w.heap.size w w' := by
  obtain ⟨q1, hq1⟩ : ∃ q, slipS isNm 1000000 x.x n a = q := ⟨_, rfl⟩
  obtain ⟨y1, hy1⟩ : ∃ y, slipE isNm 1000000 x.x n a = y := ⟨_, rfl⟩
  have HD1 : Hid (DoesL x.x q1 y1) := by rw [← hq1, ← hy1]; exact slip_law x.x n a
  have HP1 : Hid (∀ W, Gq w W → Calls Tryz.prog 4 #[x.v, .int .i64 n, .int .i64 a] W (TurR 1048576 q1 W)) := fun W hW => by rw [← hq1]; exact slip_any x n a W (hx.below hW)
  have HR1 : Hid (∀ W, Gq w W → Calls Tryz.prog 5 #[x.v, .int .i64 n, .int .i64 a] W (EdiR y1 W)) := fun W hW => by rw [← hy1]; exact slipR_any x n a W (hx.below hW) (hp.below hW)
  clear hq1 hy1
  obtain ⟨q2, hq2⟩ : ∃ q, moveS isNm 1000000 x.x n a t = q := ⟨_, rfl⟩
  obtain ⟨y2, hy2⟩ : ∃ y, moveE isNm 1000000 x.x n a t = y := ⟨_, rfl⟩
  have HD2 : Hid (DoesL x.x q2 y2) := by rw [← hq2, ← hy2]; exact move_law x.x n a t
  have HP2 : Hid (∀ W, Gq w W → Calls Tryz.prog 7 #[x.v, .int .i64 n, .int .i64 a, .int .i64 t] W (TurR 1048576 q2 W)) := fun W hW => by rw [← hq2]; exact move_any x n a t W (hx.below hW) ht
  have HR2 : Hid (∀ W, Gq w W → Calls Tryz.prog 8 #[x.v, .int .i64 n, .int .i64 a, .int .i64 t] W (EdiR y2 W)) := fun W hW => by rw [← hy2]; exact moveR_any x n a t W (hx.below hW) (hp.below hW) ht
  clear hq2 hy2
  have HX := Lib.hid hx
  have HPW : Hid (∀ W, Gq w W → HasPow W) := fun W hW => hp.below hW
  clear hx hp
  obtain ⟨x', hx'⟩ : ∃ z, x = z := ⟨_, rfl⟩
  have HXV : Hid (x'.v = x.v) := by show _ = _; rw [hx']
  rw [hx'] at HX HD1 HD2
  clear hx'
  obtain ⟨xr, xt, ⟨xA, xd, xs⟩⟩ := x
  simp only [EdtM.v, Slc.v] at HP1 HR1 HP2 HR2 ⊢
  obtain ⟨xn, hxn⟩ : ∃ k : Nat, xs.length = k := ⟨_, rfl⟩
  rw [hxn] at HP1 HR1 HP2 HR2 ⊢
  replace HXV : Hid (x'.v = .agg #[.int .i64 xr, .int .i64 xt, .slice xA xn xd]) := by have := HXV.out; rw [← hxn]; exact this
  clear hxn
  obtain ⟨b0, hb0⟩ : ∃ b, w.heap.size = b := ⟨_, rfl⟩
  obtain ⟨w1, hw1⟩ : ∃ w1, w1 = w.alloc (.cells #[.int .i64 xr, .int .i64 xt, .slice xA xn xd] 24) := ⟨_, rfl⟩
  have HG1 : Hid (Gq w w1) := by rw [hw1]; exact (Gq.refl _).alloc _
  have HKX : Hid (Blk w1 b0 24 [.int .i64 xr, .int .i64 xt, .slice xA xn xd]) := by rw [hw1, ← hb0]; exact Blk.new w _ _
  have HCO : Hid (∀ W W' g (r t : Int) A m c, Blk W g 24 [.int .i64 r, .int .i64 t, .slice A m c] → Gq W W' → W'.cell? ⟨g, 0, none⟩ = some (.int .i64 r) ∧ W'.cell? ⟨g, 1, none⟩ = some (.int .i64 t) ∧ W'.cell? ⟨g, 2, none⟩ = some (.slice A m c)) := fun W W' g r t A m c h hg => by
    have k := blkq h hg
    exact ⟨k.cell 0, k.cell 1, k.cell 2⟩
  have HW1 := Lib.hid hw1
  clear hw1
  go_enter Tryz.func3, Tryz.ntmps3
  go_upto_region 1 with (fail)
  rw [← HW1.out]
  try simp only [hb0]
  have HB0 := Lib.hid hb0
  clear hb0
  have HCUR1 : Hid (Gq w1 w1) := Gq.refl _
  obtain ⟨c0, c1, c2⟩ := HCO.out _ w1 _ _ _ _ _ _ HKX.out HCUR1.out
  have HC1 := Lib.hid (HP1.out w1 (HG1.out.trans HCUR1.out))
  go_wp2_with fail
  refine HC1.out.mono ?_
  rintro e v1a ⟨hg, l1, rfl, hl, hb⟩
  have HL1 : Hid (l1.xs.map StpM.x = q1.1 ∧ StsB 1048576 v1a l1) := ⟨hl, hb⟩
  have HGA1 : Hid (Gq w1 v1a) := HCUR1.out.trans hg
  have HEA0 : Hid (Gq w1 v1a) := hg
  clear hg hl hb c0 c1 c2 HC1
  obtain ⟨tv, htv⟩ : ∃ v, l1.v = v := ⟨_, rfl⟩
  have htv2 : ∃ (A : Option Addr) (n c : Nat), tv = .slice A n c := by rw [← htv]; exact ⟨_, _, _, rfl⟩
  obtain ⟨tA1, tn1, tc1, rfl⟩ := htv2
  have HLV1 := Lib.hid htv
  rw [htv]
  clear htv
  obtain ⟨c0, c1, c2⟩ := HCO.out _ v1a _ _ _ _ _ _ HKX.out HGA1.out
  have HC1 := Lib.hid (HR1.out v1a (HG1.out.trans HGA1.out))
  go_wp2_with fail
  refine HC1.out.mono ?_
  rintro e v1b ⟨hg, z1, rfl, hz, hs⟩
  have HGB1 : Hid (Gq w1 v1b) := HGA1.out.trans hg
  have HAB1 : Hid (Gq v1a v1b) := hg
  have HZB1 : Hid (z1.x = y1.1) := hz
  have HSB1 : Hid (EdtOk v1b z1) := hs
  obtain ⟨z1', hz'⟩ : ∃ z, z1 = z := ⟨_, rfl⟩
  have HZV1 : Hid (z1'.v = z1.v) := by show _ = _; rw [hz']
  rw [hz'] at HZB1 HSB1
  clear hz' hz hs hg c0 c1 c2 HC1
  obtain ⟨zr1, zt1, ⟨zA1, zd1, zs1⟩⟩ := z1
  replace HZV1 : Hid (z1'.v = .agg #[.int .i64 zr1, .int .i64 zt1, .slice zA1 zs1.length zd1]) := HZV1
  simp only [EdtM.v, Slc.v]
  obtain ⟨zn1, hzn⟩ : ∃ k : Nat, zs1.length = k := ⟨_, rfl⟩
  rw [hzn] at HZV1 ⊢
  clear hzn
  obtain ⟨gz, hgz⟩ : ∃ g, v1b.heap.size = g := ⟨_, rfl⟩
  obtain ⟨v1c, hw⟩ : ∃ W, W = v1b.alloc (.cells #[.int .i64 zr1, .int .i64 zt1, .slice zA1 zn1 zd1] 24) := ⟨_, rfl⟩
  have HBC1 : Hid (Gq v1b v1c) := by rw [hw]; exact (Gq.refl _).alloc _
  have HKZ1 : Hid (Blk v1c gz 24 [.int .i64 zr1, .int .i64 zt1, .slice zA1 zn1 zd1]) := by rw [hw, ← hgz]; exact Blk.new v1b _ _
  have HGC1 : Hid (Gq w1 v1c) := HGB1.out.trans HBC1.out
  have HGZ : Hid (v1b.heap.size = gz) := hgz
  have HZO1 : Hid (EdtOk v1c z1') := HSB1.out.below HBC1.out
  have HLO1 : Hid (StsB 1048576 v1c l1) := HL1.out.2.below (HAB1.out.trans HBC1.out)
  have HWC1 := Lib.hid hw
  clear hw HSB1
  go_upto_region 3 with (fail)
  rw [← HWC1.out]
  try simp only [hgz]
  clear hgz
  have HDO : Hid (Calls Tryz.prog 6 #[.agg #[.int .i64 xr, .int .i64 xt, .slice xA xn xd], .slice tA1 tn1 tc1, .int .i64 q1.2, .agg #[.int .i64 zr1, .int .i64 zt1, .slice zA1 zn1 zd1], .int .i64 y1.2] v1c fun e w' => e = .returned (.bool true) ∧ Gq v1c w') := by
    have h := does_any x' z1' l1 q1 y1 v1c HD1.out HL1.out.1 HZB1.out (HX.out.below (HG1.out.trans HGC1.out)) HZO1.out HLO1.out (HPW.out v1c (HG1.out.trans HGC1.out))
    rw [HXV.out, HLV1.out, HZV1.out] at h
    exact h
  obtain ⟨c0, c1, c2⟩ := HCO.out _ v1c _ _ _ _ _ _ HKX.out HGC1.out
  obtain ⟨d0, d1, d2⟩ := HCO.out _ v1c _ _ _ _ _ _ HKZ1.out (Gq.refl _)
  go_wp2_with fail
  refine HDO.out.mono ?_
  rintro e v1e ⟨rfl, hg⟩
  have HCE1 : Hid (Gq v1c v1e) := hg
  have HGE1 : Hid (Gq w1 v1e) := HGC1.out.trans hg
  clear hg HDO c0 c1 c2 d0 d1 d2
  have HCUR2 : Hid (Gq w1 v1e) := HGE1.out
  obtain ⟨c0, c1, c2⟩ := HCO.out _ v1e _ _ _ _ _ _ HKX.out HCUR2.out
  have HC2 := Lib.hid (HP2.out v1e (HG1.out.trans HCUR2.out))
  go_wp2_with fail
  refine HC2.out.mono ?_
  rintro e v2a ⟨hg, l2, rfl, hl, hb⟩
  have HL2 : Hid (l2.xs.map StpM.x = q2.1 ∧ StsB 1048576 v2a l2) := ⟨hl, hb⟩
  have HGA2 : Hid (Gq w1 v2a) := HCUR2.out.trans hg
  have HEA1 : Hid (Gq v1e v2a) := hg
  clear hg hl hb c0 c1 c2 HC2
  obtain ⟨tv, htv⟩ : ∃ v, l2.v = v := ⟨_, rfl⟩
  have htv2 : ∃ (A : Option Addr) (n c : Nat), tv = .slice A n c := by rw [← htv]; exact ⟨_, _, _, rfl⟩
  obtain ⟨tA2, tn2, tc2, rfl⟩ := htv2
  have HLV2 := Lib.hid htv
  rw [htv]
  clear htv
  obtain ⟨c0, c1, c2⟩ := HCO.out _ v2a _ _ _ _ _ _ HKX.out HGA2.out
  have HC2 := Lib.hid (HR2.out v2a (HG1.out.trans HGA2.out))
  go_wp2_with fail
  refine HC2.out.mono ?_
  rintro e v2b ⟨hg, z2, rfl, hz, hs⟩
  have HGB2 : Hid (Gq w1 v2b) := HGA2.out.trans hg
  have HAB2 : Hid (Gq v2a v2b) := hg
  have HZB2 : Hid (z2.x = y2.1) := hz
  have HSB2 : Hid (EdtOk v2b z2) := hs
  obtain ⟨z2', hz'⟩ : ∃ z, z2 = z := ⟨_, rfl⟩
  have HZV2 : Hid (z2'.v = z2.v) := by show _ = _; rw [hz']
  rw [hz'] at HZB2 HSB2
  clear hz' hz hs hg c0 c1 c2 HC2
  obtain ⟨zr2, zt2, ⟨zA2, zd2, zs2⟩⟩ := z2
  replace HZV2 : Hid (z2'.v = .agg #[.int .i64 zr2, .int .i64 zt2, .slice zA2 zs2.length zd2]) := HZV2
  simp only [EdtM.v, Slc.v]
  obtain ⟨zn2, hzn⟩ : ∃ k : Nat, zs2.length = k := ⟨_, rfl⟩
  rw [hzn] at HZV2 ⊢
  clear hzn
  have hk := blkq HKZ1.out (HCE1.out.trans (HEA1.out.trans HAB2.out))
  have k0 := hk.cell 0
  have k1 := hk.cell 1
  have k2 := hk.cell 2
  have f0 := hk.frozen 0
  have f1 := hk.frozen 1
  have f2 := hk.frozen 2
  obtain ⟨v2c, hw⟩ : ∃ W, setN v2b gz 0 [.int .i64 zr2, .int .i64 zt2, .slice zA2 zn2 zd2] = W := ⟨_, rfl⟩
  have hw2 : ((v2b.setCell ⟨gz, 0, none⟩ (.int .i64 zr2)).setCell ⟨gz, 1, none⟩ (.int .i64 zt2)).setCell ⟨gz, 2, none⟩ (.slice zA2 zn2 zd2) = v2c := hw
  have HKZ2 : Hid (Blk v2c gz 24 [.int .i64 zr2, .int .i64 zt2, .slice zA2 zn2 zd2]) := by rw [← hw]; exact setN_blk _ hk rfl
  have HGC2 : Hid (Gq w1 v2c) := by rw [← hw]; exact setN_below (by rw [← HGZ.out]; exact Below.size HGB1.out) _ _ _ HGB2.out
  have HZO2 : Hid (EdtOk v2c z2') := by rw [← hw]; exact box_edt hk HSB2.out _
  have HLO2 : Hid (StsB 1048576 v2c l2) := by rw [← hw]; exact box_sts hk (HL2.out.2.below HAB2.out) _
  have HWC2 := Lib.hid hw2
  clear hw hw2 hk HSB2
  go_upto_region 7 with (fail)
  rw [HWC2.out]
  clear k0 k1 k2 f0 f1 f2
  have HDO : Hid (Calls Tryz.prog 6 #[.agg #[.int .i64 xr, .int .i64 xt, .slice xA xn xd], .slice tA2 tn2 tc2, .int .i64 q2.2, .agg #[.int .i64 zr2, .int .i64 zt2, .slice zA2 zn2 zd2], .int .i64 y2.2] v2c fun e w' => e = .returned (.bool true) ∧ Gq v2c w') := by
    have h := does_any x' z2' l2 q2 y2 v2c HD2.out HL2.out.1 HZB2.out (HX.out.below (HG1.out.trans HGC2.out)) HZO2.out HLO2.out (HPW.out v2c (HG1.out.trans HGC2.out))
    rw [HXV.out, HLV2.out, HZV2.out] at h
    exact h
  obtain ⟨c0, c1, c2⟩ := HCO.out _ v2c _ _ _ _ _ _ HKX.out HGC2.out
  obtain ⟨d0, d1, d2⟩ := HCO.out _ v2c _ _ _ _ _ _ HKZ2.out (Gq.refl _)
  go_wp2_with fail
  refine HDO.out.mono ?_
  rintro e v2e ⟨rfl, hg⟩
  have HCE2 : Hid (Gq v2c v2e) := hg
  have HGE2 : Hid (Gq w1 v2e) := HGC2.out.trans hg
  clear hg HDO c0 c1 c2 d0 d1 d2
  go_wp2_with fail
  go_ret
  exact ⟨rfl, HG1.out.trans HGE2.out⟩
end Go.Proofs.YteaghgbpcpileaaGreatDoor
