/- Several texts laid into one: edit.checkNumber: the fault of an edit and of a clip's number; append of any slice that reads as cells; where the grown row lies; Generated (gen/npl.py): edit.newPlan with the function 22; The contract of slices.Clone at []api.Clip; Generated (gen/pst.py): a plan's steps; Generated (gen/chn.py): edit.change with deadwax/edit.Slip$1; Generated (gen/slp.py): edit.Slip; Generated (gen/chn.py): edit.change with deadwax/edit.Move$1; Generated (gen/slp.py): edit.Move; -/
import Derived.Test.YteaghgbpcpileaaGreatDoorCliZ
import Derived.Test.YteaghgbpcpileaaGreatDoorNumB
import Derived.Test.YteaghgbpcpileaaGreatDoorApdZ
import Derived.Deep.AppendLies
import Derived.Test.YteaghgbpcpileaaGreatDoorPlaZ
import Derived.Test.YteaghgbpcpileaaGreatDoorFacZ
import Derived.Test.YteaghgbpcpileaaGreatDoorBase
import Derived.Lib.SliceRun
import Derived.Test.YteaghgbpcpileaaGreatDoorProg
import Derived.Test.YteaghgbpcpileaaGreatDoorSteZ
import Derived.Test.YteaghgbpcpileaaGreatDoorStpZ
import Derived.Test.YteaghgbpcpileaaGreatDoorMisZ
/- edit.checkNumber: the fault of an edit and of a clip's number. -/
namespace Go.Proofs.YteaghgbpcpileaaGreatDoor
open Go.RowKit Go.Dw
attribute [local go_sem ↓] Go.wp_at_zero Go.wp_at_succ

def numF (nm : ByteArray → Bool) (mx : Int) (e : Edt) (n : Int) : Int := if ediF nm mx e ≠ 0 then ediF nm mx e else if n < 0 ∨ (e.cs.length : Int) ≤ n then 1 else 0
set_option maxRecDepth 100000 in
set_option maxHeartbeats 8000000 in
theorem number_any (x : EdtM) (n : Int) (w : World) (hx : EdtOk w x) :
    Calls Tryz.prog 9 #[x.v, .int .i64 n] w fun e w' => e = .returned (.int .i64 (numF isNm 1000000 x.x n)) ∧ Gq w w' := by
  obtain ⟨q, hq⟩ : ∃ q, numF isNm 1000000 x.x n = q := ⟨_, rfl⟩
  obtain ⟨f, hf⟩ : ∃ f, ediF isNm 1000000 x.x = f := ⟨_, rfl⟩
  have HF1 : Hid (f ≠ 0 → q = f) := fun h => by rw [← hq]; unfold numF; rw [hf, if_pos h]
  have HF2 : Hid (f = 0 → n < 0 ∨ (x.cs.xs.length : Int) ≤ n → q = 1) := fun h g => by
    rw [← hq]; unfold numF
    rw [hf, if_neg (fun k => k h)]
    show (if n < 0 ∨ ((x.cs.xs.map CliM.x).length : Int) ≤ n then (1 : Int) else 0) = 1
    rw [List.length_map, if_pos g]
  have HF3 : Hid (f = 0 → ¬ (n < 0 ∨ (x.cs.xs.length : Int) ≤ n) → q = 0) := fun h g => by
    rw [← hq]; unfold numF
    rw [hf, if_neg (fun k => k h)]
    show (if n < 0 ∨ ((x.cs.xs.map CliM.x).length : Int) ≤ n then (1 : Int) else 0) = 0
    rw [List.length_map, if_neg g]
  obtain ⟨wz, hwz⟩ : ∃ wz, wz = w.alloc (.cells #[.int .i64 x.rate, .int .i64 x.tracks, .slice x.cs.a x.cs.xs.length x.cs.c] 24) := ⟨_, rfl⟩
  have hg : Gq w wz := by rw [hwz]; exact (Gq.refl _).alloc _
  have HG := Lib.hid hg
  have HK : Hid (Blk wz w.heap.size 24 [.int .i64 x.rate, .int .i64 x.tracks, .slice x.cs.a x.cs.xs.length x.cs.c]) := by rw [hwz]; exact Blk.new w _ _
  have hck := check_any x wz (hx.below hg)
  rw [hf] at hck
  rw [hq]
  have HCK := Lib.hid hck
  have HWZ := Lib.hid hwz
  have a0 : wz.cell? ⟨w.heap.size, 0, none⟩ = some (.int .i64 x.rate) := HK.out.cell 0
  have a1 : wz.cell? ⟨w.heap.size, 1, none⟩ = some (.int .i64 x.tracks) := HK.out.cell 1
  have a2 : wz.cell? ⟨w.heap.size, 2, none⟩ = some (.slice x.cs.a x.cs.xs.length x.cs.c) := HK.out.cell 2
  clear hwz hg hck hq hf hx
  obtain ⟨rt, tk, ⟨xA, xd, xs⟩⟩ := x
  simp only [EdtM.v, Slc.v] at HCK HWZ HK HF2 HF3 a0 a1 a2 ⊢
  obtain ⟨xn, hxn⟩ : ∃ k : Nat, xs.length = k := ⟨_, rfl⟩
  simp only [hxn] at HCK HWZ HK HF2 HF3 a0 a1 a2 ⊢
  clear hxn
  go_enter Tryz.func9, Tryz.ntmps9
  go_upto_region 1 with (fail)
  rw [← HWZ.out]
  go_wp2_with fail
  refine HCK.out.mono ?_
  rintro e w2 ⟨rfl, hg2⟩
  have HG2 : Hid (Gq w w2) := HG.out.trans hg2
  have hk2 := blkq HK.out hg2
  have b2 : w2.cell? ⟨w.heap.size, 2, none⟩ = some (.slice xA xn xd) := hk2.cell 2
  clear hg2 hk2 a0 a1 a2 HCK HWZ
  by_cases h0 : f = 0
  case neg =>
    have hfb : (f != 0) = true := by simp [h0]
    have HQ : Hid (q = f) := HF1.out h0
    clear h0
    go_wp2_with fail
    go_ret
    exact ⟨by rw [HQ.out]; rfl, HG2.out⟩
  have hfb : (f != 0) = false := by simp [h0]
  have HZ := Lib.hid h0
  clear h0
  by_cases h1 : n < 0
  · have hd : decide (n < 0) = true := by simpa using h1
    have HQ : Hid (q = 1) := HF2.out HZ.out (.inl h1)
    clear h1
    go_wp2_with fail
    go_ret
    exact ⟨by rw [HQ.out]; rfl, HG2.out⟩
  have hd : decide (n < 0) = false := by simpa using h1
  by_cases h2 : (xn : Int) ≤ n
  · have hd2 : decide ((xn : Int) ≤ n) = true := by simpa using h2
    have HQ : Hid (q = 1) := HF2.out HZ.out (.inr h2)
    clear h1 h2
    go_wp2_with fail
    go_ret
    exact ⟨by rw [HQ.out]; rfl, HG2.out⟩
  have hd2 : decide ((xn : Int) ≤ n) = false := by simpa using h2
  have HQ : Hid (q = 0) := HF3.out HZ.out (by omega)
  clear h1 h2
  go_wp2_with fail
  go_ret
  exact ⟨by rw [HQ.out]; rfl, HG2.out⟩
end Go.Proofs.YteaghgbpcpileaaGreatDoor
/- append of any slice that reads as cells; where the grown row lies. -/
namespace Go.Dw
open Go Go.RowKit

theorem wpList_append_rdl {P : Program} {w : World} {ops : Array Oper} {rest : List Oper} {o : Oper} {a : Act} {Q : Exit → Act → World → Prop} (hgd : o.guard = none) (s x : Operand) (t : TypeId)
    (ho : o.op = .call { callee := .builtin .append, args := #[s, x], argTypes := #[t, t] })
    (base : Nat) (e : TypeId) (i : TypeInfo) (z : Value) (size bytes : Nat) (ht : P.underlying t = some (.slice e)) (hi : P.info? e = some i) (hz : i.zero = some z)
    (hsize : i.size = size) (hby : i.bytes = bytes) (hzs : z.cells.size = size) (hsz : 0 < size)
    (v : Value) (n : Nat) (xs : List Value) (hs : a.eval s = v) (hown : w.ownsRow base e size v n xs)
    (A : Option Addr) (m c : Nat) (news : List Value) (hx : a.eval x = .slice A m c) (hl : news.length = m * size) (hR : Rd w A news) (h1 : ∀ u ∈ news, u.oneCell' = true)
    (h63 : n + m ≤ maxLen) (hbytes : (n + m) * bytes ≤ 140737488355328) (hbase : base ≤ w.heap.size)
    (h : ∀ v' w', w'.ownsRow base e size v' (n + m) (xs ++ news) → w.grownBy w' v.ownBlock → (∀ b, v'.ownBlock = some b → v.ownBlock = some b ∨ w.heap.size ≤ b) → wpList P ops Q rest (a.put o.dst v') w') : wpList P ops Q (o :: rest) a w := by
  cases A with
  | none =>
    have h0 : news = [] := by
      rcases hR with hR | ⟨b, off, e, _⟩
      · exact hR
      · cases e
    subst h0
    have hm : m = 0 := by
      rcases Nat.eq_zero_or_pos m with k | k
      · exact k
      · have := Nat.mul_pos k hsz; simp at hl; omega
    subst hm
    refine wpList_plain hgd fun K hK => ?_
    have hrun := run_append_none_c (P := P) (w := w) base t o.type e i size ht hi v n xs hown c
    unfold Oper.wp
    simp [execOp, ho, resolve, invoke, builtin, hs, hx, hrun, Result.andThen]
    exact hK _ _ (h v w (by simpa using hown) (grown_refl w _) (fun b hb => .inl hb))
  | some ad =>
    obtain ⟨v', w', hrun, h2, h3, _, h5⟩ := run_append_own_at (P := P) w base t o.type e i z size bytes ht hi hz hsize hby hzs hsz v n xs hown ad m c news hl (fun j u hu => by
      rcases hR with hR | ⟨b, off, e, hb, hc⟩
      · subst hR; simp at hu
      · injection e with e
        subst e
        have hadd : (⟨b, off, none⟩ : Addr).add j = ⟨b, off + j, none⟩ := by unfold Addr.add; split <;> simp_all
        rw [hadd]; exact hc j u hu) h1 h63 hbytes hbase
    refine wpList_plain hgd fun K hK => ?_
    unfold Oper.wp
    simp [execOp, ho, resolve, invoke, builtin, hs, hx, hrun, Result.andThen]
    refine hK _ _ (h v' w' h2 h3 (fun b hb => ?_))
    rcases h5 with h5 | h5
    · exact .inl (by rw [← h5]; exact hb)
    · rw [hb] at h5; injection h5 with h5; exact .inr (by omega)
end Go.Dw
/- Generated (gen/npl.py): edit.newPlan with the function 22. -/
namespace Go.Proofs.YteaghgbpcpileaaGreatDoor
open Go.RowKit Go.Dw
attribute [local go_sem ↓] Go.wp_at_zero Go.wp_at_succ
attribute [local go_sem] Go.Dwo.Oper.tame

theorem builtPlC (rt tk : Int) (A : Option Addr) (n c : Nat) : Tryz.prog.built 50 [(0, .agg #[.int .i64 rt, .int .i64 tk, .slice A n c])] = some #[.int .i64 rt, .int .i64 tk, .slice A n c, .slice none 0 0, .slice none 0 0, .slice none 0 0] := by kernel_rfl
theorem runPlC (rt tk : Int) (A : Option Addr) (n c : Nat) (w : World) : (Instr.build 50 #[(0, .agg #[.int .i64 rt, .int .i64 tk, .slice A n c])]).run Tryz.prog w = .ok (.agg #[.int .i64 rt, .int .i64 tk, .slice A n c, .slice none 0 0, .slice none 0 0, .slice none 0 0]) w := run_build w _ _ _ (builtPlC rt tk A n c)
def npkF (wz : World) (b0 gc : Nat) (rt tk : Int) (xv : Value) (g m k : Slc CliM) (xm : ByteArray) (xc xf xt xa xl : Int) (EA : Option Addr) (en ed : Nat) (X : Cli) (LX : List Cli) : List Go.Dwo.Fact := [
  ⟨[], [], fun _ W => Below (b0 + 2) wz W ∧ b0 + 3 ≤ W.heap.size⟩,
  ⟨[], [5, 7], fun _ W => PlJ (b0 + 3) (b0 + 2) rt tk xv g.v m.v k.v W g m k⟩,
  ⟨[], [5, 7], fun _ W => Blk W gc 39 [.string xm, .int .i64 xc, .int .i64 xf, .int .i64 xt, .int .i64 xa, .int .i64 xl, .slice EA en ed]⟩,
  ⟨[0], [], fun vs _ => vs 0 = .pointer (some ⟨b0 + 2, 5, none⟩)⟩,
  ⟨[1], [], fun vs _ => vs 1 = k.v⟩,
  ⟨[2], [], fun vs _ => vs 2 = .agg #[.string xm, .int .i64 xc, .int .i64 xf, .int .i64 xt, .int .i64 xa, .int .i64 xl, .slice EA en ed]⟩,
  ⟨[3], [], fun vs W => ∃ y : CliM, vs 3 = y.v ∧ y.x = X ∧ CliT W y⟩,
  ⟨[3, 4], [5, 7], fun vs W => ∃ (y : CliM) (b : Nat), vs 3 = y.v ∧ vs 4 = .slice (some ⟨b, 0, none⟩) 1 1 ∧ Blk W b 39 y.cs ∧ y.x = X ∧ CliT W y⟩,
  ⟨[5], [7], fun vs W => ∃ s : Slc CliM, vs 5 = s.v ∧ s.xs.map CliM.x = LX ++ [X] ∧ PlJ (b0 + 3) (b0 + 2) rt tk xv g.v m.v k.v W g m s⟩,
  ⟨[6], [], fun vs _ => vs 6 = .pointer (some ⟨b0 + 2, 5, none⟩)⟩,
  ⟨[5, 7], [], fun vs W => ∃ s : Slc CliM, vs 5 = s.v ∧ s.xs.map CliM.x = LX ++ [X] ∧ PlJ (b0 + 3) (b0 + 2) rt tk xv g.v m.v s.v W g m s⟩]
theorem npkK (wz : World) (b0 gc : Nat) (rt tk : Int) (xv : Value) (g m k : Slc CliM) (xm : ByteArray) (xc xf xt xa xl : Int) (EA : Option Addr) (en ed : Nat) (X : Cli) (LX : List Cli) : ∀ f ∈ npkF wz b0 gc rt tk xv g m k xm xc xf xt xa xl EA en ed X LX, ∀ vs w w', Gq w w' → f.says vs w → f.says vs w' :=
  Go.Dwo.fa_cons (fun _ _ _ hg h => ⟨h.1.trans (Below.mono hg (by have := h.2; omega)), Nat.le_trans h.2 (Below.size hg)⟩) <|
  Go.Dwo.fa_cons (fun _ _ _ hg h => h.gq hg) <|
  Go.Dwo.fa_cons (fun _ _ _ hg h => blkq h hg) <|
  Go.Dwo.fa_cons (fun _ _ _ _ h => h) <|
  Go.Dwo.fa_cons (fun _ _ _ _ h => h) <|
  Go.Dwo.fa_cons (fun _ _ _ _ h => h) <|
  Go.Dwo.fa_cons (fun _ _ _ hg h => (by obtain ⟨y, h1, h2, h3⟩ := h; exact ⟨y, h1, h2, h3.gq hg⟩)) <|
  Go.Dwo.fa_cons (fun _ _ _ hg h => (by obtain ⟨y, b, h1, h2, h3, h4, h5⟩ := h; exact ⟨y, b, h1, h2, blkq h3 hg, h4, h5.gq hg⟩)) <|
  Go.Dwo.fa_cons (fun _ _ _ hg h => (by obtain ⟨s, h1, h2, h3⟩ := h; exact ⟨s, h1, h2, h3.gq hg⟩)) <|
  Go.Dwo.fa_cons (fun _ _ _ _ h => h) <|
  Go.Dwo.fa_cons (fun _ _ _ hg h => (by obtain ⟨s, h1, h2, h3⟩ := h; exact ⟨s, h1, h2, h3.gq hg⟩)) <|
  Go.Dwo.fa_nil _
def npgF (wz : World) (b0 gc : Nat) (rt tk : Int) (xv : Value) (g m k : Slc CliM) (xm : ByteArray) (xc xf xt xa xl : Int) (EA : Option Addr) (en ed : Nat) (X : Cli) (LX : List Cli) (sA : Option Addr) (ss : List CliM) : List Go.Dwo.Fact := [
  ⟨[], [], fun _ W => Below (b0 + 2) wz W ∧ b0 + 3 ≤ W.heap.size⟩,
  ⟨[], [], fun _ W => Rd W sA (ss.flatMap CliM.cs) ∧ ∀ y ∈ ss, CliT W y⟩,
  ⟨[], [5, 7], fun _ W => PlJ (b0 + 3) (b0 + 2) rt tk xv g.v m.v k.v W g m k⟩,
  ⟨[], [5, 7], fun _ W => Blk W gc 39 [.string xm, .int .i64 xc, .int .i64 xf, .int .i64 xt, .int .i64 xa, .int .i64 xl, .slice EA en ed]⟩,
  ⟨[0], [], fun vs _ => vs 0 = .pointer (some ⟨b0 + 2, 3, none⟩)⟩,
  ⟨[1], [], fun vs _ => vs 1 = g.v⟩,
  ⟨[2], [], fun vs _ => vs 2 = .agg #[.string xm, .int .i64 xc, .int .i64 xf, .int .i64 xt, .int .i64 xa, .int .i64 xl, .slice EA en ed]⟩,
  ⟨[3], [], fun vs W => ∃ y : CliM, vs 3 = y.v ∧ y.x = X ∧ CliT W y⟩,
  ⟨[3, 4], [5, 7], fun vs W => ∃ (y : CliM) (b : Nat), vs 3 = y.v ∧ vs 4 = .slice (some ⟨b, 0, none⟩) 1 1 ∧ Blk W b 39 y.cs ∧ y.x = X ∧ CliT W y⟩,
  ⟨[5], [7], fun vs W => ∃ s : Slc CliM, vs 5 = s.v ∧ s.xs.map CliM.x = LX ++ [X] ∧ PlJ (b0 + 3) (b0 + 2) rt tk xv g.v m.v k.v W s m k⟩,
  ⟨[6], [], fun vs _ => vs 6 = .pointer (some ⟨b0 + 2, 3, none⟩)⟩,
  ⟨[5, 7], [], fun vs W => ∃ s : Slc CliM, vs 5 = s.v ∧ s.xs.map CliM.x = LX ++ [X] ∧ PlJ (b0 + 3) (b0 + 2) rt tk xv s.v m.v k.v W s m k⟩]
theorem npgK (wz : World) (b0 gc : Nat) (rt tk : Int) (xv : Value) (g m k : Slc CliM) (xm : ByteArray) (xc xf xt xa xl : Int) (EA : Option Addr) (en ed : Nat) (X : Cli) (LX : List Cli) (sA : Option Addr) (ss : List CliM) : ∀ f ∈ npgF wz b0 gc rt tk xv g m k xm xc xf xt xa xl EA en ed X LX sA ss, ∀ vs w w', Gq w w' → f.says vs w → f.says vs w' :=
  Go.Dwo.fa_cons (fun _ _ _ hg h => ⟨h.1.trans (Below.mono hg (by have := h.2; omega)), Nat.le_trans h.2 (Below.size hg)⟩) <|
  Go.Dwo.fa_cons (fun _ _ _ hg h => ⟨h.1.below (Below.mono hg (Nat.le_refl _)), fun y hy => (h.2 y hy).gq hg⟩) <|
  Go.Dwo.fa_cons (fun _ _ _ hg h => h.gq hg) <|
  Go.Dwo.fa_cons (fun _ _ _ hg h => blkq h hg) <|
  Go.Dwo.fa_cons (fun _ _ _ _ h => h) <|
  Go.Dwo.fa_cons (fun _ _ _ _ h => h) <|
  Go.Dwo.fa_cons (fun _ _ _ _ h => h) <|
  Go.Dwo.fa_cons (fun _ _ _ hg h => (by obtain ⟨y, h1, h2, h3⟩ := h; exact ⟨y, h1, h2, h3.gq hg⟩)) <|
  Go.Dwo.fa_cons (fun _ _ _ hg h => (by obtain ⟨y, b, h1, h2, h3, h4, h5⟩ := h; exact ⟨y, b, h1, h2, blkq h3 hg, h4, h5.gq hg⟩)) <|
  Go.Dwo.fa_cons (fun _ _ _ hg h => (by obtain ⟨s, h1, h2, h3⟩ := h; exact ⟨s, h1, h2, h3.gq hg⟩)) <|
  Go.Dwo.fa_cons (fun _ _ _ _ h => h) <|
  Go.Dwo.fa_cons (fun _ _ _ hg h => (by obtain ⟨s, h1, h2, h3⟩ := h; exact ⟨s, h1, h2, h3.gq hg⟩)) <|
  Go.Dwo.fa_nil _
set_option maxRecDepth 100000 in
set_option maxHeartbeats 16000000 in
theorem newPlanC (d : Nat → Cli → Option (List Cli)) (x : EdtM) (p1 p2 : Addr) (w0 : World) (hx : EdtOk w0 x) (hlen : x.cs.xs.length ≤ 300) (henv : ∀ c ∈ x.cs.xs, c.e.xs.length ≤ 1000000)
    (hF : ∀ (i : Nat) (hi : i < x.cs.xs.length) (W : World), Gq w0 W → Calls Tryz.prog 22 #[.int .i64 (i : Int), (x.cs.xs[i]).v, .pointer (some p1), .pointer (some p2)] W (CloR (d i (x.cs.xs[i]).x) W)) :
    Calls Tryz.prog 21 #[x.v, .func (.func 22) #[] #[.pointer (some p1), .pointer (some p2)]] w0 (PlaR x.rate x.tracks x.cs.v (plaF d x.x.cs) w0) := by
  obtain ⟨rt, tk, ⟨xA, xd, xs⟩⟩ := x
  obtain ⟨PF, hPF⟩ : ∃ q, plaF d (xs.map CliM.x) = q := ⟨_, rfl⟩
  have HPF := Lib.hid hPF
  have HXO := Lib.hid hx
  have HEV := Lib.hid henv
  have HCF := Lib.hid hF
  have hpf : plaF d (EdtM.x ⟨rt, tk, ⟨xA, xd, xs⟩⟩).cs = PF := hPF
  rw [hpf]
  clear hpf hPF hx henv hF
  simp only at hlen HEV HCF
  simp only [EdtM.v, Slc.v] at HCF ⊢
  obtain ⟨xn, hxn⟩ : ∃ xn : Nat, xs.length = xn := ⟨_, rfl⟩
  have HXN := Lib.hid hxn
  rw [hxn] at hlen ⊢
  clear hxn
  obtain ⟨ii, hii, hzi0, hzi1, hzi2⟩ := info_parts infoClO
  have HII := Lib.hid (And.intro hii (And.intro hzi0 (And.intro hzi1 hzi2)))
  obtain ⟨wa, hwa⟩ : ∃ wa, wa = w0.alloc (.cells #[.int .i64 rt, .int .i64 tk, .slice xA xn xd] 24) := ⟨_, rfl⟩
  obtain ⟨wb, hwb⟩ : ∃ wb, wb = wa.alloc (.cells #[.int .i64 0, .int .i64 0, .slice none 0 0, .slice none 0 0, .slice none 0 0, .slice none 0 0] 50) := ⟨_, rfl⟩
  obtain ⟨wz, hwz⟩ : ∃ wz, wz = wb.alloc (.cells #[.int .i64 rt, .int .i64 tk, .slice xA xn xd, .slice none 0 0, .slice none 0 0, .slice none 0 0] 50) := ⟨_, rfl⟩
  obtain ⟨b0, hb0⟩ : ∃ b, w0.heap.size = b := ⟨_, rfl⟩
  have hza : wa.heap.size = b0 + 1 := by rw [hwa]; simp; omega
  have hzb : wb.heap.size = b0 + 2 := by rw [hwb]; simp; omega
  have hzz : wz.heap.size = b0 + 3 := by rw [hwz]; simp; omega
  have hga : Gq w0 wa := by rw [hwa]; exact (Gq.refl _).alloc _
  have hgb : Gq wa wb := by rw [hwb]; exact (Gq.refl _).alloc _
  have hgc : Gq wb wz := by rw [hwz]; exact (Gq.refl _).alloc _
  have HG : Hid (Gq w0 wz) := hga.trans (hgb.trans hgc)
  have HB0 := Lib.hid hb0
  have HKE : Hid (Blk wz b0 24 [.int .i64 rt, .int .i64 tk, .slice xA xn xd]) := by
    refine blkq (?_ : Blk wa b0 _ _) (hgb.trans hgc); rw [hwa, ← hb0]; exact Blk.new w0 _ _
  have HKR : Hid (Blk wz (b0 + 1) 50 [.int .i64 0, .int .i64 0, .slice none 0 0, .slice none 0 0, .slice none 0 0, .slice none 0 0]) := by
    refine blkq (?_ : Blk wb (b0 + 1) _ _) hgc; rw [hwb, ← hza]; exact Blk.new wa _ _
  have HKP : Hid (Blk wz (b0 + 2) 50 [.int .i64 rt, .int .i64 tk, .slice xA xn xd, .slice none 0 0, .slice none 0 0, .slice none 0 0]) := by
    rw [hwz, ← hzb]; exact Blk.new wb _ _
  have a0 : wb.cell? ⟨b0, 0, none⟩ = some (.int .i64 rt) := by
    have h : Blk wb b0 24 [.int .i64 rt, .int .i64 tk, .slice xA xn xd] := by refine blkq (?_ : Blk wa b0 _ _) hgb; rw [hwa, ← hb0]; exact Blk.new w0 _ _
    exact h.cell 0
  have a1 : wb.cell? ⟨b0, 1, none⟩ = some (.int .i64 tk) := by
    have h : Blk wb b0 24 [.int .i64 rt, .int .i64 tk, .slice xA xn xd] := by refine blkq (?_ : Blk wa b0 _ _) hgb; rw [hwa, ← hb0]; exact Blk.new w0 _ _
    exact h.cell 1
  have a2 : wb.cell? ⟨b0, 2, none⟩ = some (.slice xA xn xd) := by
    have h : Blk wb b0 24 [.int .i64 rt, .int .i64 tk, .slice xA xn xd] := by refine blkq (?_ : Blk wa b0 _ _) hgb; rw [hwa, ← hb0]; exact Blk.new w0 _ _
    exact h.cell 2
  have HPE : Hid (∀ W, Below (b0 + 2) wz W → Gq w0 W) := fun W hW => by
    have h1 := HG.out
    exact Below.trans h1 (Below.mono hW (by omega))
  rw [hwa] at hwb
  have HWB := Lib.hid hwb
  have HWZ := Lib.hid hwz
  have HZB := Lib.hid hzb
  have HZZ := Lib.hid hzz
  have hrun := runPlC rt tk xA xn xd wb
  clear hwa hwb hwz hga hgb hgc hza hzb hzz hii hzi0 hzi1 hzi2
  go_enter Tryz.func21, Tryz.ntmps21
  go_upto_region 1 with (fail)
  rw [← HWB.out]
  try simp only [hb0]
  clear hb0
  go_upto_region 2 with (fail)
  rw [← HWZ.out]
  try simp only [HZB.out]
  clear hrun a0 a1 a2
  have a2 : wz.cell? ⟨b0, 2, none⟩ = some (.slice xA xn xd) := HKE.out.cell 2
  go_wp2_with fail
  go_loopw [15] (fun iv wr => ∃ (i : Nat) (g m k : Slc CliM), i ≤ xn ∧ iv = .int .i64 (i : Int) ∧ Hid (Below (b0 + 2) wz wr ∧ b0 + 3 ≤ wr.heap.size) ∧ Hid (PlJ (b0 + 3) (b0 + 2) rt tk (.slice xA xn xd) g.v m.v k.v wr g m k) ∧ Hid ((⟨k.xs.map CliM.x, g.xs.map CliM.x, m.xs.map CliM.x⟩ : Pla) = plaF d ((xs.map CliM.x).take i) ∧ k.xs.length ≤ i ∧ g.xs.length ≤ i ∧ m.xs.length ≤ 3 * i)) (fun iv _ => xn - (intOf iv).toNat)
  case atStart =>
    refine ⟨0, ⟨none, 0, []⟩, ⟨none, 0, []⟩, ⟨none, 0, []⟩, Nat.zero_le _, rfl, ⟨Below.refl _ _, by have := HZZ.out; show _ ≤ _; omega⟩, ⟨HKP.out, World.ownsRow_nil _ _ _ _, World.ownsRow_nil _ _ _ _, World.ownsRow_nil _ _ _ _, (fun b hb => by cases hb), (fun b hb => by cases hb), (fun b hb => by cases hb), (fun y hy => by simp at hy), (fun y hy => by simp at hy), (fun y hy => by simp at hy)⟩, rfl, Nat.zero_le _, Nat.zero_le _, Nat.zero_le _⟩
  case round =>
    obtain ⟨i, g, m, k, hi, rfl, HBW, HPJ, HIN⟩ := hrel
    by_cases hlt : i < xn
    case neg =>
      have hd : decide (i < xn) = false := by simpa using hlt
      have HIE : Hid ((⟨k.xs.map CliM.x, g.xs.map CliM.x, m.xs.map CliM.x⟩ : Pla) = PF) := by
        have h1 := HIN.out.1
        rw [List.take_of_length_le (by rw [List.length_map, HXN.out]; omega), HPF.out] at h1
        exact h1
      obtain ⟨gA, gn, gq, hgv⟩ : ∃ (A : Option Addr) (n c : Nat), g.v = .slice A n c := ⟨_, _, _, rfl⟩
      obtain ⟨mA, mn, mq, hmv⟩ : ∃ (A : Option Addr) (n c : Nat), m.v = .slice A n c := ⟨_, _, _, rfl⟩
      obtain ⟨kA, kn, kq, hkv⟩ : ∃ (A : Option Addr) (n c : Nat), k.v = .slice A n c := ⟨_, _, _, rfl⟩
      have HPV : Hid (PlJ (b0 + 3) (b0 + 2) rt tk (.slice xA xn xd) (.slice gA gn gq) (.slice mA mn mq) (.slice kA kn kq) wr g m k) := by rw [← hgv, ← hmv, ← hkv]; exact HPJ.out
      have HGV := Lib.hid hgv
      have HMV := Lib.hid hmv
      have HKV := Lib.hid hkv
      clear hgv hmv hkv
      have hp := HPV.out.blk
      have hr : Blk wr (b0 + 1) 50 [.int .i64 0, .int .i64 0, .slice none 0 0, .slice none 0 0, .slice none 0 0, .slice none 0 0] := (HBW.out.1.block (b0 + 1) (by omega)).trans HKR.out
      have HR := Lib.hid hr
      have q0 : wr.cell? ⟨b0 + 2, 0, none⟩ = some (.int .i64 rt) := hp.cell 0
      have q1 : wr.cell? ⟨b0 + 2, 1, none⟩ = some (.int .i64 tk) := hp.cell 1
      have q2 : wr.cell? ⟨b0 + 2, 2, none⟩ = some (.slice xA xn xd) := hp.cell 2
      have q3 : wr.cell? ⟨b0 + 2, 3, none⟩ = some (.slice gA gn gq) := hp.cell 3
      have q4 : wr.cell? ⟨b0 + 2, 4, none⟩ = some (.slice mA mn mq) := hp.cell 4
      have q5 : wr.cell? ⟨b0 + 2, 5, none⟩ = some (.slice kA kn kq) := hp.cell 5
      have r0 : wr.cell? ⟨b0 + 1, 0, none⟩ = some (.int .i64 0) := hr.cell 0
      have r1 : wr.cell? ⟨b0 + 1, 1, none⟩ = some (.int .i64 0) := hr.cell 1
      have r2 : wr.cell? ⟨b0 + 1, 2, none⟩ = some (.slice none 0 0) := hr.cell 2
      have r3 : wr.cell? ⟨b0 + 1, 3, none⟩ = some (.slice none 0 0) := hr.cell 3
      have r4 : wr.cell? ⟨b0 + 1, 4, none⟩ = some (.slice none 0 0) := hr.cell 4
      have r5 : wr.cell? ⟨b0 + 1, 5, none⟩ = some (.slice none 0 0) := hr.cell 5
      have f0 := hr.frozen 0
      have f1 := hr.frozen 1
      have f2 := hr.frozen 2
      have f3 := hr.frozen 3
      have f4 := hr.frozen 4
      have f5 := hr.frozen 5
      have h6 := setN_blk [.int .i64 rt, .int .i64 tk, .slice xA xn xd, (.slice gA gn gq), (.slice mA mn mq), (.slice kA kn kq)] hr rfl
      have HS6 := Lib.hid (HPV.out.setN hr (by omega) (by omega) (by decide) [.int .i64 rt, .int .i64 tk, .slice xA xn xd, (.slice gA gn gq), (.slice mA mn mq), (.slice kA kn kq)])
      have HGS : Hid (Gq w0 (setN wr (b0 + 1) 0 [.int .i64 rt, .int .i64 tk, .slice xA xn xd, (.slice gA gn gq), (.slice mA mn mq), (.slice kA kn kq)])) := setN_below (by rw [HB0.out]; omega) [.int .i64 rt, .int .i64 tk, .slice xA xn xd, (.slice gA gn gq), (.slice mA mn mq), (.slice kA kn kq)] wr 0 (HPE.out wr HBW.out.1)
      obtain ⟨wf, hwf⟩ : ∃ wf, setN wr (b0 + 1) 0 [.int .i64 rt, .int .i64 tk, .slice xA xn xd, (.slice gA gn gq), (.slice mA mn mq), (.slice kA kn kq)] = wf := ⟨_, rfl⟩
      rw [hwf] at h6 HS6 HGS
      have hwf2 : (((((wr.setCell ⟨b0 + 1, 0, none⟩ (.int .i64 rt)).setCell ⟨b0 + 1, 1, none⟩ (.int .i64 tk)).setCell ⟨b0 + 1, 2, none⟩ (.slice xA xn xd)).setCell ⟨b0 + 1, 3, none⟩ (.slice gA gn gq)).setCell ⟨b0 + 1, 4, none⟩ (.slice mA mn mq)).setCell ⟨b0 + 1, 5, none⟩ (.slice kA kn kq) = wf := hwf
      have HWF := Lib.hid hwf2
      have z0 : wf.cell? ⟨b0 + 1, 0, none⟩ = some (.int .i64 rt) := h6.cell 0
      have z1 : wf.cell? ⟨b0 + 1, 1, none⟩ = some (.int .i64 tk) := h6.cell 1
      have z2 : wf.cell? ⟨b0 + 1, 2, none⟩ = some (.slice xA xn xd) := h6.cell 2
      have z3 : wf.cell? ⟨b0 + 1, 3, none⟩ = some (.slice gA gn gq) := h6.cell 3
      have z4 : wf.cell? ⟨b0 + 1, 4, none⟩ = some (.slice mA mn mq) := h6.cell 4
      have z5 : wf.cell? ⟨b0 + 1, 5, none⟩ = some (.slice kA kn kq) := h6.cell 5
      have HFIN : Hid (PlaR rt tk (.slice xA xn xd) PF w0 (.returned (.agg #[.int .i64 rt, .int .i64 tk, .slice xA xn xd, (.slice gA gn gq), (.slice mA mn mq), (.slice kA kn kq)])) wf) := by
        have h1 := HIE.out
        refine ⟨HGS.out, b0 + 2, g, m, k, by rw [HGV.out, HMV.out, HKV.out], ?_, ?_, ?_, by rw [HB0.out, HGV.out, HMV.out, HKV.out]; exact HS6.out.base (by omega)⟩
        · rw [← h1]
        · rw [← h1]
        · rw [← h1]
      clear hp hr h6 hwf hwf2 hlt
      go_wp2_with fail
      rw [HWF.out]
      exact bodyPost_ret (v := .agg #[.int .i64 rt, .int .i64 tk, .slice xA xn xd, (.slice gA gn gq), (.slice mA mn mq), (.slice kA kn kq)]) (by simp [results, Tryz.results21, go_sem, z0, z1, z2, z3, z4, z5]) rfl HFIN.out
    have hd : decide (i < xn) = true := by simpa using hlt
    have hkl : i < xs.length := by rw [HXN.out]; exact hlt
    have HGW : Hid (Gq w0 wr) := HPE.out wr HBW.out.1
    obtain ⟨b, off, hA, hb, hc⟩ := cli_at (HXO.out.cr.below HGW.out) (show 0 < xs.length by omega)
    simp only at hA
    obtain rfl : xA = some ⟨b, off, none⟩ := hA
    obtain ⟨c0, c1, c2, c3, c4, c5, c6⟩ := hc i hkl
    have HXI : Hid (CliOk w0 xs[i]) := HXO.out.co _ (List.getElem_mem hkl)
    have HEI : Hid (xs[i].e.xs.length ≤ 1000000) := HEV.out _ (List.getElem_mem hkl)
    have HCL := Lib.hid (HCF.out i hkl)
    obtain ⟨X, hX⟩ : ∃ X, (xs[i]).x = X := ⟨_, rfl⟩
    have HNX : Hid (plaF d ((xs.map CliM.x).take (i + 1)) = plaS (plaF d ((xs.map CliM.x).take i)) X (d i X)) := by
      show _ = _
      have := plaF_next d (xs.map CliM.x) i (by rw [List.length_map]; exact hkl)
      rw [List.getElem_map, hX] at this
      exact this
    have HOW : Hid (∀ W, Below (b0 + 2) wz W → Calls Tryz.prog 23 #[(xs[i]).v] W fun e w' => ∃ y : CliM, e = .returned y.v ∧ y.x = X ∧ CliT w' y ∧ Gq W w') := fun W hW => by
      have := own_any xs[i] W (HXI.out.below (HPE.out W hW)) (by have := HEI.out; omega)
      rw [hX] at this
      exact this
    rw [hX] at HCL
    obtain ⟨Z, hZ⟩ : ∃ Z, xs[i] = Z := ⟨_, rfl⟩
    rw [hZ] at HCL HOW
    simp only [hZ] at c0 c1 c2 c3 c4 c5 c6
    clear hc hX hZ HXI HEI
    obtain ⟨xm, xc, xf, xt, xa, xl, ⟨EA, ed, es⟩⟩ := Z
    simp only [CliM.v, Slc.v] at HCL HOW c0 c1 c2 c3 c4 c5 c6
    obtain ⟨en, hen⟩ : ∃ en : Nat, es.length = en := ⟨_, rfl⟩
    rw [hen] at HCL HOW c6
    clear hen
    obtain ⟨gc, hgc⟩ : ∃ gc, wr.heap.size = gc := ⟨_, rfl⟩
    obtain ⟨wc, hwc⟩ : ∃ wc, wc = wr.alloc (.cells #[.string xm, .int .i64 xc, .int .i64 xf, .int .i64 xt, .int .i64 xa, .int .i64 xl, .slice EA en ed] 39) := ⟨_, rfl⟩
    have HKC : Hid (Blk wc gc 39 [.string xm, .int .i64 xc, .int .i64 xf, .int .i64 xt, .int .i64 xa, .int .i64 xl, .slice EA en ed]) := by rw [hwc, ← hgc]; exact Blk.new wr _ _
    have HGC : Hid (Gq wr wc) := by rw [hwc]; exact (Gq.refl _).alloc _
    have HWC := Lib.hid hwc
    have HGc := Lib.hid hgc
    have HI0 : Hid ((0 : Int) ≤ (i : Int) ∧ (i : Int) < (xn : Int)) := ⟨by omega, by omega⟩
    have i0 := HI0.out.1
    have i1 := HI0.out.2
    clear hwc hb
    go_upto_region 5 with (fail)
    rw [← HWC.out]
    clear hgc
    try simp only [HGc.out]
    clear c0 c1 c2 c3 c4 c5 c6
    have d0 : wc.cell? ⟨gc, 0, none⟩ = some (.string xm) := HKC.out.cell 0
    have d1 : wc.cell? ⟨gc, 1, none⟩ = some (.int .i64 xc) := HKC.out.cell 1
    have d2 : wc.cell? ⟨gc, 2, none⟩ = some (.int .i64 xf) := HKC.out.cell 2
    have d3 : wc.cell? ⟨gc, 3, none⟩ = some (.int .i64 xt) := HKC.out.cell 3
    have d4 : wc.cell? ⟨gc, 4, none⟩ = some (.int .i64 xa) := HKC.out.cell 4
    have d5 : wc.cell? ⟨gc, 5, none⟩ = some (.int .i64 xl) := HKC.out.cell 5
    have d6 : wc.cell? ⟨gc, 6, none⟩ = some (.slice EA en ed) := HKC.out.cell 6
    have HC5 := Lib.hid (HCL.out wc (HGW.out.trans HGC.out))
    clear HCL
    go_wp2_with fail
    refine HC5.out.mono ?_
    rintro e w5 ⟨hg5, ⟨hn, rfl⟩ | ⟨l, ⟨sA, sc, ss⟩, hl, rfl, hsx, hs3, hsr, hst, hsf⟩⟩
    · have HBC : Hid (Blk w5.drew gc 39 [.string xm, .int .i64 xc, .int .i64 xf, .int .i64 xt, .int .i64 xa, .int .i64 xl, .slice EA en ed]) := blkq HKC.out hg5.drew
      have HBASE : Hid (Below (b0 + 2) wz w5.drew ∧ b0 + 3 ≤ w5.drew.heap.size) := by
        have h1 := HGC.out.trans hg5
        have h2 := HBW.out
        exact ⟨(h2.1.trans (Below.mono h1 (by omega))).drew, Nat.le_trans h2.2 (Below.size h1.drew)⟩
      have HPL : Hid (PlJ (b0 + 3) (b0 + 2) rt tk (.slice (some ⟨b, off, none⟩) xn xd) g.v m.v k.v w5.drew g m k) := HPJ.out.gq (HGC.out.trans hg5).drew
      obtain ⟨LX, hLX⟩ : ∃ L, k.xs.map CliM.x = L := ⟨_, rfl⟩
      have HLX := Lib.hid hLX
      have HLN : Hid (k.xs.length ≤ 300) := by have := HIN.out.2.1; show _ ≤ _; omega
      have HNXK : Hid (∀ ks : List CliM, ks.map CliM.x = LX ++ [X] → (⟨ks.map CliM.x, g.xs.map CliM.x, m.xs.map CliM.x⟩ : Pla) = plaF d ((xs.map CliM.x).take (i + 1)) ∧ ks.length ≤ i + 1 ∧ g.xs.length ≤ i + 1 ∧ m.xs.length ≤ 3 * (i + 1)) := fun ks hks => by
        have h1 := HIN.out
        have h2 := congrArg List.length hks
        rw [List.length_map, List.length_append, ← hLX, List.length_map] at h2
        refine ⟨?_, by simp at h2; omega, by omega, by omega⟩
        rw [HNX.out, hn, ← h1.1, hks, ← hLX]; rfl
      obtain ⟨xv, hxv⟩ : ∃ xv, Value.slice (some ⟨b, off, none⟩) xn xd = xv := ⟨_, rfl⟩
      have HXV := Lib.hid hxv
      rw [hxv] at HPL
      clear hLX hxv hn hg5 d0 d1 d2 d3 d4 d5 d6 HC5 i0 i1
      go_upto_region 7 with (fail)
      have i1 := HI0.out.2
      refine Go.Dwo.wp_region_factsK _ (by kernel_rfl) [[], [0], [], [2], [2, 3], [0, 1, 2, 3, 4], [], [0, 1, 2, 3, 4, 5, 6]] (by kernel_rfl) (by kernel_rfl) [some 29, some 30, some 31, some 32, some 33, some 34, some 35, none] (by kernel_rfl) (fun vs => by simp only [Go.Dwo.putA, Go.Dwo.putL, if_true, Act.put, List.setIfInBounds_toArray, List.set_cons_zero, List.set_cons_succ]; rfl) (npkF wz b0 gc rt tk xv g m k xm xc xf xt xa xl EA en ed X LX) (by kernel_rfl) ?_ ⟨?_, ?_, ?_, ?_, ?_, ?_, ?_, ?_, trivial⟩ ?_
      · exact Go.Dwo.fa_zero [0, 1, 2] (by kernel_rfl) <| Go.Dwo.fa_cons (HBASE.out) <| Go.Dwo.fa_cons (HPL.out) <| Go.Dwo.fa_cons (HBC.out) <| Go.Dwo.fa_nil _
      · -- 0: Op.fieldAddr 50 t5 3
        intro Ls vs w Kk H hu hD hK
        replace hu : ∀ k ∈ ([] : List Nat), Ls k = true := hu
        replace hD : ∀ k ∈ ([0, 1, 5, 7] : List Nat), Ls k = false := Go.Dwo.fa_cons (hD 0 (.inl rfl)) <| Go.Dwo.fa_cons (hD 1 (.inr (by decide))) <| Go.Dwo.fa_cons (hD 5 (.inr (by decide))) <| Go.Dwo.fa_cons (hD 7 (.inr (by decide))) <| Go.Dwo.fa_nil _
        simp only [Go.Dwo.actOf, List.getD_cons_zero]
        have qbase : Below (b0 + 2) wz w ∧ b0 + 3 ≤ w.heap.size := H.up hu hD 0 rfl rfl rfl
        obtain ⟨h0, hz⟩ := qbase
        have pl : PlJ (b0 + 3) (b0 + 2) rt tk xv g.v m.v k.v w g m k := H.up hu hD 1 rfl rfl rfl
        have bc : Blk w gc 39 [.string xm, .int .i64 xc, .int .i64 xf, .int .i64 xt, .int .i64 xa, .int .i64 xl, .slice EA en ed] := H.up hu hD 2 rfl rfl rfl
        have hKK := Lib.hid hK
        clear hK H hu hD
        go_simp
        refine hKK.out _ _ (fun f _ _ _ _ h => h) ?_
        exact Go.Dwo.fa_pick [3] (by kernel_rfl) <| Go.Dwo.fa_cons (fun _ => rfl) <| Go.Dwo.fa_nil _
      · -- 1: Op.load 22 t29
        intro Ls vs w Kk H hu hD hK
        replace hu : ∀ k ∈ ([0] : List Nat), Ls k = true := hu
        replace hD : ∀ k ∈ ([1, 5, 7] : List Nat), Ls k = false := Go.Dwo.fa_cons (hD 1 (.inl rfl)) <| Go.Dwo.fa_cons (hD 5 (.inr (by decide))) <| Go.Dwo.fa_cons (hD 7 (.inr (by decide))) <| Go.Dwo.fa_nil _
        simp only [Go.Dwo.actOf, List.getD_cons_succ, List.getD_cons_zero]
        have qbase : Below (b0 + 2) wz w ∧ b0 + 3 ≤ w.heap.size := H.up hu hD 0 rfl rfl rfl
        obtain ⟨h0, hz⟩ := qbase
        have pl : PlJ (b0 + 3) (b0 + 2) rt tk xv g.v m.v k.v w g m k := H.up hu hD 1 rfl rfl rfl
        have bc : Blk w gc 39 [.string xm, .int .i64 xc, .int .i64 xf, .int .i64 xt, .int .i64 xa, .int .i64 xl, .slice EA en ed] := H.up hu hD 2 rfl rfl rfl
        have f0 : vs 0 = .pointer (some ⟨b0 + 2, 5, none⟩) := H.up hu hD 3 rfl rfl rfl
        have dp : w.cell? ⟨b0 + 2, 5, none⟩ = _ := pl.blk.cell 5
        simp only [List.getElem?_cons_zero, List.getElem?_cons_succ] at dp
        have hKK := Lib.hid hK
        clear hK H hu hD
        go_simp
        refine hKK.out _ _ (fun f _ _ _ _ h => h) ?_
        exact Go.Dwo.fa_pick [4] (by kernel_rfl) <| Go.Dwo.fa_cons (fun _ => rfl) <| Go.Dwo.fa_nil _
      · -- 2: Op.load 39 t7
        intro Ls vs w Kk H hu hD hK
        replace hu : ∀ k ∈ ([] : List Nat), Ls k = true := hu
        replace hD : ∀ k ∈ ([2, 3, 4, 5, 7] : List Nat), Ls k = false := Go.Dwo.fa_cons (hD 2 (.inl rfl)) <| Go.Dwo.fa_cons (hD 3 (.inr (by decide))) <| Go.Dwo.fa_cons (hD 4 (.inr (by decide))) <| Go.Dwo.fa_cons (hD 5 (.inr (by decide))) <| Go.Dwo.fa_cons (hD 7 (.inr (by decide))) <| Go.Dwo.fa_nil _
        simp only [Go.Dwo.actOf, List.getD_cons_succ, List.getD_cons_zero]
        have qbase : Below (b0 + 2) wz w ∧ b0 + 3 ≤ w.heap.size := H.up hu hD 0 rfl rfl rfl
        obtain ⟨h0, hz⟩ := qbase
        have pl : PlJ (b0 + 3) (b0 + 2) rt tk xv g.v m.v k.v w g m k := H.up hu hD 1 rfl rfl rfl
        have bc : Blk w gc 39 [.string xm, .int .i64 xc, .int .i64 xf, .int .i64 xt, .int .i64 xa, .int .i64 xl, .slice EA en ed] := H.up hu hD 2 rfl rfl rfl
        have d0 : w.cell? ⟨gc, 0, none⟩ = _ := bc.cell 0
        have d1 : w.cell? ⟨gc, 1, none⟩ = _ := bc.cell 1
        have d2 : w.cell? ⟨gc, 2, none⟩ = _ := bc.cell 2
        have d3 : w.cell? ⟨gc, 3, none⟩ = _ := bc.cell 3
        have d4 : w.cell? ⟨gc, 4, none⟩ = _ := bc.cell 4
        have d5 : w.cell? ⟨gc, 5, none⟩ = _ := bc.cell 5
        have d6 : w.cell? ⟨gc, 6, none⟩ = _ := bc.cell 6
        simp only [List.getElem?_cons_zero, List.getElem?_cons_succ] at d0 d1 d2 d3 d4 d5 d6
        have hKK := Lib.hid hK
        clear hK H hu hD
        go_simp
        refine hKK.out _ _ (fun f _ _ _ _ h => h) ?_
        exact Go.Dwo.fa_pick [5] (by kernel_rfl) <| Go.Dwo.fa_cons (fun _ => rfl) <| Go.Dwo.fa_nil _
      · -- 3: Op.call { value (Operand.func 23), args := #[t31], argTypes := #[39] }
        intro Ls vs w Kk H hu hD hK
        replace hu : ∀ k ∈ ([2] : List Nat), Ls k = true := hu
        replace hD : ∀ k ∈ ([3, 4, 5, 7] : List Nat), Ls k = false := Go.Dwo.fa_cons (hD 3 (.inl rfl)) <| Go.Dwo.fa_cons (hD 4 (.inr (by decide))) <| Go.Dwo.fa_cons (hD 5 (.inr (by decide))) <| Go.Dwo.fa_cons (hD 7 (.inr (by decide))) <| Go.Dwo.fa_nil _
        simp only [Go.Dwo.actOf, List.getD_cons_succ, List.getD_cons_zero]
        have qbase : Below (b0 + 2) wz w ∧ b0 + 3 ≤ w.heap.size := H.up hu hD 0 rfl rfl rfl
        obtain ⟨h0, hz⟩ := qbase
        have pl : PlJ (b0 + 3) (b0 + 2) rt tk xv g.v m.v k.v w g m k := H.up hu hD 1 rfl rfl rfl
        have bc : Blk w gc 39 [.string xm, .int .i64 xc, .int .i64 xf, .int .i64 xt, .int .i64 xa, .int .i64 xl, .slice EA en ed] := H.up hu hD 2 rfl rfl rfl
        have f2 : vs 2 = .agg #[.string xm, .int .i64 xc, .int .i64 xf, .int .i64 xt, .int .i64 xa, .int .i64 xl, .slice EA en ed] := H.up hu hD 5 rfl rfl rfl
        have hKK := Lib.hid hK
        clear hK H hu hD
        go_simp
        refine (HOW.out w h0).mono ?_
        rintro e w' ⟨y, rfl, hyx, hyt, hb⟩
        refine ⟨_, rfl, hKK.out _ _ (fun f hf _ _ _ h => npkK wz b0 gc rt tk xv g m k xm xc xf xt xa xl EA en ed X LX f hf _ _ _ hb h) ?_⟩
        exact Go.Dwo.fa_pick [6, 7] (by kernel_rfl) <| Go.Dwo.fa_cons (fun _ => ⟨y, rfl, hyx, hyt⟩) <|
            Go.Dwo.fa_cons (fun hL => absurd (show (3 : Nat) ∈ ([2, 3] : List Nat) from by decide) (hL 4 (show (4 : Nat) ∈ ([3, 4] : List Nat) from by decide) (show (4 : Nat) ≠ 3 from by decide)).2) <| Go.Dwo.fa_nil _
      · -- 4: Op.buildSlice 22 1 #[(0, t32)]
        intro Ls vs w Kk H hu hD hK
        replace hu : ∀ k ∈ ([2, 3] : List Nat), Ls k = true := hu
        replace hD : ∀ k ∈ ([4, 5, 7] : List Nat), Ls k = false := Go.Dwo.fa_cons (hD 4 (.inl rfl)) <| Go.Dwo.fa_cons (hD 5 (.inr (by decide))) <| Go.Dwo.fa_cons (hD 7 (.inr (by decide))) <| Go.Dwo.fa_nil _
        simp only [Go.Dwo.actOf, List.getD_cons_succ, List.getD_cons_zero]
        have qbase : Below (b0 + 2) wz w ∧ b0 + 3 ≤ w.heap.size := H.up hu hD 0 rfl rfl rfl
        obtain ⟨h0, hz⟩ := qbase
        have pl : PlJ (b0 + 3) (b0 + 2) rt tk xv g.v m.v k.v w g m k := H.up hu hD 1 rfl rfl rfl
        have bc : Blk w gc 39 [.string xm, .int .i64 xc, .int .i64 xf, .int .i64 xt, .int .i64 xa, .int .i64 xl, .slice EA en ed] := H.up hu hD 2 rfl rfl rfl
        have qn3 : ∃ y : CliM, vs 3 = y.v ∧ y.x = X ∧ CliT w y := H.up hu hD 6 rfl rfl rfl
        obtain ⟨⟨ym, yc, yf, yt, ya, yl, ⟨YA, yd, yes⟩⟩, e3, x3, t3⟩ := qn3
        simp only [CliM.v, Slc.v] at e3
        have hKK := Lib.hid hK
        clear hK H hu hD
        go_simp
        refine hKK.out _ _ (fun f hf _ _ _ h => npkK wz b0 gc rt tk xv g m k xm xc xf xt xa xl EA en ed X LX f hf _ _ _ (Gq.alloc (Gq.refl _) _) h) ?_
        exact Go.Dwo.fa_pick [7] (by kernel_rfl) <| Go.Dwo.fa_cons (fun _ => ⟨⟨ym, yc, yf, yt, ya, yl, ⟨YA, yd, yes⟩⟩, _, e3, rfl, Blk.new w 39 [.string ym, .int .i64 yc, .int .i64 yf, .int .i64 yt, .int .i64 ya, .int .i64 yl, .slice YA yes.length yd], x3, t3.gq (Gq.alloc (Gq.refl _) _)⟩) <| Go.Dwo.fa_nil _
      · -- 5: Op.call { builtin append, args := #[t30, t33], argTypes := #[22, 22] }
        intro Ls vs w Kk H hu hD hK
        replace hu : ∀ k ∈ ([0, 1, 2, 3, 4] : List Nat), Ls k = true := hu
        replace hD : ∀ k ∈ ([5, 7] : List Nat), Ls k = false := Go.Dwo.fa_cons (hD 5 (.inl rfl)) <| Go.Dwo.fa_cons (hD 7 (.inr (by decide))) <| Go.Dwo.fa_nil _
        simp only [Go.Dwo.actOf, List.getD_cons_succ, List.getD_cons_zero]
        have qbase : Below (b0 + 2) wz w ∧ b0 + 3 ≤ w.heap.size := H.up hu hD 0 rfl rfl rfl
        obtain ⟨h0, hz⟩ := qbase
        have pl : PlJ (b0 + 3) (b0 + 2) rt tk xv g.v m.v k.v w g m k := H.up hu hD 1 rfl rfl rfl
        have bc : Blk w gc 39 [.string xm, .int .i64 xc, .int .i64 xf, .int .i64 xt, .int .i64 xa, .int .i64 xl, .slice EA en ed] := H.up hu hD 2 rfl rfl rfl
        have f1 : vs 1 = k.v := H.up hu hD 4 rfl rfl rfl
        have qn3 : ∃ y : CliM, vs 3 = y.v ∧ y.x = X ∧ CliT w y := H.up hu hD 6 rfl rfl rfl
        obtain ⟨⟨ym, yc, yf, yt, ya, yl, ⟨YA, yd, yes⟩⟩, e3, x3, t3⟩ := qn3
        have qn4 : ∃ (y : CliM) (b : Nat), vs 3 = y.v ∧ vs 4 = .slice (some ⟨b, 0, none⟩) 1 1 ∧ Blk w b 39 y.cs ∧ y.x = X ∧ CliT w y := H.up hu hD 7 rfl rfl rfl
        obtain ⟨y4, b4, e4y, e4, k4, x4, t4⟩ := qn4
        have HDD := Lib.hid hD
        have HH := Lib.hid H
        have hKK := Lib.hid hK
        clear hK H hu hD
        have hkl : k.xs.length ≤ 300 := HLN.out
        simp only [Nat.zero_add, Nat.reduceAdd, f1, e4]
        refine Eq.mpr (if_pos rfl) ?_
        refine Go.Dwo.tame_append (.tmp 30) (.tmp 33) 22 rfl (b0 + 3) 39 ii _ 7 80 Tryz.underlying22 HII.out.1 HII.out.2.1 HII.out.2.2.1 HII.out.2.2.2 rfl (by decide) k.v k.xs.length (k.xs.flatMap CliM.cs) (by rfl) pl.ok ⟨b4, 0, none⟩ 1 1 y4.cs (by rfl) (by rfl) (fun j u hu => by
          have h1 : w.cell? ⟨b4, j, none⟩ = some u := (k4.cell j).trans hu
          have h2 : (⟨b4, 0, none⟩ : Addr).add j = ⟨b4, j, none⟩ := by unfold Addr.add; split <;> simp_all
          rw [h2]; exact h1) (fun u hu => cli_oneN [y4] u (by simpa using hu)) (by decide) (by unfold maxLen; omega) (by omega) hz ?_
        intro gN cap w' hown hgr hat
        obtain ⟨s, hs⟩ : ∃ s : Slc CliM, s = ⟨some ⟨gN, 0, none⟩, cap, k.xs ++ [y4]⟩ := ⟨_, rfl⟩
        have hsv : s.v = .slice (some ⟨gN, 0, none⟩) (k.xs.length + 1) cap := by rw [hs]; show Value.slice _ (k.xs ++ [y4]).length _ = _; rw [List.length_append]; rfl
        have hsl : s.xs.length = k.xs.length + 1 := by rw [hs]; show (k.xs ++ [y4]).length = _; rw [List.length_append]; rfl
        have hsc : s.xs.flatMap CliM.cs = k.xs.flatMap CliM.cs ++ y4.cs := by rw [hs]; show (k.xs ++ [y4]).flatMap CliM.cs = _; rw [List.flatMap_append]; simp
        have hsx : s.xs.map CliM.x = LX ++ [X] := by rw [hs]; show (k.xs ++ [y4]).map CliM.x = _; rw [List.map_append, HLX.out, ← x4]; rfl
        rw [← hsv, ← hsl, ← hsc] at hown
        have hat2 : ∀ b, s.v.ownBlock = some b → k.v.ownBlock = some b ∨ w.heap.size ≤ b := fun b hb => by
          rw [hsv] at hb
          have hb2 : gN = b := by simpa [Value.ownBlock] using hb
          rcases hat with h | h
          · exact .inl (by rw [h, hb2])
          · exact .inr (by omega)
        have hKP : KpT 75 w w' := KpT.own pl.ok hgr (by decide)
        have hPN := pl.app_k (s := s) (by omega) hown hgr hat2 (fun y hy => by
          rw [hs] at hy
          rcases List.mem_append.1 hy with hy | hy
          · exact (pl.tt y hy).kp hKP
          · rw [List.mem_singleton.1 hy]; exact t4.kp hKP)
        rw [← hsv]
        refine hKK.out _ _ (Go.Dwo.fa_cons (fun _ _ _ h => ⟨h.1.grown hgr (by have := h.1.size; omega) (fun j hj => by have := (pl.ok.lt j hj).1; omega), Nat.le_trans h.2 hgr.size⟩) <|
            Go.Dwo.fa_cons (fun _ hn _ _ => absurd (show (5 : Nat) ∈ ([5, 7] : List Nat) from by decide) hn) <|
            Go.Dwo.fa_cons (fun _ hn _ _ => absurd (show (5 : Nat) ∈ ([5, 7] : List Nat) from by decide) hn) <|
            Go.Dwo.fa_cons (fun _ _ _ h => h) <|
            Go.Dwo.fa_cons (fun _ _ _ h => h) <|
            Go.Dwo.fa_cons (fun _ _ _ h => h) <|
            Go.Dwo.fa_cons (fun _ _ _ h => (by obtain ⟨y, h1, h2, h3⟩ := h; exact ⟨y, h1, h2, h3.kp hKP⟩)) <|
            Go.Dwo.fa_cons (fun _ hn _ _ => absurd (show (5 : Nat) ∈ ([5, 7] : List Nat) from by decide) hn) <|
            Go.Dwo.fa_cons (fun hn _ _ _ => absurd (show (5 : Nat) ∈ ([5] : List Nat) from by decide) hn) <|
            Go.Dwo.fa_cons (fun _ _ _ h => h) <|
            Go.Dwo.fa_cons (fun hn _ _ _ => absurd (show (5 : Nat) ∈ ([5, 7] : List Nat) from by decide) hn) <| Go.Dwo.fa_nil _) ?_
        exact Go.Dwo.fa_pick [8, 10] (by kernel_rfl) <| Go.Dwo.fa_cons (fun _ => ⟨s, rfl, hsx, hPN⟩) <|
            Go.Dwo.fa_cons (fun hL => absurd (show (5 : Nat) ∈ ([0, 1, 2, 3, 4, 5, 6] : List Nat) from by decide) (hL 7 (show (7 : Nat) ∈ ([5, 7] : List Nat) from by decide) (show (7 : Nat) ≠ 5 from by decide)).2) <| Go.Dwo.fa_nil _
      · -- 6: Op.fieldAddr 50 t5 3
        intro Ls vs w Kk H hu hD hK
        replace hu : ∀ k ∈ ([] : List Nat), Ls k = true := hu
        replace hD : ∀ k ∈ ([6, 7] : List Nat), Ls k = false := Go.Dwo.fa_cons (hD 6 (.inl rfl)) <| Go.Dwo.fa_cons (hD 7 (.inr (by decide))) <| Go.Dwo.fa_nil _
        simp only [Go.Dwo.actOf, List.getD_cons_succ, List.getD_cons_zero]
        have qbase : Below (b0 + 2) wz w ∧ b0 + 3 ≤ w.heap.size := H.up hu hD 0 rfl rfl rfl
        obtain ⟨h0, hz⟩ := qbase
        have hKK := Lib.hid hK
        clear hK H hu hD
        go_simp
        refine hKK.out _ _ (fun f _ _ _ _ h => h) ?_
        exact Go.Dwo.fa_pick [9] (by kernel_rfl) <| Go.Dwo.fa_cons (fun _ => rfl) <| Go.Dwo.fa_nil _
      · -- 7: Op.store 22 t35 t34
        intro Ls vs w Kk H hu hD hK
        replace hu : ∀ k ∈ ([0, 1, 2, 3, 4, 5, 6] : List Nat), Ls k = true := hu
        replace hD : ∀ k ∈ ([7] : List Nat), Ls k = false := Go.Dwo.fa_cons (hD 7 (.inl rfl)) <| Go.Dwo.fa_nil _
        simp only [Go.Dwo.actOf, List.getD_cons_succ, List.getD_cons_zero]
        have qbase : Below (b0 + 2) wz w ∧ b0 + 3 ≤ w.heap.size := H.up hu hD 0 rfl rfl rfl
        obtain ⟨h0, hz⟩ := qbase
        have qn5 : ∃ s : Slc CliM, vs 5 = s.v ∧ s.xs.map CliM.x = LX ++ [X] ∧ PlJ (b0 + 3) (b0 + 2) rt tk xv g.v m.v k.v w g m s := H.up hu hD 8 rfl rfl rfl
        obtain ⟨s5, e5, x5, p5⟩ := qn5
        have f6 : vs 6 = .pointer (some ⟨b0 + 2, 5, none⟩) := H.up hu hD 9 rfl rfl rfl
        have HDD := Lib.hid hD
        have HH := Lib.hid H
        have dp : w.cell? ⟨b0 + 2, 5, none⟩ = _ := p5.blk.cell 5
        simp only [List.getElem?_cons_zero, List.getElem?_cons_succ] at dp
        have fp := p5.blk.frozen 5
        obtain ⟨A7, n7, c7, hv7⟩ : ∃ (A : Option Addr) (n c : Nat), s5.v = .slice A n c := ⟨_, _, _, rfl⟩
        rw [hv7] at e5
        have HV7 := Lib.hid hv7
        clear hv7
        have hKK := Lib.hid hK
        clear hK H hu hD
        go_simp
        have hPN := p5.set_ (i := 5) (u := .slice A7 n7 c7) (gv' := g.v) (mv' := m.v) (kv' := .slice A7 n7 c7) rfl
        refine hKK.out _ _ (Go.Dwo.fa_cons (fun _ _ _ h => ⟨h.1.setCell (p := ⟨b0 + 2, 5, none⟩) (Nat.le_refl _) _, by simp only [World.setCell, Array.size_modify]; exact h.2⟩) <|
            Go.Dwo.fa_cons (fun _ hn _ _ => absurd (show (7 : Nat) ∈ ([5, 7] : List Nat) from by decide) hn) <|
            Go.Dwo.fa_cons (fun _ hn _ _ => absurd (show (7 : Nat) ∈ ([5, 7] : List Nat) from by decide) hn) <|
            Go.Dwo.fa_cons (fun _ _ _ h => h) <|
            Go.Dwo.fa_cons (fun _ _ _ h => h) <|
            Go.Dwo.fa_cons (fun _ _ _ h => h) <|
            Go.Dwo.fa_cons (fun _ _ _ h => (by obtain ⟨y, h1, h2, h3⟩ := h; exact ⟨y, h1, h2, h3.kp ((KpT.refl _ _).setCell ⟨_, _, p5.blk⟩ (by decide))⟩)) <|
            Go.Dwo.fa_cons (fun _ hn _ _ => absurd (show (7 : Nat) ∈ ([5, 7] : List Nat) from by decide) hn) <|
            Go.Dwo.fa_cons (fun _ hn _ _ => absurd (show (7 : Nat) ∈ ([7] : List Nat) from by decide) hn) <|
            Go.Dwo.fa_cons (fun _ _ _ h => h) <|
            Go.Dwo.fa_cons (fun hn _ _ _ => absurd (show (7 : Nat) ∈ ([5, 7] : List Nat) from by decide) hn) <| Go.Dwo.fa_nil _) ?_
        exact Go.Dwo.fa_pick [10] (by kernel_rfl) <| Go.Dwo.fa_cons (fun _ => ⟨s5, e5.trans HV7.out.symm, x5, (by rw [HV7.out]; exact hPN)⟩) <| Go.Dwo.fa_nil _
      · intro vs w H
        have qbase : Below (b0 + 2) wz w ∧ b0 + 3 ≤ w.heap.size := Go.Dwo.fa_at H 0 rfl rfl
        obtain ⟨h0, hz⟩ := qbase
        have f0 : vs 0 = .pointer (some ⟨b0 + 2, 5, none⟩) := Go.Dwo.fa_at H 3 rfl rfl
        have f1 : vs 1 = k.v := Go.Dwo.fa_at H 4 rfl rfl
        have f2 : vs 2 = .agg #[.string xm, .int .i64 xc, .int .i64 xf, .int .i64 xt, .int .i64 xa, .int .i64 xl, .slice EA en ed] := Go.Dwo.fa_at H 5 rfl rfl
        have qn3 : ∃ y : CliM, vs 3 = y.v ∧ y.x = X ∧ CliT w y := Go.Dwo.fa_at H 6 rfl rfl
        obtain ⟨⟨ym, yc, yf, yt, ya, yl, ⟨YA, yd, yes⟩⟩, e3, x3, t3⟩ := qn3
        have f6 : vs 6 = .pointer (some ⟨b0 + 2, 5, none⟩) := Go.Dwo.fa_at H 9 rfl rfl
        have qn7 : ∃ s : Slc CliM, vs 5 = s.v ∧ s.xs.map CliM.x = LX ++ [X] ∧ PlJ (b0 + 3) (b0 + 2) rt tk xv g.v m.v s.v w g m s := Go.Dwo.fa_at H 10 rfl rfl
        obtain ⟨s7, e7, x7, p7⟩ := qn7
        clear H
        simp only [Nat.zero_add, Nat.reduceAdd]
        have HG7 : Hid (Below (b0 + 2) wz w ∧ b0 + 3 ≤ w.heap.size) := ⟨h0, hz⟩
        have HP7 : Hid (PlJ (b0 + 3) (b0 + 2) rt tk xv g.v m.v s7.v w g m s7) := p7
        have HX7 : Hid (s7.xs.map CliM.x = LX ++ [X]) := x7
        simp only [f0, f1, f2, f6, e7]
        clear f0 f1 f2 f6 e7 h0 hz p7 x7
        go_wp2_with fail
        go_roundw
        case rel => exact ⟨i + 1, g, m, s7, by omega, by go_num, HG7, (by have h := HP7.out; rw [← HXV.out] at h; exact h), HNXK.out s7.xs HX7.out⟩
        case measure => simp [intOf]; omega
    · simp only at hs3 hsr hsf hst hsx
      have HBC : Hid (Blk w5.drew gc 39 [.string xm, .int .i64 xc, .int .i64 xf, .int .i64 xt, .int .i64 xa, .int .i64 xl, .slice EA en ed]) := blkq HKC.out hg5.drew
      have HBASE : Hid (Below (b0 + 2) wz w5.drew ∧ b0 + 3 ≤ w5.drew.heap.size) := by
        have h1 := HGC.out.trans hg5
        have h2 := HBW.out
        exact ⟨(h2.1.trans (Below.mono h1 (by omega))).drew, Nat.le_trans h2.2 (Below.size h1.drew)⟩
      have HAP : Hid (∀ (b o : Nat), sA = some ⟨b, o, none⟩ → g.v.ownBlock ≠ some b ∧ b ≠ b0 + 2) := fun b o hb => by
        have h1 := hsf b o hb
        have h2 := HGC.out.size
        have h3 := HBW.out.2
        exact ⟨fun e => by have := (HPJ.out.og.lt b e).2; omega, by omega⟩
      have HSD : Hid (Rd w5.drew sA (ss.flatMap CliM.cs) ∧ ∀ y ∈ ss, CliT w5.drew y) := ⟨hsr.below (Below.refl _ _).drew, fun y hy => (hst y hy).gq (Gq.refl _).drew⟩
      have HPL : Hid (PlJ (b0 + 3) (b0 + 2) rt tk (.slice (some ⟨b, off, none⟩) xn xd) g.v m.v k.v w5.drew g m k) := HPJ.out.gq (HGC.out.trans hg5).drew
      obtain ⟨LX, hLX⟩ : ∃ L, g.xs.map CliM.x = L := ⟨_, rfl⟩
      have HLX := Lib.hid hLX
      have HLN : Hid (g.xs.length ≤ 300) := by have := HIN.out.2.2.1; show _ ≤ _; omega
      have HMN : Hid (m.xs.length ≤ 900) := by have := HIN.out.2.2.2; show _ ≤ _; omega
      obtain ⟨sn, hsn⟩ : ∃ sn : Nat, ss.length = sn := ⟨_, rfl⟩
      have HSN := Lib.hid hsn
      have HSL : Hid (sn ≤ 3) := by show _ ≤ _; omega
      have HFL : Hid ((ss.flatMap CliM.cs).length = sn * 7) := by show _ = _; rw [flat_len CliM.cs 7 (fun _ => rfl), hsn]
      have HNXG : Hid (∀ gs : List CliM, gs.map CliM.x = LX ++ [X] → (⟨k.xs.map CliM.x, gs.map CliM.x, (m.xs ++ ss).map CliM.x⟩ : Pla) = plaF d ((xs.map CliM.x).take (i + 1)) ∧ k.xs.length ≤ i + 1 ∧ gs.length ≤ i + 1 ∧ (m.xs ++ ss).length ≤ 3 * (i + 1)) := fun gs hgs => by
        have h1 := HIN.out
        have h2 := congrArg List.length hgs
        rw [List.length_map, List.length_append, ← hLX, List.length_map] at h2
        refine ⟨?_, by omega, by simp at h2; omega, by rw [List.length_append]; omega⟩
        rw [HNX.out, hl, ← h1.1, hgs, ← hLX, List.map_append, hsx]; rfl
      have hsv : (⟨sA, sc, ss⟩ : Slc CliM).v = .slice sA sn sc := by rw [← hsn]; rfl
      rw [hsv]
      obtain ⟨xv, hxv⟩ : ∃ xv, Value.slice (some ⟨b, off, none⟩) xn xd = xv := ⟨_, rfl⟩
      have HXV := Lib.hid hxv
      rw [hxv] at HPL
      clear hLX hxv hl hg5 d0 d1 d2 d3 d4 d5 d6 HC5 i0 i1 hsv hsn hsf hst hsr hs3 hsx
      go_upto_region 8 with (fail)
      have i1 := HI0.out.2
      refine Go.Dwo.wp_region_factsK _ (by kernel_rfl) [[], [0], [], [2], [2, 3], [0, 1, 2, 3, 4], [], [0, 1, 2, 3, 4, 5, 6]] (by kernel_rfl) (by kernel_rfl) [some 36, some 37, some 38, some 39, some 40, some 41, some 42, none] (by kernel_rfl) (fun vs => by simp only [Go.Dwo.putA, Go.Dwo.putL, if_true, Act.put, List.setIfInBounds_toArray, List.set_cons_zero, List.set_cons_succ]; rfl) (npgF wz b0 gc rt tk xv g m k xm xc xf xt xa xl EA en ed X LX sA ss) (by kernel_rfl) ?_ ⟨?_, ?_, ?_, ?_, ?_, ?_, ?_, ?_, trivial⟩ ?_
      · exact Go.Dwo.fa_zero [0, 1, 2, 3] (by kernel_rfl) <| Go.Dwo.fa_cons (HBASE.out) <| Go.Dwo.fa_cons (HSD.out) <| Go.Dwo.fa_cons (HPL.out) <| Go.Dwo.fa_cons (HBC.out) <| Go.Dwo.fa_nil _
      · -- 0: Op.fieldAddr 50 t5 1
        intro Ls vs w Kk H hu hD hK
        replace hu : ∀ k ∈ ([] : List Nat), Ls k = true := hu
        replace hD : ∀ k ∈ ([0, 1, 5, 7] : List Nat), Ls k = false := Go.Dwo.fa_cons (hD 0 (.inl rfl)) <| Go.Dwo.fa_cons (hD 1 (.inr (by decide))) <| Go.Dwo.fa_cons (hD 5 (.inr (by decide))) <| Go.Dwo.fa_cons (hD 7 (.inr (by decide))) <| Go.Dwo.fa_nil _
        simp only [Go.Dwo.actOf, List.getD_cons_zero]
        have qbase : Below (b0 + 2) wz w ∧ b0 + 3 ≤ w.heap.size := H.up hu hD 0 rfl rfl rfl
        obtain ⟨h0, hz⟩ := qbase
        have qsd : Rd w sA (ss.flatMap CliM.cs) ∧ ∀ y ∈ ss, CliT w y := H.up hu hD 1 rfl rfl rfl
        obtain ⟨sr, sy⟩ := qsd
        have pl : PlJ (b0 + 3) (b0 + 2) rt tk xv g.v m.v k.v w g m k := H.up hu hD 2 rfl rfl rfl
        have bc : Blk w gc 39 [.string xm, .int .i64 xc, .int .i64 xf, .int .i64 xt, .int .i64 xa, .int .i64 xl, .slice EA en ed] := H.up hu hD 3 rfl rfl rfl
        have hKK := Lib.hid hK
        clear hK H hu hD
        go_simp
        refine hKK.out _ _ (fun f _ _ _ _ h => h) ?_
        exact Go.Dwo.fa_pick [4] (by kernel_rfl) <| Go.Dwo.fa_cons (fun _ => rfl) <| Go.Dwo.fa_nil _
      · -- 1: Op.load 22 t36
        intro Ls vs w Kk H hu hD hK
        replace hu : ∀ k ∈ ([0] : List Nat), Ls k = true := hu
        replace hD : ∀ k ∈ ([1, 5, 7] : List Nat), Ls k = false := Go.Dwo.fa_cons (hD 1 (.inl rfl)) <| Go.Dwo.fa_cons (hD 5 (.inr (by decide))) <| Go.Dwo.fa_cons (hD 7 (.inr (by decide))) <| Go.Dwo.fa_nil _
        simp only [Go.Dwo.actOf, List.getD_cons_succ, List.getD_cons_zero]
        have qbase : Below (b0 + 2) wz w ∧ b0 + 3 ≤ w.heap.size := H.up hu hD 0 rfl rfl rfl
        obtain ⟨h0, hz⟩ := qbase
        have qsd : Rd w sA (ss.flatMap CliM.cs) ∧ ∀ y ∈ ss, CliT w y := H.up hu hD 1 rfl rfl rfl
        obtain ⟨sr, sy⟩ := qsd
        have pl : PlJ (b0 + 3) (b0 + 2) rt tk xv g.v m.v k.v w g m k := H.up hu hD 2 rfl rfl rfl
        have bc : Blk w gc 39 [.string xm, .int .i64 xc, .int .i64 xf, .int .i64 xt, .int .i64 xa, .int .i64 xl, .slice EA en ed] := H.up hu hD 3 rfl rfl rfl
        have f0 : vs 0 = .pointer (some ⟨b0 + 2, 3, none⟩) := H.up hu hD 4 rfl rfl rfl
        have dp : w.cell? ⟨b0 + 2, 3, none⟩ = _ := pl.blk.cell 3
        simp only [List.getElem?_cons_zero, List.getElem?_cons_succ] at dp
        have hKK := Lib.hid hK
        clear hK H hu hD
        go_simp
        refine hKK.out _ _ (fun f _ _ _ _ h => h) ?_
        exact Go.Dwo.fa_pick [5] (by kernel_rfl) <| Go.Dwo.fa_cons (fun _ => rfl) <| Go.Dwo.fa_nil _
      · -- 2: Op.load 39 t7
        intro Ls vs w Kk H hu hD hK
        replace hu : ∀ k ∈ ([] : List Nat), Ls k = true := hu
        replace hD : ∀ k ∈ ([2, 3, 4, 5, 7] : List Nat), Ls k = false := Go.Dwo.fa_cons (hD 2 (.inl rfl)) <| Go.Dwo.fa_cons (hD 3 (.inr (by decide))) <| Go.Dwo.fa_cons (hD 4 (.inr (by decide))) <| Go.Dwo.fa_cons (hD 5 (.inr (by decide))) <| Go.Dwo.fa_cons (hD 7 (.inr (by decide))) <| Go.Dwo.fa_nil _
        simp only [Go.Dwo.actOf, List.getD_cons_succ, List.getD_cons_zero]
        have qbase : Below (b0 + 2) wz w ∧ b0 + 3 ≤ w.heap.size := H.up hu hD 0 rfl rfl rfl
        obtain ⟨h0, hz⟩ := qbase
        have qsd : Rd w sA (ss.flatMap CliM.cs) ∧ ∀ y ∈ ss, CliT w y := H.up hu hD 1 rfl rfl rfl
        obtain ⟨sr, sy⟩ := qsd
        have pl : PlJ (b0 + 3) (b0 + 2) rt tk xv g.v m.v k.v w g m k := H.up hu hD 2 rfl rfl rfl
        have bc : Blk w gc 39 [.string xm, .int .i64 xc, .int .i64 xf, .int .i64 xt, .int .i64 xa, .int .i64 xl, .slice EA en ed] := H.up hu hD 3 rfl rfl rfl
        have d0 : w.cell? ⟨gc, 0, none⟩ = _ := bc.cell 0
        have d1 : w.cell? ⟨gc, 1, none⟩ = _ := bc.cell 1
        have d2 : w.cell? ⟨gc, 2, none⟩ = _ := bc.cell 2
        have d3 : w.cell? ⟨gc, 3, none⟩ = _ := bc.cell 3
        have d4 : w.cell? ⟨gc, 4, none⟩ = _ := bc.cell 4
        have d5 : w.cell? ⟨gc, 5, none⟩ = _ := bc.cell 5
        have d6 : w.cell? ⟨gc, 6, none⟩ = _ := bc.cell 6
        simp only [List.getElem?_cons_zero, List.getElem?_cons_succ] at d0 d1 d2 d3 d4 d5 d6
        have hKK := Lib.hid hK
        clear hK H hu hD
        go_simp
        refine hKK.out _ _ (fun f _ _ _ _ h => h) ?_
        exact Go.Dwo.fa_pick [6] (by kernel_rfl) <| Go.Dwo.fa_cons (fun _ => rfl) <| Go.Dwo.fa_nil _
      · -- 3: Op.call { value (Operand.func 23), args := #[t38], argTypes := #[39] }
        intro Ls vs w Kk H hu hD hK
        replace hu : ∀ k ∈ ([2] : List Nat), Ls k = true := hu
        replace hD : ∀ k ∈ ([3, 4, 5, 7] : List Nat), Ls k = false := Go.Dwo.fa_cons (hD 3 (.inl rfl)) <| Go.Dwo.fa_cons (hD 4 (.inr (by decide))) <| Go.Dwo.fa_cons (hD 5 (.inr (by decide))) <| Go.Dwo.fa_cons (hD 7 (.inr (by decide))) <| Go.Dwo.fa_nil _
        simp only [Go.Dwo.actOf, List.getD_cons_succ, List.getD_cons_zero]
        have qbase : Below (b0 + 2) wz w ∧ b0 + 3 ≤ w.heap.size := H.up hu hD 0 rfl rfl rfl
        obtain ⟨h0, hz⟩ := qbase
        have qsd : Rd w sA (ss.flatMap CliM.cs) ∧ ∀ y ∈ ss, CliT w y := H.up hu hD 1 rfl rfl rfl
        obtain ⟨sr, sy⟩ := qsd
        have pl : PlJ (b0 + 3) (b0 + 2) rt tk xv g.v m.v k.v w g m k := H.up hu hD 2 rfl rfl rfl
        have bc : Blk w gc 39 [.string xm, .int .i64 xc, .int .i64 xf, .int .i64 xt, .int .i64 xa, .int .i64 xl, .slice EA en ed] := H.up hu hD 3 rfl rfl rfl
        have f2 : vs 2 = .agg #[.string xm, .int .i64 xc, .int .i64 xf, .int .i64 xt, .int .i64 xa, .int .i64 xl, .slice EA en ed] := H.up hu hD 6 rfl rfl rfl
        have hKK := Lib.hid hK
        clear hK H hu hD
        go_simp
        refine (HOW.out w h0).mono ?_
        rintro e w' ⟨y, rfl, hyx, hyt, hb⟩
        refine ⟨_, rfl, hKK.out _ _ (fun f hf _ _ _ h => npgK wz b0 gc rt tk xv g m k xm xc xf xt xa xl EA en ed X LX sA ss f hf _ _ _ hb h) ?_⟩
        exact Go.Dwo.fa_pick [7, 8] (by kernel_rfl) <| Go.Dwo.fa_cons (fun _ => ⟨y, rfl, hyx, hyt⟩) <|
            Go.Dwo.fa_cons (fun hL => absurd (show (3 : Nat) ∈ ([2, 3] : List Nat) from by decide) (hL 4 (show (4 : Nat) ∈ ([3, 4] : List Nat) from by decide) (show (4 : Nat) ≠ 3 from by decide)).2) <| Go.Dwo.fa_nil _
      · -- 4: Op.buildSlice 22 1 #[(0, t39)]
        intro Ls vs w Kk H hu hD hK
        replace hu : ∀ k ∈ ([2, 3] : List Nat), Ls k = true := hu
        replace hD : ∀ k ∈ ([4, 5, 7] : List Nat), Ls k = false := Go.Dwo.fa_cons (hD 4 (.inl rfl)) <| Go.Dwo.fa_cons (hD 5 (.inr (by decide))) <| Go.Dwo.fa_cons (hD 7 (.inr (by decide))) <| Go.Dwo.fa_nil _
        simp only [Go.Dwo.actOf, List.getD_cons_succ, List.getD_cons_zero]
        have qbase : Below (b0 + 2) wz w ∧ b0 + 3 ≤ w.heap.size := H.up hu hD 0 rfl rfl rfl
        obtain ⟨h0, hz⟩ := qbase
        have qsd : Rd w sA (ss.flatMap CliM.cs) ∧ ∀ y ∈ ss, CliT w y := H.up hu hD 1 rfl rfl rfl
        obtain ⟨sr, sy⟩ := qsd
        have pl : PlJ (b0 + 3) (b0 + 2) rt tk xv g.v m.v k.v w g m k := H.up hu hD 2 rfl rfl rfl
        have bc : Blk w gc 39 [.string xm, .int .i64 xc, .int .i64 xf, .int .i64 xt, .int .i64 xa, .int .i64 xl, .slice EA en ed] := H.up hu hD 3 rfl rfl rfl
        have qn3 : ∃ y : CliM, vs 3 = y.v ∧ y.x = X ∧ CliT w y := H.up hu hD 7 rfl rfl rfl
        obtain ⟨⟨ym, yc, yf, yt, ya, yl, ⟨YA, yd, yes⟩⟩, e3, x3, t3⟩ := qn3
        simp only [CliM.v, Slc.v] at e3
        have hKK := Lib.hid hK
        clear hK H hu hD
        go_simp
        refine hKK.out _ _ (fun f hf _ _ _ h => npgK wz b0 gc rt tk xv g m k xm xc xf xt xa xl EA en ed X LX sA ss f hf _ _ _ (Gq.alloc (Gq.refl _) _) h) ?_
        exact Go.Dwo.fa_pick [8] (by kernel_rfl) <| Go.Dwo.fa_cons (fun _ => ⟨⟨ym, yc, yf, yt, ya, yl, ⟨YA, yd, yes⟩⟩, _, e3, rfl, Blk.new w 39 [.string ym, .int .i64 yc, .int .i64 yf, .int .i64 yt, .int .i64 ya, .int .i64 yl, .slice YA yes.length yd], x3, t3.gq (Gq.alloc (Gq.refl _) _)⟩) <| Go.Dwo.fa_nil _
      · -- 5: Op.call { builtin append, args := #[t37, t40], argTypes := #[22, 22] }
        intro Ls vs w Kk H hu hD hK
        replace hu : ∀ k ∈ ([0, 1, 2, 3, 4] : List Nat), Ls k = true := hu
        replace hD : ∀ k ∈ ([5, 7] : List Nat), Ls k = false := Go.Dwo.fa_cons (hD 5 (.inl rfl)) <| Go.Dwo.fa_cons (hD 7 (.inr (by decide))) <| Go.Dwo.fa_nil _
        simp only [Go.Dwo.actOf, List.getD_cons_succ, List.getD_cons_zero]
        have qbase : Below (b0 + 2) wz w ∧ b0 + 3 ≤ w.heap.size := H.up hu hD 0 rfl rfl rfl
        obtain ⟨h0, hz⟩ := qbase
        have qsd : Rd w sA (ss.flatMap CliM.cs) ∧ ∀ y ∈ ss, CliT w y := H.up hu hD 1 rfl rfl rfl
        obtain ⟨sr, sy⟩ := qsd
        have pl : PlJ (b0 + 3) (b0 + 2) rt tk xv g.v m.v k.v w g m k := H.up hu hD 2 rfl rfl rfl
        have bc : Blk w gc 39 [.string xm, .int .i64 xc, .int .i64 xf, .int .i64 xt, .int .i64 xa, .int .i64 xl, .slice EA en ed] := H.up hu hD 3 rfl rfl rfl
        have f1 : vs 1 = g.v := H.up hu hD 5 rfl rfl rfl
        have qn3 : ∃ y : CliM, vs 3 = y.v ∧ y.x = X ∧ CliT w y := H.up hu hD 7 rfl rfl rfl
        obtain ⟨⟨ym, yc, yf, yt, ya, yl, ⟨YA, yd, yes⟩⟩, e3, x3, t3⟩ := qn3
        have qn4 : ∃ (y : CliM) (b : Nat), vs 3 = y.v ∧ vs 4 = .slice (some ⟨b, 0, none⟩) 1 1 ∧ Blk w b 39 y.cs ∧ y.x = X ∧ CliT w y := H.up hu hD 8 rfl rfl rfl
        obtain ⟨y4, b4, e4y, e4, k4, x4, t4⟩ := qn4
        have HDD := Lib.hid hD
        have HH := Lib.hid H
        have hKK := Lib.hid hK
        clear hK H hu hD
        have hkl : g.xs.length ≤ 300 := HLN.out
        simp only [Nat.zero_add, Nat.reduceAdd, f1, e4]
        refine Eq.mpr (if_pos rfl) ?_
        refine Go.Dwo.tame_append (.tmp 37) (.tmp 40) 22 rfl (b0 + 3) 39 ii _ 7 80 Tryz.underlying22 HII.out.1 HII.out.2.1 HII.out.2.2.1 HII.out.2.2.2 rfl (by decide) g.v g.xs.length (g.xs.flatMap CliM.cs) (by rfl) pl.og ⟨b4, 0, none⟩ 1 1 y4.cs (by rfl) (by rfl) (fun j u hu => by
          have h1 : w.cell? ⟨b4, j, none⟩ = some u := (k4.cell j).trans hu
          have h2 : (⟨b4, 0, none⟩ : Addr).add j = ⟨b4, j, none⟩ := by unfold Addr.add; split <;> simp_all
          rw [h2]; exact h1) (fun u hu => cli_oneN [y4] u (by simpa using hu)) (by decide) (by unfold maxLen; omega) (by omega) hz ?_
        intro gN cap w' hown hgr hat
        obtain ⟨s, hs⟩ : ∃ s : Slc CliM, s = ⟨some ⟨gN, 0, none⟩, cap, g.xs ++ [y4]⟩ := ⟨_, rfl⟩
        have hsv : s.v = .slice (some ⟨gN, 0, none⟩) (g.xs.length + 1) cap := by rw [hs]; show Value.slice _ (g.xs ++ [y4]).length _ = _; rw [List.length_append]; rfl
        have hsl : s.xs.length = g.xs.length + 1 := by rw [hs]; show (g.xs ++ [y4]).length = _; rw [List.length_append]; rfl
        have hsc : s.xs.flatMap CliM.cs = g.xs.flatMap CliM.cs ++ y4.cs := by rw [hs]; show (g.xs ++ [y4]).flatMap CliM.cs = _; rw [List.flatMap_append]; simp
        have hsx : s.xs.map CliM.x = LX ++ [X] := by rw [hs]; show (g.xs ++ [y4]).map CliM.x = _; rw [List.map_append, HLX.out, ← x4]; rfl
        rw [← hsv, ← hsl, ← hsc] at hown
        have hat2 : ∀ b, s.v.ownBlock = some b → g.v.ownBlock = some b ∨ w.heap.size ≤ b := fun b hb => by
          rw [hsv] at hb
          have hb2 : gN = b := by simpa [Value.ownBlock] using hb
          rcases hat with h | h
          · exact .inl (by rw [h, hb2])
          · exact .inr (by omega)
        have hKP : KpT 75 w w' := KpT.own pl.og hgr (by decide)
        have hPN := pl.app_g (s := s) (by omega) hown hgr hat2 (fun y hy => by
          rw [hs] at hy
          rcases List.mem_append.1 hy with hy | hy
          · exact (pl.tg y hy).kp hKP
          · rw [List.mem_singleton.1 hy]; exact t4.kp hKP)
        rw [← hsv]
        refine hKK.out _ _ (Go.Dwo.fa_cons (fun _ _ _ h => ⟨h.1.grown hgr (by have := h.1.size; omega) (fun j hj => by have := (pl.og.lt j hj).1; omega), Nat.le_trans h.2 hgr.size⟩) <|
            Go.Dwo.fa_cons (fun _ _ _ h => ⟨rd_grw h.1 hgr (fun b o hb => (HAP.out b o hb).1), fun y hy => (h.2 y hy).kp hKP⟩) <|
            Go.Dwo.fa_cons (fun _ hn _ _ => absurd (show (5 : Nat) ∈ ([5, 7] : List Nat) from by decide) hn) <|
            Go.Dwo.fa_cons (fun _ hn _ _ => absurd (show (5 : Nat) ∈ ([5, 7] : List Nat) from by decide) hn) <|
            Go.Dwo.fa_cons (fun _ _ _ h => h) <|
            Go.Dwo.fa_cons (fun _ _ _ h => h) <|
            Go.Dwo.fa_cons (fun _ _ _ h => h) <|
            Go.Dwo.fa_cons (fun _ _ _ h => (by obtain ⟨y, h1, h2, h3⟩ := h; exact ⟨y, h1, h2, h3.kp hKP⟩)) <|
            Go.Dwo.fa_cons (fun _ hn _ _ => absurd (show (5 : Nat) ∈ ([5, 7] : List Nat) from by decide) hn) <|
            Go.Dwo.fa_cons (fun hn _ _ _ => absurd (show (5 : Nat) ∈ ([5] : List Nat) from by decide) hn) <|
            Go.Dwo.fa_cons (fun _ _ _ h => h) <|
            Go.Dwo.fa_cons (fun hn _ _ _ => absurd (show (5 : Nat) ∈ ([5, 7] : List Nat) from by decide) hn) <| Go.Dwo.fa_nil _) ?_
        exact Go.Dwo.fa_pick [9, 11] (by kernel_rfl) <| Go.Dwo.fa_cons (fun _ => ⟨s, rfl, hsx, hPN⟩) <|
            Go.Dwo.fa_cons (fun hL => absurd (show (5 : Nat) ∈ ([0, 1, 2, 3, 4, 5, 6] : List Nat) from by decide) (hL 7 (show (7 : Nat) ∈ ([5, 7] : List Nat) from by decide) (show (7 : Nat) ≠ 5 from by decide)).2) <| Go.Dwo.fa_nil _
      · -- 6: Op.fieldAddr 50 t5 1
        intro Ls vs w Kk H hu hD hK
        replace hu : ∀ k ∈ ([] : List Nat), Ls k = true := hu
        replace hD : ∀ k ∈ ([6, 7] : List Nat), Ls k = false := Go.Dwo.fa_cons (hD 6 (.inl rfl)) <| Go.Dwo.fa_cons (hD 7 (.inr (by decide))) <| Go.Dwo.fa_nil _
        simp only [Go.Dwo.actOf, List.getD_cons_succ, List.getD_cons_zero]
        have qbase : Below (b0 + 2) wz w ∧ b0 + 3 ≤ w.heap.size := H.up hu hD 0 rfl rfl rfl
        obtain ⟨h0, hz⟩ := qbase
        have qsd : Rd w sA (ss.flatMap CliM.cs) ∧ ∀ y ∈ ss, CliT w y := H.up hu hD 1 rfl rfl rfl
        obtain ⟨sr, sy⟩ := qsd
        have hKK := Lib.hid hK
        clear hK H hu hD
        go_simp
        refine hKK.out _ _ (fun f _ _ _ _ h => h) ?_
        exact Go.Dwo.fa_pick [10] (by kernel_rfl) <| Go.Dwo.fa_cons (fun _ => rfl) <| Go.Dwo.fa_nil _
      · -- 7: Op.store 22 t42 t41
        intro Ls vs w Kk H hu hD hK
        replace hu : ∀ k ∈ ([0, 1, 2, 3, 4, 5, 6] : List Nat), Ls k = true := hu
        replace hD : ∀ k ∈ ([7] : List Nat), Ls k = false := Go.Dwo.fa_cons (hD 7 (.inl rfl)) <| Go.Dwo.fa_nil _
        simp only [Go.Dwo.actOf, List.getD_cons_succ, List.getD_cons_zero]
        have qbase : Below (b0 + 2) wz w ∧ b0 + 3 ≤ w.heap.size := H.up hu hD 0 rfl rfl rfl
        obtain ⟨h0, hz⟩ := qbase
        have qsd : Rd w sA (ss.flatMap CliM.cs) ∧ ∀ y ∈ ss, CliT w y := H.up hu hD 1 rfl rfl rfl
        obtain ⟨sr, sy⟩ := qsd
        have qn5 : ∃ s : Slc CliM, vs 5 = s.v ∧ s.xs.map CliM.x = LX ++ [X] ∧ PlJ (b0 + 3) (b0 + 2) rt tk xv g.v m.v k.v w s m k := H.up hu hD 9 rfl rfl rfl
        obtain ⟨s5, e5, x5, p5⟩ := qn5
        have f6 : vs 6 = .pointer (some ⟨b0 + 2, 3, none⟩) := H.up hu hD 10 rfl rfl rfl
        have HDD := Lib.hid hD
        have HH := Lib.hid H
        have dp : w.cell? ⟨b0 + 2, 3, none⟩ = _ := p5.blk.cell 3
        simp only [List.getElem?_cons_zero, List.getElem?_cons_succ] at dp
        have fp := p5.blk.frozen 3
        obtain ⟨A7, n7, c7, hv7⟩ : ∃ (A : Option Addr) (n c : Nat), s5.v = .slice A n c := ⟨_, _, _, rfl⟩
        rw [hv7] at e5
        have HV7 := Lib.hid hv7
        clear hv7
        have hKK := Lib.hid hK
        clear hK H hu hD
        go_simp
        have hPN := p5.set_ (i := 3) (u := .slice A7 n7 c7) (gv' := .slice A7 n7 c7) (mv' := m.v) (kv' := k.v) rfl
        refine hKK.out _ _ (Go.Dwo.fa_cons (fun _ _ _ h => ⟨h.1.setCell (p := ⟨b0 + 2, 3, none⟩) (Nat.le_refl _) _, by simp only [World.setCell, Array.size_modify]; exact h.2⟩) <|
            Go.Dwo.fa_cons (fun _ _ _ h => ⟨rd_set h.1 (fun b o hb => (HAP.out b o hb).2), fun y hy => (h.2 y hy).kp ((KpT.refl _ _).setCell ⟨_, _, p5.blk⟩ (by decide))⟩) <|
            Go.Dwo.fa_cons (fun _ hn _ _ => absurd (show (7 : Nat) ∈ ([5, 7] : List Nat) from by decide) hn) <|
            Go.Dwo.fa_cons (fun _ hn _ _ => absurd (show (7 : Nat) ∈ ([5, 7] : List Nat) from by decide) hn) <|
            Go.Dwo.fa_cons (fun _ _ _ h => h) <|
            Go.Dwo.fa_cons (fun _ _ _ h => h) <|
            Go.Dwo.fa_cons (fun _ _ _ h => h) <|
            Go.Dwo.fa_cons (fun _ _ _ h => (by obtain ⟨y, h1, h2, h3⟩ := h; exact ⟨y, h1, h2, h3.kp ((KpT.refl _ _).setCell ⟨_, _, p5.blk⟩ (by decide))⟩)) <|
            Go.Dwo.fa_cons (fun _ hn _ _ => absurd (show (7 : Nat) ∈ ([5, 7] : List Nat) from by decide) hn) <|
            Go.Dwo.fa_cons (fun _ hn _ _ => absurd (show (7 : Nat) ∈ ([7] : List Nat) from by decide) hn) <|
            Go.Dwo.fa_cons (fun _ _ _ h => h) <|
            Go.Dwo.fa_cons (fun hn _ _ _ => absurd (show (7 : Nat) ∈ ([5, 7] : List Nat) from by decide) hn) <| Go.Dwo.fa_nil _) ?_
        exact Go.Dwo.fa_pick [11] (by kernel_rfl) <| Go.Dwo.fa_cons (fun _ => ⟨s5, e5.trans HV7.out.symm, x5, (by rw [HV7.out]; exact hPN)⟩) <| Go.Dwo.fa_nil _
      · intro vs w H
        have qbase : Below (b0 + 2) wz w ∧ b0 + 3 ≤ w.heap.size := Go.Dwo.fa_at H 0 rfl rfl
        obtain ⟨h0, hz⟩ := qbase
        have qsd : Rd w sA (ss.flatMap CliM.cs) ∧ ∀ y ∈ ss, CliT w y := Go.Dwo.fa_at H 1 rfl rfl
        obtain ⟨sr, sy⟩ := qsd
        have f0 : vs 0 = .pointer (some ⟨b0 + 2, 3, none⟩) := Go.Dwo.fa_at H 4 rfl rfl
        have f1 : vs 1 = g.v := Go.Dwo.fa_at H 5 rfl rfl
        have f2 : vs 2 = .agg #[.string xm, .int .i64 xc, .int .i64 xf, .int .i64 xt, .int .i64 xa, .int .i64 xl, .slice EA en ed] := Go.Dwo.fa_at H 6 rfl rfl
        have qn3 : ∃ y : CliM, vs 3 = y.v ∧ y.x = X ∧ CliT w y := Go.Dwo.fa_at H 7 rfl rfl
        obtain ⟨⟨ym, yc, yf, yt, ya, yl, ⟨YA, yd, yes⟩⟩, e3, x3, t3⟩ := qn3
        have f6 : vs 6 = .pointer (some ⟨b0 + 2, 3, none⟩) := Go.Dwo.fa_at H 10 rfl rfl
        have qn7 : ∃ s : Slc CliM, vs 5 = s.v ∧ s.xs.map CliM.x = LX ++ [X] ∧ PlJ (b0 + 3) (b0 + 2) rt tk xv s.v m.v k.v w s m k := Go.Dwo.fa_at H 11 rfl rfl
        obtain ⟨s7, e7, x7, p7⟩ := qn7
        clear H
        simp only [Nat.zero_add, Nat.reduceAdd]
        have HG7 : Hid (Below (b0 + 2) wz w ∧ b0 + 3 ≤ w.heap.size) := ⟨h0, hz⟩
        have HP7 : Hid (PlJ (b0 + 3) (b0 + 2) rt tk xv s7.v m.v k.v w s7 m k) := p7
        have HX7 : Hid (s7.xs.map CliM.x = LX ++ [X]) := x7
        have HSW : Hid (Rd w sA (ss.flatMap CliM.cs) ∧ ∀ y ∈ ss, CliT w y) := ⟨sr, sy⟩
        clear sr sy
        simp only [f0, f1, f2, f6, e7]
        clear f0 f1 f2 f6 e7 h0 hz p7 x7
        obtain ⟨dA, dn, dc, dv⟩ : ∃ (A : Option Addr) (n c : Nat), m.v = .slice A n c := ⟨_, _, _, rfl⟩
        have dm : w.cell? ⟨b0 + 2, 4, none⟩ = some m.v := HP7.out.blk.cell 4
        have fm : w.frozen? ⟨b0 + 2, 4, none⟩ = false := HP7.out.blk.frozen 4
        have hml : m.xs.length ≤ 900 := HMN.out
        have hsl : sn ≤ 3 := HSL.out
        have hbz : b0 + 3 ≤ w.heap.size := HG7.out.2
        clear dv
        go_wp2_with (at_builtin; refine wpList_append_rdl (by rfl) (.tmp 44) (.tmp 45) 22 (by rfl) (b0 + 3) 39 ii _ 7 80 Tryz.underlying22 HII.out.1 HII.out.2.1 HII.out.2.2.1 HII.out.2.2.2 rfl (by decide) m.v m.xs.length (m.xs.flatMap CliM.cs) (by rfl) HP7.out.om sA sn sc (ss.flatMap CliM.cs) (by rfl) HFL.out HSW.out.1 (cli_oneN ss) (by unfold maxLen; omega) (by omega) hbz ?_; intro v9 w9 hown9 hg9 hat9; obtain ⟨A9, c9, rfl⟩ := slice_of_own hown9; have hd := np_made HP7.out (by omega) HSW.out.2 HSN.out hown9 hg9 hat9; have HD := Lib.hid hd; have hb9 := (HD.out.1).blk; have dm9 : w9.cell? ⟨b0 + 2, 4, none⟩ = some m.v := hb9.cell 4; have fm9 : w9.frozen? ⟨b0 + 2, 4, none⟩ = false := hb9.frozen 4; have HB9 : Hid (Below (b0 + 2) wz w9 ∧ b0 + 3 ≤ w9.heap.size) := ⟨HG7.out.1.grown hg9 (by omega) (fun j hj => by have := (HP7.out.om.lt j hj).1; omega), Nat.le_trans hbz hg9.size⟩; clear hown9 hg9 hat9 hd hb9 dm fm)
        have HPF := Lib.hid (HD.out.1.set_ (i := 4) (u := .slice A9 (m.xs.length + sn) c9) (gv' := s7.v) (mv' := .slice A9 (m.xs.length + sn) c9) (kv' := k.v) rfl)
        have HBF : Hid (Below (b0 + 2) wz (w9.setCell ⟨b0 + 2, 4, none⟩ (.slice A9 (m.xs.length + sn) c9)) ∧ b0 + 3 ≤ (w9.setCell ⟨b0 + 2, 4, none⟩ (.slice A9 (m.xs.length + sn) c9)).heap.size) := ⟨HB9.out.1.setCell (p := ⟨b0 + 2, 4, none⟩) (Nat.le_refl _) _, by simp only [World.setCell, Array.size_modify]; exact HB9.out.2⟩
        have HVV := Lib.hid HD.out.2
        obtain ⟨wF, hwF⟩ : ∃ wF, w9.setCell ⟨b0 + 2, 4, none⟩ (.slice A9 (m.xs.length + sn) c9) = wF := ⟨_, rfl⟩
        rw [hwF] at HPF HBF
        clear dm9 fm9 HD
        go_wp2_with fail
        rw [hwF]
        go_roundw
        case rel => exact ⟨i + 1, s7, ⟨A9, c9, m.xs ++ ss⟩, k, by omega, by go_num, HBF, (by have h := HPF.out; rw [← HVV.out, ← HXV.out] at h; exact h), HNXG.out s7.xs HX7.out⟩
        case measure => simp [intOf]; omega
end Go.Proofs.YteaghgbpcpileaaGreatDoor
/- The contract of slices.Clone at []api.Clip. -/
namespace Go.Proofs.YteaghgbpcpileaaGreatDoor
open Go.RowKit Go.Dw

theorem info_clCl : (Tryz.prog.info? 39).map (fun i => (i.zero, i.size, i.bytes)) = some (some (.agg #[.string ⟨#[]⟩, .int .i64 0, .int .i64 0, .int .i64 0, .int .i64 0, .int .i64 0, .slice none 0 0]), 7, 80) := by kernel_rfl
set_option maxRecDepth 100000 in
set_option maxHeartbeats 2000000 in
theorem clone_Cl (A : Option Addr) (n c : Nat) (cs : List Value) (w : World) (h : Rd w A cs) (hl : cs.length = n * 7) (h1 : ∀ u ∈ cs, u.oneCell' = true) (hbig : n * 80 ≤ 140737488355328) :
    Calls Tryz.prog 39 #[.slice A n c] w fun e w' => ∃ A' c', e = .returned (.slice A' n c') ∧ w'.ownsRow w.heap.size 39 7 (.slice A' n c') n cs ∧ Below w.heap.size w w' := by
  have q22 : ∀ (w : World) (a : Option Addr) (n c n' c' : Nat), (binOp .eql 22 (.slice a n c) (.slice none n' c')).run Tryz.prog w = .ok (.bool a.isNone) w := fun w a n c n' c' => Lib.run_eql_slice_nil w _ _ a n c n' c' Tryz.underlying22
  cases A with
  | none =>
    have hn : n = 0 ∧ cs = [] := by
      rcases h with h | ⟨b, off, h, _⟩
      · subst h
        simp only [List.length_nil] at hl
        exact ⟨by omega, rfl⟩
      · cases h
    obtain ⟨rfl, rfl⟩ := hn
    go_enter Tryz.func39, Tryz.ntmps39
    go_wp2
    go_ret
    exact ⟨none, 0, rfl, World.ownsRow_nil _ _ _ _, Below.refl _ _⟩
  | some ad =>
    obtain ⟨i0, hi, hz0, hz1, hz2⟩ := info_parts info_clCl
    have u22 : ∀ w, Sem.run Tryz.prog (underlying 22) w = .ok (TypeDesc.slice 39) w := run_underlying Tryz.underlying22
    have HA : Hid (∀ j u, cs[j]? = some u → (w.alloc (.cells #[] 39)).cell? (ad.add j) = some u) := by
      intro j u hu
      rcases h with h | ⟨b, off, h, hb, hc⟩
      · subst h; simp at hu
      · injection h with h
        subst h
        have hadd : (⟨b, off, none⟩ : Addr).add j = ⟨b, off + j, none⟩ := by unfold Addr.add; split <;> simp_all
        rw [hadd]
        exact Lib.cell?_alloc_some _ (hc j u hu)
    have HL := Lib.hid hl
    clear h hl
    go_enter Tryz.func39, Tryz.ntmps39
    go_wp2_with (at_builtin; refine wpList_append_own _ rfl _ _ 22 rfl w.heap.size 39 i0 _ 7 80 Tryz.underlying22 hi hz0 hz1 hz2 rfl (by decide) _ _ _ rfl (World.ownsRow_made w #[] 0 (Nat.le_refl _) (Nat.zero_le _) rfl) ad n c cs rfl HL.out HA.out h1 (by unfold maxLen; omega) (by omega) (by simp) ?_)
    intro v' w1 hown hgrow hnil
    go_wp2
    go_ret
    obtain ⟨A', c', rfl⟩ := slice_of_own hown
    refine ⟨A', c', rfl, ?_, ?_⟩
    · exact hown
    · exact ((Below.refl _ w).alloc (Nat.le_refl _) _).grown hgrow (by simp) (by intro k hk; simp [Value.ownBlock] at hk; omega)
end Go.Proofs.YteaghgbpcpileaaGreatDoor
/- Generated (gen/pst.py): a plan's steps. -/
namespace Go.Proofs.YteaghgbpcpileaaGreatDoor
open Go.RowKit Go.Dw
attribute [local go_sem ↓] Go.wp_at_zero Go.wp_at_succ
attribute [local go_sem] Go.Dwo.Oper.tame

def pstF (w0 : World) (b0 : Nat) (rt tk : Int) (XA : Option Addr) (XN XD : Nat) (gv : Value) (mA : Option Addr) (mn mc : Nat) (kA : Option Addr) (kn kc : Nat) (LX LY : List Cli) : List Go.Dwo.Fact := [
  ⟨[], [], fun _ W => Gq w0 W ∧ b0 + 1 ≤ W.heap.size⟩,
  ⟨[], [10], fun _ W => Blk W b0 50 [.int .i64 rt, .int .i64 tk, .slice XA XN XD, gv, .slice mA mn mc, .slice kA kn kc]⟩,
  ⟨[0], [], fun vs _ => vs 0 = .pointer (some ⟨b0, 5, none⟩)⟩,
  ⟨[1], [], fun vs _ => vs 1 = .slice kA kn kc⟩,
  ⟨[3], [], fun vs _ => vs 3 = .pointer (some ⟨b0, 4, none⟩)⟩,
  ⟨[4], [], fun vs _ => vs 4 = .slice mA mn mc⟩,
  ⟨[8], [], fun vs _ => vs 8 = .pointer (some ⟨b0, 0, none⟩)⟩,
  ⟨[9], [], fun vs _ => vs 9 = .pointer (some ⟨b0, 2, none⟩)⟩,
  ⟨[2], [6, 7, 10], fun vs W => ∃ A q, ∃ l : List CliM, vs 2 = .slice A l.length q ∧ W.ownsRow (b0 + 1) 39 7 (.slice A l.length q) l.length (l.flatMap CliM.cs) ∧ l.map CliM.x = LX ∧ ∀ y ∈ l, CliT W y⟩,
  ⟨[5], [6, 7, 10], fun vs W => ∃ A q, ∃ l : List CliM, vs 5 = .slice A l.length q ∧ W.ownsRow (b0 + 1) 39 7 (.slice A l.length q) l.length (l.flatMap CliM.cs) ∧ l.map CliM.x = LY ∧ ∀ y ∈ l, CliT W y⟩,
  ⟨[2, 5], [6, 7, 10], fun vs _ => ∀ b, (vs 5).ownBlock = some b → (vs 2).ownBlock ≠ some b⟩,
  ⟨[6], [7, 10], fun vs W => ∃ A q, ∃ l : List CliM, vs 6 = .slice A l.length q ∧ W.ownsRow (b0 + 1) 39 7 (.slice A l.length q) l.length (l.flatMap CliM.cs) ∧ l.map CliM.x = LX ++ LY ∧ ∀ y ∈ l, CliT W y⟩,
  ⟨[7], [10], fun vs W => ∃ A q, ∃ l : List CliM, vs 7 = .slice A l.length q ∧ W.ownsRow (b0 + 1) 39 7 (.slice A l.length q) l.length (l.flatMap CliM.cs) ∧ l.map CliM.x = srtC (LX ++ LY) ∧ ∀ y ∈ l, CliT W y⟩,
  ⟨[7, 10], [], fun vs W => ∃ A q, ∃ l : List CliM, vs 7 = .slice A l.length q ∧ Blk W b0 50 [.int .i64 rt, .int .i64 tk, .slice A l.length q, gv, .slice mA mn mc, .slice kA kn kc] ∧ W.ownsRow (b0 + 1) 39 7 (.slice A l.length q) l.length (l.flatMap CliM.cs) ∧ l.map CliM.x = srtC (LX ++ LY) ∧ ∀ y ∈ l, CliT W y⟩]
theorem pstK (w0 : World) (b0 : Nat) (rt tk : Int) (XA : Option Addr) (XN XD : Nat) (gv : Value) (mA : Option Addr) (mn mc : Nat) (kA : Option Addr) (kn kc : Nat) (LX LY : List Cli) : ∀ f ∈ pstF w0 b0 rt tk XA XN XD gv mA mn mc kA kn kc LX LY, ∀ vs w w', Gq w w' → f.says vs w → f.says vs w' :=
  Go.Dwo.fa_cons (fun _ _ _ hg h => ⟨h.1.trans hg, Nat.le_trans h.2 (Below.size hg)⟩) <|
  Go.Dwo.fa_cons (fun _ _ _ hg h => blkq h hg) <|
  Go.Dwo.fa_cons (fun _ _ _ _ h => h) <|
  Go.Dwo.fa_cons (fun _ _ _ _ h => h) <|
  Go.Dwo.fa_cons (fun _ _ _ _ h => h) <|
  Go.Dwo.fa_cons (fun _ _ _ _ h => h) <|
  Go.Dwo.fa_cons (fun _ _ _ _ h => h) <|
  Go.Dwo.fa_cons (fun _ _ _ _ h => h) <|
  Go.Dwo.fa_cons (fun _ _ _ hg h => (by obtain ⟨A, q, l, h1, h2, h3, h4⟩ := h; exact ⟨A, q, l, h1, own_belowL h2 hg, h3, fun y hy => (h4 y hy).gq hg⟩)) <|
  Go.Dwo.fa_cons (fun _ _ _ hg h => (by obtain ⟨A, q, l, h1, h2, h3, h4⟩ := h; exact ⟨A, q, l, h1, own_belowL h2 hg, h3, fun y hy => (h4 y hy).gq hg⟩)) <|
  Go.Dwo.fa_cons (fun _ _ _ _ h => h) <|
  Go.Dwo.fa_cons (fun _ _ _ hg h => (by obtain ⟨A, q, l, h1, h2, h3, h4⟩ := h; exact ⟨A, q, l, h1, own_belowL h2 hg, h3, fun y hy => (h4 y hy).gq hg⟩)) <|
  Go.Dwo.fa_cons (fun _ _ _ hg h => (by obtain ⟨A, q, l, h1, h2, h3, h4⟩ := h; exact ⟨A, q, l, h1, own_belowL h2 hg, h3, fun y hy => (h4 y hy).gq hg⟩)) <|
  Go.Dwo.fa_cons (fun _ _ _ hg h => (by obtain ⟨A, q, l, h1, h2, h3, h4, h5⟩ := h; exact ⟨A, q, l, h1, blkq h2 hg, own_belowL h3 hg, h4, fun y hy => (h5 y hy).gq hg⟩)) <|
  Go.Dwo.fa_nil _
/-- the steps that were laid so far -/
def PsJ (b0 : Nat) (w0 : World) (cells : List Value) (v : Value) (L : List StpM) (W : World) : Prop :=
  Gq w0 W ∧ b0 + 1 ≤ W.heap.size ∧ Blk W b0 50 cells ∧ W.ownsRow (b0 + 1) 60 4 v L.length (L.flatMap StpM.cells)
theorem psj_app {b0 : Nat} {w0 W w1 : World} {cells ss : List Value} {v v' : Value} {L : List StpM} {s : StpM} {o : Obj} (h : PsJ b0 w0 cells v L W) (hb : w0.heap.size = b0) (hss : ss = s.cells) (hown : w1.ownsRow (b0 + 1) 60 4 v' (L.length + 1) (L.flatMap StpM.cells ++ ss)) (hg : (W.alloc o).grownBy w1 v.ownBlock) : PsJ b0 w0 cells v' (L ++ [s]) w1 := by
  obtain ⟨h1, h2, h3, h4⟩ := h
  have hk : ∀ k, v.ownBlock = some k → b0 + 1 ≤ k := fun k e => (h4.lt k e).1
  refine ⟨Below.grown (h1.alloc o) hg (by have := Below.size h1; simp; omega) (fun k e => by have := hk k e; omega), Nat.le_trans (by simp; omega) hg.size, blk_grown2 (blkq h3 ((Gq.refl _).alloc o)) hg (fun e => by have := hk _ e.symm; omega), ?_⟩
  rw [List.length_append, List.flatMap_append, List.flatMap_cons, List.flatMap_nil, List.append_nil, ← hss]
  exact hown
theorem builtPS (kd : Int) (A : Option Addr) (n c : Nat) : Tryz.prog.built 60 [(0, .int .i64 kd), (1, .slice A n c)] = some #[.int .i64 kd, .slice A n c, .int .i64 0, .int .i64 0] := by kernel_rfl
theorem runPS (kd : Int) (A : Option Addr) (n c : Nat) (w : World) : (Instr.build 60 #[(0, .int .i64 kd), (1, .slice A n c)]).run Tryz.prog w = .ok (.agg #[.int .i64 kd, .slice A n c, .int .i64 0, .int .i64 0]) w := run_build w _ _ _ (builtPS kd A n c)
theorem builtPT (kd a b : Int) : Tryz.prog.built 60 [(0, .int .i64 kd), (2, .int .i64 a), (3, .int .i64 b)] = some #[.int .i64 kd, .slice none 0 0, .int .i64 a, .int .i64 b] := by kernel_rfl
theorem runPT (kd a b : Int) (w : World) : (Instr.build 60 #[(0, .int .i64 kd), (2, .int .i64 a), (3, .int .i64 b)]).run Tryz.prog w = .ok (.agg #[.int .i64 kd, .slice none 0 0, .int .i64 a, .int .i64 b]) w := run_build w _ _ _ (builtPT kd a b)
set_option maxRecDepth 100000 in
set_option maxHeartbeats 16000000 in
theorem psteps_any (rt tk a b : Int) (XA : Option Addr) (XN XD gP B : Nat) (g m k : Slc CliM) (w0 : World) (hrt : inI64 rt) (htk : inI64 tk) (ha : inI64 a) (hbi : inI64 b) (hpl : PlJ B gP rt tk (.slice XA XN XD) g.v m.v k.v w0 g m k)
    (hgl : g.xs.length ≤ 300) (hml : m.xs.length ≤ 900) (hkl : k.xs.length ≤ 300) (hge : ∀ y ∈ g.xs, y.e.xs.length ≤ 1000000) (hme : ∀ y ∈ m.xs, y.e.xs.length ≤ 1000000)
    (hs : ∀ y ∈ k.xs.map CliM.x ++ m.xs.map CliM.x, a ≤ y.at_ → inI64 (y.at_ + b)) :
    Calls Tryz.prog 24 #[.agg #[.int .i64 rt, .int .i64 tk, .slice XA XN XD, g.v, m.v, k.v], .int .i64 a, .int .i64 b] w0 (TurR 1048576 (plaR isNm 1000000 rt tk ⟨k.xs.map CliM.x, g.xs.map CliM.x, m.xs.map CliM.x⟩ a b) w0) := by
  obtain ⟨gA, gc, gs⟩ := g
  obtain ⟨mA, mc, ms⟩ := m
  obtain ⟨kA, kc, ks⟩ := k
  simp only at hgl hml hkl hge hme hs
  obtain ⟨r, hr⟩ : ∃ r, plaR isNm 1000000 rt tk ⟨ks.map CliM.x, gs.map CliM.x, ms.map CliM.x⟩ a b = r := ⟨_, rfl⟩
  obtain ⟨LX, hLX⟩ : ∃ L, ks.map CliM.x = L := ⟨_, rfl⟩
  obtain ⟨LY, hLY⟩ : ∃ L, ms.map CliM.x = L := ⟨_, rfl⟩
  obtain ⟨LG, hLG⟩ : ∃ L, gs.map CliM.x = L := ⟨_, rfl⟩
  have HLL : Hid (LX.length ≤ 300 ∧ LY.length ≤ 900) := ⟨by rw [← hLX, List.length_map]; exact hkl, by rw [← hLY, List.length_map]; exact hml⟩
  have HGE := Lib.hid hge
  have HME := Lib.hid hme
  have HPL := Lib.hid hpl
  have HSH0 := Lib.hid hs
  have HTK : Hid (inI64 rt ∧ inI64 tk ∧ inI64 a ∧ inI64 b) := ⟨hrt, htk, ha, hbi⟩
  rw [hLX, hLY] at HSH0
  have HRR : Hid (plaR isNm 1000000 rt tk ⟨LX, LG, LY⟩ a b = r) := by rw [← hLX, ← hLY, ← hLG]; exact hr
  have HRD : Hid (∀ W, Gq w0 W → (Rd W gA (gs.flatMap CliM.cs) ∧ ∀ y ∈ gs, CliT W y) ∧ (Rd W mA (ms.flatMap CliM.cs) ∧ ∀ y ∈ ms, CliT W y) ∧ (Rd W kA (ks.flatMap CliM.cs) ∧ ∀ y ∈ ks, CliT W y)) := fun W hW => by
    have h := hpl.gq hW
    exact ⟨⟨Rd.of_own h.og, h.tg⟩, ⟨Rd.of_own h.om, h.tm⟩, Rd.of_own h.ok, h.tt⟩
  have HWX0 : Hid (∀ W, Gq w0 W → Calls Tryz.prog 39 #[.slice kA ks.length kc] W fun e w' => ∃ A' c', ∃ ys : List CliM, e = .returned (.slice A' ys.length c') ∧ w'.ownsRow W.heap.size 39 7 (.slice A' ys.length c') ys.length (ys.flatMap CliM.cs) ∧ ys.map CliM.x = LX ∧ (∀ y ∈ ys, CliT w' y) ∧ Gq W w') := fun W hW => by
    have h1 := (HRD.out W hW).2.2
    have := clone_Cl kA ks.length kc (ks.flatMap CliM.cs) W h1.1 (flat_len CliM.cs 7 (fun _ => rfl) ks) (cli_oneN ks) (by omega)
    exact this.mono fun e w' ⟨A', c', h2, h3, h4⟩ => ⟨A', c', ks, h2, h3, hLX, fun y hy => (h1.2 y hy).gq h4, h4⟩
  have HWY0 : Hid (∀ W, Gq w0 W → Calls Tryz.prog 29 #[.slice mA ms.length mc] W fun e w' => ∃ A' c', ∃ ys : List CliM, e = .returned (.slice A' ys.length c') ∧ w'.ownsRow W.heap.size 39 7 (.slice A' ys.length c') ys.length (ys.flatMap CliM.cs) ∧ ys.map CliM.x = LY ∧ (∀ y ∈ ys, CliT w' y) ∧ Gq W w') := fun W hW => by
    have h1 := (HRD.out W hW).2.1
    have := owned_any mA mc ms W h1.1 (fun y hy => (h1.2 y hy).1) (fun y hy => Nat.le_trans (HME.out y hy) (by decide)) (by omega)
    rw [hLY] at this
    exact this.mono fun e w' ⟨A', c', l, h1, h2, h3, h4, h5⟩ => ⟨A', c', l, h1, h3, h2, h4, h5⟩
  simp only [Slc.v]
  rw [hr]
  obtain ⟨gn, hgn⟩ : ∃ n : Nat, gs.length = n := ⟨_, rfl⟩
  obtain ⟨mn, hmn⟩ : ∃ n : Nat, ms.length = n := ⟨_, rfl⟩
  obtain ⟨kn, hkn⟩ : ∃ n : Nat, ks.length = n := ⟨_, rfl⟩
  have HNN : Hid (gs.length = gn ∧ ms.length = mn ∧ ks.length = kn) := ⟨hgn, hmn, hkn⟩
  have HXX : Hid (ks.map CliM.x = LX ∧ gs.map CliM.x = LG ∧ ms.map CliM.x = LY) := ⟨hLX, hLG, hLY⟩
  have HLN : Hid (gn ≤ 300 ∧ mn ≤ 900 ∧ kn ≤ 300) := ⟨by show _ ≤ _; omega, by omega, by omega⟩
  have HWX := HWX0
  have HWY := HWY0
  rw [hkn] at HWX
  rw [hmn] at HWY
  rw [hgn, hmn, hkn]
  clear HWX0 HWY0 hgn hmn hkn hLX hLY hLG hr hge hme hpl hs hgl hml hkl hrt htk ha hbi
  obtain ⟨ii, hii, hzi0, hzi1, hzi2⟩ := info_parts infoClO
  have HII := Lib.hid (And.intro hii (And.intro hzi0 (And.intro hzi1 hzi2)))
  obtain ⟨ij, hij, hzj0, hzj1, hzj2⟩ := info_parts infoStp
  have HIJ := Lib.hid (And.intro hij (And.intro hzj0 (And.intro hzj1 hzj2)))
  clear hii hzi0 hzi1 hzi2 hij hzj0 hzj1 hzj2
  obtain ⟨b0, hb0⟩ : ∃ b, w0.heap.size = b := ⟨_, rfl⟩
  obtain ⟨gv, hgv⟩ : ∃ v : Value, Value.slice gA gn gc = v := ⟨_, rfl⟩
  have HGV := Lib.hid hgv
  rw [hgv]
  obtain ⟨wz, hwz⟩ : ∃ wz, wz = w0.alloc (.cells #[.int .i64 rt, .int .i64 tk, .slice XA XN XD, gv, .slice mA mn mc, .slice kA kn kc] 50) := ⟨_, rfl⟩
  have HKB : Hid (Blk wz b0 50 [.int .i64 rt, .int .i64 tk, .slice XA XN XD, gv, .slice mA mn mc, .slice kA kn kc]) := by rw [hwz, ← hb0]; exact Blk.new w0 _ _
  have HGZ : Hid (Gq w0 wz) := by rw [hwz]; exact (Gq.refl _).alloc _
  have HB0 : Hid (w0.heap.size = b0) := hb0
  have HBASE : Hid (Gq w0 wz.drew ∧ b0 + 1 ≤ wz.drew.heap.size) := ⟨HGZ.out.drew, by show b0 + 1 ≤ wz.heap.size; rw [hwz]; simp; omega⟩
  have HBA : Hid (Blk wz.drew b0 50 [.int .i64 rt, .int .i64 tk, .slice XA XN XD, gv, .slice mA mn mc, .slice kA kn kc]) := blkq HKB.out (Gq.refl _).drew
  have HWZ := Lib.hid hwz
  clear hwz hgv
  go_enter Tryz.func24, Tryz.ntmps24
  go_upto_region 1 with (fail)
  rw [← HWZ.out]
  try simp only [hb0]
  clear hb0
  refine Go.Dwo.wp_region_factsK _ (by kernel_rfl) [[], [0], [0, 1], [], [3], [3, 4], [0, 1, 2, 3, 4, 5], [0, 1, 2, 3, 4, 5, 6], [], [8], [0, 1, 2, 3, 4, 5, 6, 7, 8, 9]] (by kernel_rfl) (by kernel_rfl) [some 10, some 11, some 12, some 13, some 14, some 15, some 16, some 17, some 18, some 19, none] (by kernel_rfl) (fun vs => by simp only [Go.Dwo.putA, Go.Dwo.putL, if_true, Act.put, List.setIfInBounds_toArray, List.set_cons_zero, List.set_cons_succ]; rfl) (pstF w0 b0 rt tk XA XN XD gv mA mn mc kA kn kc LX LY) (by kernel_rfl) ?_ ⟨?_, ?_, ?_, ?_, ?_, ?_, ?_, ?_, ?_, ?_, ?_, trivial⟩ ?_
  · exact Go.Dwo.fa_zero [0, 1] (by kernel_rfl) <| Go.Dwo.fa_cons (HBASE.out) <| Go.Dwo.fa_cons (HBA.out) <| Go.Dwo.fa_nil _
  · -- 0: Op.fieldAddr 50 t3 3
    intro Ls vs w Kk H hu hD hK
    replace hu : ∀ k ∈ ([] : List Nat), Ls k = true := hu
    replace hD : ∀ k ∈ ([0, 1, 2, 6, 7, 10] : List Nat), Ls k = false := Go.Dwo.fa_cons (hD 0 (.inl rfl)) <| Go.Dwo.fa_cons (hD 1 (.inr (by decide))) <| Go.Dwo.fa_cons (hD 2 (.inr (by decide))) <| Go.Dwo.fa_cons (hD 6 (.inr (by decide))) <| Go.Dwo.fa_cons (hD 7 (.inr (by decide))) <| Go.Dwo.fa_cons (hD 10 (.inr (by decide))) <| Go.Dwo.fa_nil _
    simp only [Go.Dwo.actOf, List.getD_cons_zero]
    have qbase : Gq w0 w ∧ b0 + 1 ≤ w.heap.size := H.up hu hD 0 rfl rfl rfl
    obtain ⟨h0, hz⟩ := qbase
    have bA : Blk w b0 50 [.int .i64 rt, .int .i64 tk, .slice XA XN XD, gv, .slice mA mn mc, .slice kA kn kc] := H.up hu hD 1 rfl rfl rfl
    have hKK := Lib.hid hK
    clear hK H hu hD
    go_simp
    refine hKK.out _ _ (fun f _ _ _ _ h => h) ?_
    exact Go.Dwo.fa_pick [2] (by kernel_rfl) <| Go.Dwo.fa_cons (fun _ => rfl) <| Go.Dwo.fa_nil _
  · -- 1: Op.load 22 t10
    intro Ls vs w Kk H hu hD hK
    replace hu : ∀ k ∈ ([0] : List Nat), Ls k = true := hu
    replace hD : ∀ k ∈ ([1, 2, 6, 7, 10] : List Nat), Ls k = false := Go.Dwo.fa_cons (hD 1 (.inl rfl)) <| Go.Dwo.fa_cons (hD 2 (.inr (by decide))) <| Go.Dwo.fa_cons (hD 6 (.inr (by decide))) <| Go.Dwo.fa_cons (hD 7 (.inr (by decide))) <| Go.Dwo.fa_cons (hD 10 (.inr (by decide))) <| Go.Dwo.fa_nil _
    simp only [Go.Dwo.actOf, List.getD_cons_succ, List.getD_cons_zero]
    have qbase : Gq w0 w ∧ b0 + 1 ≤ w.heap.size := H.up hu hD 0 rfl rfl rfl
    obtain ⟨h0, hz⟩ := qbase
    have bA : Blk w b0 50 [.int .i64 rt, .int .i64 tk, .slice XA XN XD, gv, .slice mA mn mc, .slice kA kn kc] := H.up hu hD 1 rfl rfl rfl
    have f0 : vs 0 = .pointer (some ⟨b0, 5, none⟩) := H.up hu hD 2 rfl rfl rfl
    have d2 : w.cell? ⟨b0, 5, none⟩ = _ := bA.cell 5
    simp only [List.getElem?_cons_zero, List.getElem?_cons_succ] at d2
    have hKK := Lib.hid hK
    clear hK H hu hD
    go_simp
    refine hKK.out _ _ (fun f _ _ _ _ h => h) ?_
    exact Go.Dwo.fa_pick [3] (by kernel_rfl) <| Go.Dwo.fa_cons (fun _ => rfl) <| Go.Dwo.fa_nil _
  · -- 2: Op.call { value (Operand.func 39), args := #[t11], argTypes := #[22] }
    intro Ls vs w Kk H hu hD hK
    replace hu : ∀ k ∈ ([0, 1] : List Nat), Ls k = true := hu
    replace hD : ∀ k ∈ ([2, 6, 7, 10] : List Nat), Ls k = false := Go.Dwo.fa_cons (hD 2 (.inl rfl)) <| Go.Dwo.fa_cons (hD 6 (.inr (by decide))) <| Go.Dwo.fa_cons (hD 7 (.inr (by decide))) <| Go.Dwo.fa_cons (hD 10 (.inr (by decide))) <| Go.Dwo.fa_nil _
    simp only [Go.Dwo.actOf, List.getD_cons_succ, List.getD_cons_zero]
    have qbase : Gq w0 w ∧ b0 + 1 ≤ w.heap.size := H.up hu hD 0 rfl rfl rfl
    obtain ⟨h0, hz⟩ := qbase
    have bA : Blk w b0 50 [.int .i64 rt, .int .i64 tk, .slice XA XN XD, gv, .slice mA mn mc, .slice kA kn kc] := H.up hu hD 1 rfl rfl rfl
    have f1 : vs 1 = .slice kA kn kc := H.up hu hD 3 rfl rfl rfl
    have HDD := Lib.hid hD
    have HH := Lib.hid H
    have hKK := Lib.hid hK
    clear hK H hu hD
    go_simp
    refine (HWX.out w h0).mono ?_
    rintro e w' ⟨A', q', l', rfl, hown, hlx, hct, hb⟩
    refine ⟨_, rfl, hKK.out _ _ (fun f hf _ _ _ h => pstK w0 b0 rt tk XA XN XD gv mA mn mc kA kn kc LX LY f hf _ _ _ hb h) ?_⟩
    exact Go.Dwo.fa_pick [8, 10] (by kernel_rfl) <| Go.Dwo.fa_cons (fun _ => ⟨A', q', l', rfl, own_base hown hz, hlx, hct⟩) <|
        Go.Dwo.fa_cons (fun hL => (by obtain ⟨A, q, l, e5, o5, -, -⟩ := HH.out.at_ 9 rfl (fun k hk => by rw [List.mem_singleton.1 hk]; exact (hL 5 (by decide) (by decide)).1) (fun k hk => HDD.out k (by simp only [List.mem_cons, List.not_mem_nil, or_false] at hk ⊢; omega)); intro b hb he; have hb : (vs 5).ownBlock = some b := hb; rw [show vs 5 = _ from e5] at hb; have h1 := (o5.lt b hb).2; have h2 := (hown.lt b he).1; omega)) <| Go.Dwo.fa_nil _
  · -- 3: Op.fieldAddr 50 t3 2
    intro Ls vs w Kk H hu hD hK
    replace hu : ∀ k ∈ ([] : List Nat), Ls k = true := hu
    replace hD : ∀ k ∈ ([3, 4, 5, 6, 7, 10] : List Nat), Ls k = false := Go.Dwo.fa_cons (hD 3 (.inl rfl)) <| Go.Dwo.fa_cons (hD 4 (.inr (by decide))) <| Go.Dwo.fa_cons (hD 5 (.inr (by decide))) <| Go.Dwo.fa_cons (hD 6 (.inr (by decide))) <| Go.Dwo.fa_cons (hD 7 (.inr (by decide))) <| Go.Dwo.fa_cons (hD 10 (.inr (by decide))) <| Go.Dwo.fa_nil _
    simp only [Go.Dwo.actOf, List.getD_cons_succ, List.getD_cons_zero]
    have qbase : Gq w0 w ∧ b0 + 1 ≤ w.heap.size := H.up hu hD 0 rfl rfl rfl
    obtain ⟨h0, hz⟩ := qbase
    have bA : Blk w b0 50 [.int .i64 rt, .int .i64 tk, .slice XA XN XD, gv, .slice mA mn mc, .slice kA kn kc] := H.up hu hD 1 rfl rfl rfl
    have hKK := Lib.hid hK
    clear hK H hu hD
    go_simp
    refine hKK.out _ _ (fun f _ _ _ _ h => h) ?_
    exact Go.Dwo.fa_pick [4] (by kernel_rfl) <| Go.Dwo.fa_cons (fun _ => rfl) <| Go.Dwo.fa_nil _
  · -- 4: Op.load 22 t13
    intro Ls vs w Kk H hu hD hK
    replace hu : ∀ k ∈ ([3] : List Nat), Ls k = true := hu
    replace hD : ∀ k ∈ ([4, 5, 6, 7, 10] : List Nat), Ls k = false := Go.Dwo.fa_cons (hD 4 (.inl rfl)) <| Go.Dwo.fa_cons (hD 5 (.inr (by decide))) <| Go.Dwo.fa_cons (hD 6 (.inr (by decide))) <| Go.Dwo.fa_cons (hD 7 (.inr (by decide))) <| Go.Dwo.fa_cons (hD 10 (.inr (by decide))) <| Go.Dwo.fa_nil _
    simp only [Go.Dwo.actOf, List.getD_cons_succ, List.getD_cons_zero]
    have qbase : Gq w0 w ∧ b0 + 1 ≤ w.heap.size := H.up hu hD 0 rfl rfl rfl
    obtain ⟨h0, hz⟩ := qbase
    have bA : Blk w b0 50 [.int .i64 rt, .int .i64 tk, .slice XA XN XD, gv, .slice mA mn mc, .slice kA kn kc] := H.up hu hD 1 rfl rfl rfl
    have f3 : vs 3 = .pointer (some ⟨b0, 4, none⟩) := H.up hu hD 4 rfl rfl rfl
    have d2 : w.cell? ⟨b0, 4, none⟩ = _ := bA.cell 4
    simp only [List.getElem?_cons_zero, List.getElem?_cons_succ] at d2
    have hKK := Lib.hid hK
    clear hK H hu hD
    go_simp
    refine hKK.out _ _ (fun f _ _ _ _ h => h) ?_
    exact Go.Dwo.fa_pick [5] (by kernel_rfl) <| Go.Dwo.fa_cons (fun _ => rfl) <| Go.Dwo.fa_nil _
  · -- 5: Op.call { value (Operand.func 29), args := #[t14], argTypes := #[22] }
    intro Ls vs w Kk H hu hD hK
    replace hu : ∀ k ∈ ([3, 4] : List Nat), Ls k = true := hu
    replace hD : ∀ k ∈ ([5, 6, 7, 10] : List Nat), Ls k = false := Go.Dwo.fa_cons (hD 5 (.inl rfl)) <| Go.Dwo.fa_cons (hD 6 (.inr (by decide))) <| Go.Dwo.fa_cons (hD 7 (.inr (by decide))) <| Go.Dwo.fa_cons (hD 10 (.inr (by decide))) <| Go.Dwo.fa_nil _
    simp only [Go.Dwo.actOf, List.getD_cons_succ, List.getD_cons_zero]
    have qbase : Gq w0 w ∧ b0 + 1 ≤ w.heap.size := H.up hu hD 0 rfl rfl rfl
    obtain ⟨h0, hz⟩ := qbase
    have bA : Blk w b0 50 [.int .i64 rt, .int .i64 tk, .slice XA XN XD, gv, .slice mA mn mc, .slice kA kn kc] := H.up hu hD 1 rfl rfl rfl
    have f4 : vs 4 = .slice mA mn mc := H.up hu hD 5 rfl rfl rfl
    have HDD := Lib.hid hD
    have HH := Lib.hid H
    have hKK := Lib.hid hK
    clear hK H hu hD
    go_simp
    refine (HWY.out w h0).mono ?_
    rintro e w' ⟨A', q', l', rfl, hown, hlx, hct, hb⟩
    refine ⟨_, rfl, hKK.out _ _ (fun f hf _ _ _ h => pstK w0 b0 rt tk XA XN XD gv mA mn mc kA kn kc LX LY f hf _ _ _ hb h) ?_⟩
    exact Go.Dwo.fa_pick [9, 10] (by kernel_rfl) <| Go.Dwo.fa_cons (fun _ => ⟨A', q', l', rfl, own_base hown hz, hlx, hct⟩) <|
        Go.Dwo.fa_cons (fun hL => (by obtain ⟨A, q, l, e5, o5, -, -⟩ := HH.out.at_ 8 rfl (fun k hk => by rw [List.mem_singleton.1 hk]; exact (hL 2 (by decide) (by decide)).1) (fun k hk => HDD.out k (by simp only [List.mem_cons, List.not_mem_nil, or_false] at hk ⊢; omega)); intro b hb he; have he : (vs 2).ownBlock = some b := he; rw [show vs 2 = _ from e5] at he; have h1 := (o5.lt b he).2; have h2 := (hown.lt b hb).1; omega)) <| Go.Dwo.fa_nil _
  · -- 6: Op.call { builtin append, args := #[t12, t15], argTypes := #[22, 22] }
    intro Ls vs w Kk H hu hD hK
    replace hu : ∀ k ∈ ([0, 1, 2, 3, 4, 5] : List Nat), Ls k = true := hu
    replace hD : ∀ k ∈ ([6, 7, 10] : List Nat), Ls k = false := Go.Dwo.fa_cons (hD 6 (.inl rfl)) <| Go.Dwo.fa_cons (hD 7 (.inr (by decide))) <| Go.Dwo.fa_cons (hD 10 (.inr (by decide))) <| Go.Dwo.fa_nil _
    simp only [Go.Dwo.actOf, List.getD_cons_succ, List.getD_cons_zero]
    have qbase : Gq w0 w ∧ b0 + 1 ≤ w.heap.size := H.up hu hD 0 rfl rfl rfl
    obtain ⟨h0, hz⟩ := qbase
    have bA : Blk w b0 50 [.int .i64 rt, .int .i64 tk, .slice XA XN XD, gv, .slice mA mn mc, .slice kA kn kc] := H.up hu hD 1 rfl rfl rfl
    have qn2 : ∃ A q, ∃ l : List CliM, vs 2 = .slice A l.length q ∧ w.ownsRow (b0 + 1) 39 7 (.slice A l.length q) l.length (l.flatMap CliM.cs) ∧ l.map CliM.x = LX ∧ ∀ y ∈ l, CliT w y := H.up hu hD 8 rfl rfl rfl
    obtain ⟨A2, q2, l2, e2, o2, x2, t2⟩ := qn2
    have qn5 : ∃ A q, ∃ l : List CliM, vs 5 = .slice A l.length q ∧ w.ownsRow (b0 + 1) 39 7 (.slice A l.length q) l.length (l.flatMap CliM.cs) ∧ l.map CliM.x = LY ∧ ∀ y ∈ l, CliT w y := H.up hu hD 9 rfl rfl rfl
    obtain ⟨A5, q5, l5, e5, o5, x5, t5⟩ := qn5
    have n25 : ∀ b, (vs 5).ownBlock = some b → (vs 2).ownBlock ≠ some b := H.up hu hD 10 rfl rfl rfl
    have HDD := Lib.hid hD
    have HH := Lib.hid H
    have hKK := Lib.hid hK
    clear hK H hu hD
    simp only [Nat.zero_add, Nat.reduceAdd, e2, e5]
    refine Eq.mpr (if_pos rfl) ?_
    have hl2 : l2.length ≤ 300 := by have := congrArg List.length x2; rw [List.length_map] at this; have := HLL.out.1; omega
    have hl5 : l5.length ≤ 900 := by have := congrArg List.length x5; rw [List.length_map] at this; have := HLL.out.2; omega
    refine Go.Dwo.tame_append_rd (.tmp 12) (.tmp 15) 22 rfl (b0 + 1) 39 ii _ 7 80 Tryz.underlying22 HII.out.1 HII.out.2.1 HII.out.2.2.1 HII.out.2.2.2 rfl (by decide) (.slice A2 l2.length q2) l2.length (l2.flatMap CliM.cs) (by rfl) o2 A5 l5.length q5 (l5.flatMap CliM.cs) (by rfl) (flat_len CliM.cs 7 (fun _ => rfl) l5) (Rd.of_own o5) (cli_oneN l5) (by unfold maxLen; omega) (by omega) hz ?_
    intro A' c' w' hown hgr
    rw [← List.length_append, ← List.flatMap_append] at hown
    rw [← List.length_append]
    refine hKK.out _ _ (Go.Dwo.fa_cons (fun _ _ _ h => ⟨Below.grown h.1 hgr (Below.size h.1) (fun k hk => by have := (o2.lt k hk).1; have := HB0.out; omega), Nat.le_trans h.2 hgr.size⟩) <|
        Go.Dwo.fa_cons (fun _ _ _ h => blk_grown2 h hgr (fun e => by have := (o2.lt _ e.symm).1; omega)) <|
        Go.Dwo.fa_cons (fun _ _ _ h => h) <|
        Go.Dwo.fa_cons (fun _ _ _ h => h) <|
        Go.Dwo.fa_cons (fun _ _ _ h => h) <|
        Go.Dwo.fa_cons (fun _ _ _ h => h) <|
        Go.Dwo.fa_cons (fun _ _ _ h => h) <|
        Go.Dwo.fa_cons (fun _ _ _ h => h) <|
        Go.Dwo.fa_cons (fun _ hn _ _ => absurd (show (6 : Nat) ∈ ([6, 7, 10] : List Nat) from by decide) hn) <|
        Go.Dwo.fa_cons (fun _ hn _ _ => absurd (show (6 : Nat) ∈ ([6, 7, 10] : List Nat) from by decide) hn) <|
        Go.Dwo.fa_cons (fun _ hn _ _ => absurd (show (6 : Nat) ∈ ([6, 7, 10] : List Nat) from by decide) hn) <|
        Go.Dwo.fa_cons (fun hn _ _ _ => absurd (show (6 : Nat) ∈ ([6] : List Nat) from by decide) hn) <|
        Go.Dwo.fa_cons (fun _ _ hon _ => absurd (hon 7 (show (7 : Nat) ∈ ([7] : List Nat) from by decide)) (by rw [HDD.out 7 (show (7 : Nat) ∈ ([6, 7, 10] : List Nat) from by decide)]; decide)) <|
        Go.Dwo.fa_cons (fun _ _ hon _ => absurd (hon 7 (show (7 : Nat) ∈ ([7, 10] : List Nat) from by decide)) (by rw [HDD.out 7 (show (7 : Nat) ∈ ([6, 7, 10] : List Nat) from by decide)]; decide)) <| Go.Dwo.fa_nil _) ?_
    exact Go.Dwo.fa_pick [11] (by kernel_rfl) <| Go.Dwo.fa_cons (fun _ => ⟨A', c', l2 ++ l5, rfl, hown, by rw [List.map_append, x2, x5], fun y hy => by rcases List.mem_append.1 hy with hy | hy; exact (t2 y hy).kp (KpT.own o2 hgr (by decide)); exact (t5 y hy).kp (KpT.own o2 hgr (by decide))⟩) <| Go.Dwo.fa_nil _
  · -- 7: Op.call { value (Operand.func 38), args := #[t16], argTypes := #[22] }
    intro Ls vs w Kk H hu hD hK
    replace hu : ∀ k ∈ ([0, 1, 2, 3, 4, 5, 6] : List Nat), Ls k = true := hu
    replace hD : ∀ k ∈ ([7, 10] : List Nat), Ls k = false := Go.Dwo.fa_cons (hD 7 (.inl rfl)) <| Go.Dwo.fa_cons (hD 10 (.inr (by decide))) <| Go.Dwo.fa_nil _
    simp only [Go.Dwo.actOf, List.getD_cons_succ, List.getD_cons_zero]
    have qbase : Gq w0 w ∧ b0 + 1 ≤ w.heap.size := H.up hu hD 0 rfl rfl rfl
    obtain ⟨h0, hz⟩ := qbase
    have bA : Blk w b0 50 [.int .i64 rt, .int .i64 tk, .slice XA XN XD, gv, .slice mA mn mc, .slice kA kn kc] := H.up hu hD 1 rfl rfl rfl
    have qn6 : ∃ A q, ∃ l : List CliM, vs 6 = .slice A l.length q ∧ w.ownsRow (b0 + 1) 39 7 (.slice A l.length q) l.length (l.flatMap CliM.cs) ∧ l.map CliM.x = LX ++ LY ∧ ∀ y ∈ l, CliT w y := H.up hu hD 11 rfl rfl rfl
    obtain ⟨A6, q6, l6, e6, o6, x6, t6⟩ := qn6
    have HDD := Lib.hid hD
    have HH := Lib.hid H
    have hKK := Lib.hid hK
    clear hK H hu hD
    have hl6 : l6.length ≤ 1200 := by have := congrArg List.length x6; rw [List.length_map, List.length_append] at this; have := HLL.out; omega
    have HORD := Lib.hid (ordered_any (b0 + 1) (b0 + 1) A6 l6.length q6 l6 w (Nat.le_refl _) o6 rfl (by omega))
    simp only [Nat.zero_add, Nat.reduceAdd, e6]
    go_simp
    refine HORD.out.mono ?_
    rintro e w' ⟨rfl, hown, hkp', hbl⟩
    have hkp := hkp' 75 (by decide)
    have hlen : (srtF CliM.x l6).length = l6.length := (srt_perm CliM.x l6).length_eq
    refine ⟨_, rfl, hKK.out _ _ (Go.Dwo.fa_cons (fun _ _ _ h => ⟨Below.trans h.1 (Below.mono hbl (by have := HB0.out; omega)), Nat.le_trans h.2 hbl.size⟩) <|
        Go.Dwo.fa_cons (fun _ _ _ h => (hbl.block _ (by omega)).trans h) <|
        Go.Dwo.fa_cons (fun _ _ _ h => h) <|
        Go.Dwo.fa_cons (fun _ _ _ h => h) <|
        Go.Dwo.fa_cons (fun _ _ _ h => h) <|
        Go.Dwo.fa_cons (fun _ _ _ h => h) <|
        Go.Dwo.fa_cons (fun _ _ _ h => h) <|
        Go.Dwo.fa_cons (fun _ _ _ h => h) <|
        Go.Dwo.fa_cons (fun _ hn _ _ => absurd (show (7 : Nat) ∈ ([6, 7, 10] : List Nat) from by decide) hn) <|
        Go.Dwo.fa_cons (fun _ hn _ _ => absurd (show (7 : Nat) ∈ ([6, 7, 10] : List Nat) from by decide) hn) <|
        Go.Dwo.fa_cons (fun _ hn _ _ => absurd (show (7 : Nat) ∈ ([6, 7, 10] : List Nat) from by decide) hn) <|
        Go.Dwo.fa_cons (fun _ hn _ _ => absurd (show (7 : Nat) ∈ ([7, 10] : List Nat) from by decide) hn) <|
        Go.Dwo.fa_cons (fun hn _ _ _ => absurd (show (7 : Nat) ∈ ([7] : List Nat) from by decide) hn) <|
        Go.Dwo.fa_cons (fun hn _ _ _ => absurd (show (7 : Nat) ∈ ([7, 10] : List Nat) from by decide) hn) <| Go.Dwo.fa_nil _) ?_⟩
    exact Go.Dwo.fa_pick [12, 13] (by kernel_rfl) <| Go.Dwo.fa_cons (fun _ => ⟨A6, q6, srtF CliM.x l6, by rw [hlen]; rfl, by rw [hlen]; exact hown, by rw [← x6]; exact srt_map id CliM.x l6, fun y hy => (t6 y ((srt_perm CliM.x l6).mem_iff.1 hy)).kp hkp⟩) <|
        Go.Dwo.fa_cons (fun hL => absurd (show (7 : Nat) ∈ ([0, 1, 2, 3, 4, 5, 6, 7, 8, 9] : List Nat) from by decide) (hL 10 (show (10 : Nat) ∈ ([7, 10] : List Nat) from by decide) (show (10 : Nat) ≠ 7 from by decide)).2) <| Go.Dwo.fa_nil _
  · -- 8: Op.fieldAddr 50 t3 0
    intro Ls vs w Kk H hu hD hK
    replace hu : ∀ k ∈ ([] : List Nat), Ls k = true := hu
    replace hD : ∀ k ∈ ([8, 9, 10] : List Nat), Ls k = false := Go.Dwo.fa_cons (hD 8 (.inl rfl)) <| Go.Dwo.fa_cons (hD 9 (.inr (by decide))) <| Go.Dwo.fa_cons (hD 10 (.inr (by decide))) <| Go.Dwo.fa_nil _
    simp only [Go.Dwo.actOf, List.getD_cons_succ, List.getD_cons_zero]
    have qbase : Gq w0 w ∧ b0 + 1 ≤ w.heap.size := H.up hu hD 0 rfl rfl rfl
    obtain ⟨h0, hz⟩ := qbase
    have bA : Blk w b0 50 [.int .i64 rt, .int .i64 tk, .slice XA XN XD, gv, .slice mA mn mc, .slice kA kn kc] := H.up hu hD 1 rfl rfl rfl
    have hKK := Lib.hid hK
    clear hK H hu hD
    go_simp
    refine hKK.out _ _ (fun f _ _ _ _ h => h) ?_
    exact Go.Dwo.fa_pick [6] (by kernel_rfl) <| Go.Dwo.fa_cons (fun _ => rfl) <| Go.Dwo.fa_nil _
  · -- 9: Op.fieldAddr 24 t18 2
    intro Ls vs w Kk H hu hD hK
    replace hu : ∀ k ∈ ([8] : List Nat), Ls k = true := hu
    replace hD : ∀ k ∈ ([9, 10] : List Nat), Ls k = false := Go.Dwo.fa_cons (hD 9 (.inl rfl)) <| Go.Dwo.fa_cons (hD 10 (.inr (by decide))) <| Go.Dwo.fa_nil _
    simp only [Go.Dwo.actOf, List.getD_cons_succ, List.getD_cons_zero]
    have qbase : Gq w0 w ∧ b0 + 1 ≤ w.heap.size := H.up hu hD 0 rfl rfl rfl
    obtain ⟨h0, hz⟩ := qbase
    have bA : Blk w b0 50 [.int .i64 rt, .int .i64 tk, .slice XA XN XD, gv, .slice mA mn mc, .slice kA kn kc] := H.up hu hD 1 rfl rfl rfl
    have f8 : vs 8 = .pointer (some ⟨b0, 0, none⟩) := H.up hu hD 6 rfl rfl rfl
    have hKK := Lib.hid hK
    clear hK H hu hD
    go_simp
    refine hKK.out _ _ (fun f _ _ _ _ h => h) ?_
    exact Go.Dwo.fa_pick [7] (by kernel_rfl) <| Go.Dwo.fa_cons (fun _ => rfl) <| Go.Dwo.fa_nil _
  · -- 10: Op.store 22 t19 t17
    intro Ls vs w Kk H hu hD hK
    replace hu : ∀ k ∈ ([0, 1, 2, 3, 4, 5, 6, 7, 8, 9] : List Nat), Ls k = true := hu
    replace hD : ∀ k ∈ ([10] : List Nat), Ls k = false := Go.Dwo.fa_cons (hD 10 (.inl rfl)) <| Go.Dwo.fa_nil _
    simp only [Go.Dwo.actOf, List.getD_cons_succ, List.getD_cons_zero]
    have qbase : Gq w0 w ∧ b0 + 1 ≤ w.heap.size := H.up hu hD 0 rfl rfl rfl
    obtain ⟨h0, hz⟩ := qbase
    have bA : Blk w b0 50 [.int .i64 rt, .int .i64 tk, .slice XA XN XD, gv, .slice mA mn mc, .slice kA kn kc] := H.up hu hD 1 rfl rfl rfl
    have f9 : vs 9 = .pointer (some ⟨b0, 2, none⟩) := H.up hu hD 7 rfl rfl rfl
    have qn7 : ∃ A q, ∃ l : List CliM, vs 7 = .slice A l.length q ∧ w.ownsRow (b0 + 1) 39 7 (.slice A l.length q) l.length (l.flatMap CliM.cs) ∧ l.map CliM.x = srtC (LX ++ LY) ∧ ∀ y ∈ l, CliT w y := H.up hu hD 12 rfl rfl rfl
    obtain ⟨A7, q7, l7, e7, o7, x7, t7⟩ := qn7
    have HDD := Lib.hid hD
    have HH := Lib.hid H
    have d2 : w.cell? ⟨b0, 2, none⟩ = _ := bA.cell 2
    simp only [List.getElem?_cons_zero, List.getElem?_cons_succ] at d2
    have fz := bA.frozen 2
    have hKK := Lib.hid hK
    clear hK H hu hD
    go_simp
    refine hKK.out _ _ (Go.Dwo.fa_cons (fun _ _ _ h => ⟨h.1.setCell (p := ⟨b0, 2, none⟩) (by show w0.heap.size ≤ b0; have := HB0.out; omega) _, by simp only [World.setCell, Array.size_modify]; exact h.2⟩) <|
        Go.Dwo.fa_cons (fun _ hn _ _ => absurd (show (10 : Nat) ∈ ([10] : List Nat) from by decide) hn) <|
        Go.Dwo.fa_cons (fun _ _ _ h => h) <|
        Go.Dwo.fa_cons (fun _ _ _ h => h) <|
        Go.Dwo.fa_cons (fun _ _ _ h => h) <|
        Go.Dwo.fa_cons (fun _ _ _ h => h) <|
        Go.Dwo.fa_cons (fun _ _ _ h => h) <|
        Go.Dwo.fa_cons (fun _ _ _ h => h) <|
        Go.Dwo.fa_cons (fun _ hn _ _ => absurd (show (10 : Nat) ∈ ([6, 7, 10] : List Nat) from by decide) hn) <|
        Go.Dwo.fa_cons (fun _ hn _ _ => absurd (show (10 : Nat) ∈ ([6, 7, 10] : List Nat) from by decide) hn) <|
        Go.Dwo.fa_cons (fun _ hn _ _ => absurd (show (10 : Nat) ∈ ([6, 7, 10] : List Nat) from by decide) hn) <|
        Go.Dwo.fa_cons (fun _ hn _ _ => absurd (show (10 : Nat) ∈ ([7, 10] : List Nat) from by decide) hn) <|
        Go.Dwo.fa_cons (fun _ hn _ _ => absurd (show (10 : Nat) ∈ ([10] : List Nat) from by decide) hn) <|
        Go.Dwo.fa_cons (fun hn _ _ _ => absurd (show (10 : Nat) ∈ ([7, 10] : List Nat) from by decide) hn) <| Go.Dwo.fa_nil _) ?_
    exact Go.Dwo.fa_pick [13] (by kernel_rfl) <| Go.Dwo.fa_cons (fun _ => ⟨A7, q7, l7, e7, bA.set_ 2 _, own_set o7 (by show b0 < _; omega) _, x7, fun y hy => (t7 y hy).kp ((KpT.refl _ _).setCell ⟨_, _, bA⟩ (by decide))⟩) <| Go.Dwo.fa_nil _
  · intro vs w H
    have qbase : Gq w0 w ∧ b0 + 1 ≤ w.heap.size := Go.Dwo.fa_at H 0 rfl rfl
    obtain ⟨h0, hz⟩ := qbase
    have f0 : vs 0 = .pointer (some ⟨b0, 5, none⟩) := Go.Dwo.fa_at H 2 rfl rfl
    have f1 : vs 1 = .slice kA kn kc := Go.Dwo.fa_at H 3 rfl rfl
    have f3 : vs 3 = .pointer (some ⟨b0, 4, none⟩) := Go.Dwo.fa_at H 4 rfl rfl
    have f4 : vs 4 = .slice mA mn mc := Go.Dwo.fa_at H 5 rfl rfl
    have f8 : vs 8 = .pointer (some ⟨b0, 0, none⟩) := Go.Dwo.fa_at H 6 rfl rfl
    have f9 : vs 9 = .pointer (some ⟨b0, 2, none⟩) := Go.Dwo.fa_at H 7 rfl rfl
    have qn10 : ∃ A q, ∃ l : List CliM, vs 7 = .slice A l.length q ∧ Blk w b0 50 [.int .i64 rt, .int .i64 tk, .slice A l.length q, gv, .slice mA mn mc, .slice kA kn kc] ∧ w.ownsRow (b0 + 1) 39 7 (.slice A l.length q) l.length (l.flatMap CliM.cs) ∧ l.map CliM.x = srtC (LX ++ LY) ∧ ∀ y ∈ l, CliT w y := Go.Dwo.fa_at H 13 rfl rfl
    obtain ⟨A9, q9, l9, e9, k9, o9, x9, t9⟩ := qn10
    clear H
    simp only [Nat.zero_add, Nat.reduceAdd]
    have HG7 : Hid (Gq w0 w ∧ b0 + 1 ≤ w.heap.size) := ⟨h0, hz⟩
    have HK7 : Hid (Blk w b0 50 [.int .i64 rt, .int .i64 tk, .slice A9 l9.length q9, gv, .slice mA mn mc, .slice kA kn kc]) := k9
    have HO7 := Lib.hid o9
    have HT7 : Hid (∀ y ∈ l9, CliT w y) := t9
    have HX7 : Hid (l9.map CliM.x = srtC (LX ++ LY)) := x9
    simp only [f0, f1, f3, f4, f8, f9, e9]
    clear f0 f1 f3 f4 f8 f9 e9 h0 hz k9 o9 t9 x9
    generalize vs 2 = z2
    generalize vs 5 = z5
    generalize vs 6 = z6
    have HLN9 : Hid (l9.length ≤ 1200) := by
      have h1 := congrArg List.length HX7.out
      rw [List.length_map, show (srtC (LX ++ LY)).length = (LX ++ LY).length from (srt_perm id (LX ++ LY)).length_eq, List.length_append] at h1
      have := HLL.out
      show _ ≤ _; omega
    have HSI : Hid (∀ y ∈ l9, a ≤ y.at_ → inI64 (y.at_ + b)) := fun y hy h => by
      have h1 : y.x ∈ srtC (LX ++ LY) := by rw [← HX7.out]; exact List.mem_map_of_mem hy
      exact HSH0.out y.x ((srt_perm id (LX ++ LY)).mem_iff.1 h1) h
    have HSHC := Lib.hid (shift_any (b0 + 1) A9 l9.length q9 l9 a b w HO7.out rfl (by have := HLN9.out; omega) HSI.out)
    have d2 : w.cell? ⟨b0, 2, none⟩ = some (.slice A9 l9.length q9) := HK7.out.cell 2
    go_wp2_with fail
    refine HSHC.out.mono ?_
    rintro e w6 ⟨rfl, ho6, hk6, hb6⟩
    have HKP6 : Hid (KpT 75 w w6) := hk6 75 (by decide)
    have HO6 := Lib.hid ho6
    have HB6 := Lib.hid hb6
    have HK6 : Hid (Blk w6 b0 50 [.int .i64 rt, .int .i64 tk, .slice A9 l9.length q9, gv, .slice mA mn mc, .slice kA kn kc]) := (hb6.block b0 (by omega)).trans HK7.out
    have e2 : w6.cell? ⟨b0, 2, none⟩ = some (.slice A9 l9.length q9) := HK6.out.cell 2
    have f2 := HK6.out.frozen 2
    have hk8 := HK6.out.set_ 2 (.slice A9 l9.length q9)
    obtain ⟨w8, hw8⟩ : ∃ w8, w8 = w6.setCell ⟨b0, 2, none⟩ (.slice A9 l9.length q9) := ⟨_, rfl⟩
    have HO8 : Hid (w8.ownsRow (b0 + 1) 39 7 (.slice A9 l9.length q9) l9.length ((srtF CliM.x (l9.map (shM a b))).flatMap CliM.cs)) := by rw [hw8]; exact own_set ho6 (by show b0 < _; omega) _
    have HKP8 : Hid (KpT 75 w6 w8) := by rw [hw8]; exact (KpT.refl _ _).setCell ⟨_, _, HK6.out⟩ (by decide)
    have HG8 : Hid (Gq w0 w8 ∧ b0 + 1 ≤ w8.heap.size) := by
      have h1 := HG7.out
      have h3 : Below w0.heap.size w w6 := Below.mono hb6 (by have := HB0.out; omega)
      have h2 : Gq w0 w6 := Below.trans h1.1 h3
      rw [hw8]
      exact ⟨h2.setCell (p := ⟨b0, 2, none⟩) (by have := HB0.out; show _ ≤ b0; omega) _, by simp only [World.setCell, Array.size_modify]; exact Nat.le_trans h1.2 hb6.size⟩
    rw [← hw8] at hk8
    have HK8 : Hid (Blk w8 b0 50 [.int .i64 rt, .int .i64 tk, .slice A9 l9.length q9, gv, .slice mA mn mc, .slice kA kn kc]) := hk8
    have HW8 := Lib.hid hw8
    clear ho6 hk6 hb6 hk8 hw8 d2 HSHC
    go_upto_region 3 with (fail)
    rw [← HW8.out]
    clear e2 f2
    have c0 : w8.cell? ⟨b0, 0, none⟩ = some (.int .i64 rt) := HK8.out.cell 0
    have c1 : w8.cell? ⟨b0, 1, none⟩ = some (.int .i64 tk) := HK8.out.cell 1
    have c2 : w8.cell? ⟨b0, 2, none⟩ = some (.slice A9 l9.length q9) := HK8.out.cell 2
    have HOK8 : Hid (EdtOk w8 ⟨rt, tk, ⟨A9, q9, srtF CliM.x (l9.map (shM a b))⟩⟩) := by
      have h1 := HTK.out
      refine ⟨h1.1, h1.2.1, ?_, Rd.of_own HO8.out, fun c hc => ?_⟩
      · show (srtF CliM.x (l9.map (shM a b))).length ≤ _
        rw [(srt_perm CliM.x _).length_eq, List.length_map]
        have := HLN9.out; omega
      · obtain ⟨z, hz, rfl⟩ := List.mem_map.1 ((srt_perm CliM.x (l9.map (shM a b))).mem_iff.1 hc)
        exact (((cliT_sh (HT7.out z hz) (HSI.out z hz)).kp HKP6.out).kp HKP8.out).1
    have HXE : Hid (EdtM.x ⟨rt, tk, ⟨A9, q9, srtF CliM.x (l9.map (shM a b))⟩⟩ = ⟨rt, tk, plaX ⟨LX, LG, LY⟩ a b⟩) := by
      have h1 : (srtF CliM.x (l9.map (shM a b))).map CliM.x = plaX ⟨LX, LG, LY⟩ a b := by
        refine (srt_map id CliM.x (l9.map (shM a b))).trans ?_
        show srtC _ = srtC ((srtC (LX ++ LY)).map (shfC a b))
        rw [← HX7.out, List.map_map, List.map_map]
        congr 1
        exact List.map_congr_left fun y _ => shM_x a b y
      show (⟨rt, tk, (srtF CliM.x (l9.map (shM a b))).map CliM.x⟩ : Edt) = _
      rw [h1]
    have hck := check_any ⟨rt, tk, ⟨A9, q9, srtF CliM.x (l9.map (shM a b))⟩⟩ w8 HOK8.out
    rw [HXE.out] at hck
    obtain ⟨f, hf⟩ : ∃ f, ediF isNm 1000000 ⟨rt, tk, plaX ⟨LX, LG, LY⟩ a b⟩ = f := ⟨_, rfl⟩
    rw [hf] at hck
    have hev : EdtM.v ⟨rt, tk, ⟨A9, q9, srtF CliM.x (l9.map (shM a b))⟩⟩ = .agg #[.int .i64 rt, .int .i64 tk, .slice A9 l9.length q9] := by
      show Value.agg #[_, _, .slice A9 (srtF CliM.x (l9.map (shM a b))).length q9] = _
      rw [(srt_perm CliM.x _).length_eq, List.length_map]
    rw [hev] at hck
    have HCK := Lib.hid hck
    have HF1 : Hid (f ≠ 0 → r = ([], f)) := fun h => by
      rw [← HRR.out]; unfold plaR; rw [hf, if_pos h]
    have HF0 : Hid (f = 0 → r = (plaT ⟨LX, LG, LY⟩ a b, 0)) := fun h => by
      rw [← HRR.out]; unfold plaR; rw [hf, if_neg (fun k => k h)]
    clear hf hck hev
    go_wp2_with fail
    refine HCK.out.mono ?_
    rintro e w9 ⟨rfl, hg9⟩
    have HG9 : Hid (Gq w0 w9 ∧ b0 + 1 ≤ w9.heap.size) := ⟨HG8.out.1.trans hg9, Nat.le_trans HG8.out.2 (Below.size hg9)⟩
    have HK9 : Hid (Blk w9 b0 50 [.int .i64 rt, .int .i64 tk, .slice A9 l9.length q9, gv, .slice mA mn mc, .slice kA kn kc]) := blkq HK8.out hg9
    clear hg9 c0 c1 c2 HCK
    by_cases h0 : f = 0
    case neg =>
      have hfb : (f != 0) = true := by simp [h0]
      have HE := Lib.hid (HF1.out h0)
      clear h0
      go_wp2_with fail
      go_ret2
      exact turR_bad HE.out HG9.out.1
    have hfb : (f != 0) = false := by simp [h0]
    have HE := Lib.hid (HF0.out h0)
    clear h0
    have HJ0 : Hid (PsJ b0 w0 [.int .i64 rt, .int .i64 tk, .slice A9 l9.length q9, gv, .slice mA mn mc, .slice kA kn kc] (.slice none 0 0) [] w9) := ⟨HG9.out.1, HG9.out.2, HK9.out, World.ownsRow_nil _ _ _ _⟩
    have HLE0 : Hid (([] : List StpM).length = 0) := rfl
    have HLB0 : Hid ((0 : Nat) ≤ 0) := Nat.le_refl _
    have HO0 : Hid (w9.ownsRow (b0 + 1) 60 4 (.slice none 0 0) 0 ([].flatMap StpM.cells)) := by have h := HJ0.out.2.2.2; rw [HLE0.out] at h; exact h
    have HZ0 : Hid (b0 + 1 ≤ w9.heap.size) := HJ0.out.2.1
    obtain ⟨L1, hL1⟩ : ∃ L : List StpM, (if 0 < gn then [] ++ [(⟨2, ⟨gA, gc, gs⟩, 0, 0⟩ : StpM)] else []) = L := ⟨_, rfl⟩
    have HL1 := Lib.hid hL1
    clear hL1
    obtain ⟨tb1, htb1⟩ : ∃ v, decide (0 < gn) = v := ⟨_, rfl⟩
    have HTB1 := Lib.hid htb1
    have dc : w9.cell? ⟨b0, 3, none⟩ = some (.slice gA gn gc) := by rw [HGV.out]; exact HJ0.out.2.2.1.cell 3
    have hrb := runPS 2 gA gn gc w9
    go_upto_if 37 with (fail)
    clear htb1
    go_cut [9] (fun v wx => ∃ A n c, v = .slice A n c ∧ n = L1.length ∧ Hid (PsJ b0 w0 [.int .i64 rt, .int .i64 tk, .slice A9 l9.length q9, gv, .slice mA mn mc, .slice kA kn kc] (.slice A n c) L1 wx))
    case first =>
      by_cases hg : 0 < gn
      case neg =>
        have hd : tb1 = false := by rw [← HTB1.out]; simpa using hg
        subst hd
        have HE1 : Hid ([] = L1) := by have h := HL1.out; rw [if_neg hg] at h; exact h
        clear hg hrb
        go_wp2_with fail
        go_meet
        case rel => exact ⟨none, 0, 0, rfl, by rw [← HE1.out]; exact HLE0.out.symm, by rw [← HE1.out]; exact HJ0.out⟩
      have hd : tb1 = true := by rw [← HTB1.out]; simpa using hg
      subst hd
      have HE1 : Hid ([] ++ [(⟨2, ⟨gA, gc, gs⟩, 0, 0⟩ : StpM)] = L1) := by have h := HL1.out; rw [if_pos hg] at h; exact h
      have hlb : 0 ≤ 2 := by have := HLB0.out; omega
      clear hg
      go_wp2_with (at_builtin; refine wpList_append_own _ rfl _ _ 25 rfl (b0 + 1) 60 ij _ 4 48 Tryz.underlying25 HIJ.out.1 HIJ.out.2.1 HIJ.out.2.2.1 HIJ.out.2.2.2 rfl (by decide) (.slice none 0 0) 0 ([].flatMap StpM.cells) rfl (HO0.out.alloc _) ⟨w9.heap.size, 0, none⟩ 1 1 [.int .i64 2, .slice gA gn gc, .int .i64 0, .int .i64 0] (by rfl) (by rfl) (World.news_of_block (cs := #[.int .i64 2, .slice gA gn gc, .int .i64 0, .int .i64 0]) (t := 60) (fr := (0, 0)) (heap_alloc_new w9 _)) (by simp [Value.oneCell']) (by unfold maxLen; omega) (by omega) (by have := HZ0.out; simp; omega) ?_; intro v' w1 hown' hgrow _; have hend := psj_app (s := ⟨2, ⟨gA, gc, gs⟩, 0, 0⟩) HJ0.out HB0.out (by show [Value.int .i64 2, .slice gA gn gc, .int .i64 0, .int .i64 0] = [Value.int .i64 2, .slice gA gs.length gc, .int .i64 0, .int .i64 0]; rw [HNN.out.1]) (by rw [HLE0.out]; exact hown') hgrow; obtain ⟨AA, CC, rfl⟩ := slice_of_own hown'; have HEND := Lib.hid hend; clear hend hown' hgrow)
      go_meet
      case rel => exact ⟨AA, 0 + 1, CC, rfl, by rw [← HE1.out, List.length_append, HLE0.out]; rfl, by rw [← HE1.out]; exact HEND.out⟩
    case rest =>
    obtain ⟨B1, n1, c1, rfl, hn1, HJ1⟩ := hcut
    obtain ⟨wq1, hwq1⟩ : ∃ w', w' = wc := ⟨_, rfl⟩
    subst hwq1
    clear dc hrb
    have HLE1 : Hid (L1.length = n1) := hn1.symm
    clear hn1
    have HLB1 : Hid (n1 ≤ 1) := by
      have h1 := HLE1.out
      have h2 := HLE0.out
      have h3 := HLB0.out
      have h4 := HL1.out
      rw [← h1, ← h4]
      show _ ≤ _
      split
      · rw [List.length_append, h2]; exact Nat.succ_le_succ h3
      · omega
    have HO1 : Hid (wq1.ownsRow (b0 + 1) 60 4 (.slice B1 n1 c1) n1 (L1.flatMap StpM.cells)) := by have h := HJ1.out.2.2.2; rw [HLE1.out] at h; exact h
    have HZ1 : Hid (b0 + 1 ≤ wq1.heap.size) := HJ1.out.2.1
    obtain ⟨L2, hL2⟩ : ∃ L : List StpM, (if 0 < mn then L1 ++ [(⟨1, ⟨mA, mc, ms⟩, 0, 0⟩ : StpM)] else L1) = L := ⟨_, rfl⟩
    have HL2 := Lib.hid hL2
    clear hL2
    obtain ⟨tb2, htb2⟩ : ∃ v, decide (0 < mn) = v := ⟨_, rfl⟩
    have HTB2 := Lib.hid htb2
    have dc : wq1.cell? ⟨b0, 4, none⟩ = some (.slice mA mn mc) := HJ1.out.2.2.1.cell 4
    have hrb := runPS 1 mA mn mc wq1
    go_upto_if 47 with (fail)
    clear htb2
    go_cut [9] (fun v wx => ∃ A n c, v = .slice A n c ∧ n = L2.length ∧ Hid (PsJ b0 w0 [.int .i64 rt, .int .i64 tk, .slice A9 l9.length q9, gv, .slice mA mn mc, .slice kA kn kc] (.slice A n c) L2 wx))
    case first =>
      by_cases hg : 0 < mn
      case neg =>
        have hd : tb2 = false := by rw [← HTB2.out]; simpa using hg
        subst hd
        have HE2 : Hid (L1 = L2) := by have h := HL2.out; rw [if_neg hg] at h; exact h
        clear hg hrb
        go_wp2_with fail
        go_meet
        case rel => exact ⟨B1, n1, c1, rfl, by rw [← HE2.out]; exact HLE1.out.symm, by rw [← HE2.out]; exact HJ1.out⟩
      have hd : tb2 = true := by rw [← HTB2.out]; simpa using hg
      subst hd
      have HE2 : Hid (L1 ++ [(⟨1, ⟨mA, mc, ms⟩, 0, 0⟩ : StpM)] = L2) := by have h := HL2.out; rw [if_pos hg] at h; exact h
      have hlb : n1 ≤ 2 := by have := HLB1.out; omega
      clear hg
      go_wp2_with (at_builtin; refine wpList_append_own _ rfl _ _ 25 rfl (b0 + 1) 60 ij _ 4 48 Tryz.underlying25 HIJ.out.1 HIJ.out.2.1 HIJ.out.2.2.1 HIJ.out.2.2.2 rfl (by decide) (.slice B1 n1 c1) n1 (L1.flatMap StpM.cells) rfl (HO1.out.alloc _) ⟨wq1.heap.size, 0, none⟩ 1 1 [.int .i64 1, .slice mA mn mc, .int .i64 0, .int .i64 0] (by rfl) (by rfl) (World.news_of_block (cs := #[.int .i64 1, .slice mA mn mc, .int .i64 0, .int .i64 0]) (t := 60) (fr := (0, 0)) (heap_alloc_new wq1 _)) (by simp [Value.oneCell']) (by unfold maxLen; omega) (by omega) (by have := HZ1.out; simp; omega) ?_; intro v' w1 hown' hgrow _; have hend := psj_app (s := ⟨1, ⟨mA, mc, ms⟩, 0, 0⟩) HJ1.out HB0.out (by show [Value.int .i64 1, .slice mA mn mc, .int .i64 0, .int .i64 0] = [Value.int .i64 1, .slice mA ms.length mc, .int .i64 0, .int .i64 0]; rw [HNN.out.2.1]) (by rw [HLE1.out]; exact hown') hgrow; obtain ⟨AA, CC, rfl⟩ := slice_of_own hown'; have HEND := Lib.hid hend; clear hend hown' hgrow)
      go_meet
      case rel => exact ⟨AA, n1 + 1, CC, rfl, by rw [← HE2.out, List.length_append, HLE1.out]; rfl, by rw [← HE2.out]; exact HEND.out⟩
    case rest =>
    obtain ⟨B2, n2, c2, rfl, hn2, HJ2⟩ := hcut
    obtain ⟨wq2, hwq2⟩ : ∃ w', w' = wc := ⟨_, rfl⟩
    subst hwq2
    clear dc hrb
    have HLE2 : Hid (L2.length = n2) := hn2.symm
    clear hn2
    have HLB2 : Hid (n2 ≤ 2) := by
      have h1 := HLE2.out
      have h2 := HLE1.out
      have h3 := HLB1.out
      have h4 := HL2.out
      rw [← h1, ← h4]
      show _ ≤ _
      split
      · rw [List.length_append, h2]; exact Nat.succ_le_succ h3
      · omega
    have HO2 : Hid (wq2.ownsRow (b0 + 1) 60 4 (.slice B2 n2 c2) n2 (L2.flatMap StpM.cells)) := by have h := HJ2.out.2.2.2; rw [HLE2.out] at h; exact h
    have HZ2 : Hid (b0 + 1 ≤ wq2.heap.size) := HJ2.out.2.1
    obtain ⟨L3, hL3⟩ : ∃ L : List StpM, (if b ≠ 0 then L2 ++ [(⟨3, ⟨none, 0, []⟩, a, b⟩ : StpM)] else L2) = L := ⟨_, rfl⟩
    have HL3 := Lib.hid hL3
    clear hL3
    obtain ⟨tb3, htb3⟩ : ∃ v, (b != 0) = v := ⟨_, rfl⟩
    have HTB3 := Lib.hid htb3
    have hrb := runPT 3 a b wq2
    go_upto_if 55 with (fail)
    clear htb3
    go_cut [9] (fun v wx => ∃ A n c, v = .slice A n c ∧ n = L3.length ∧ Hid (PsJ b0 w0 [.int .i64 rt, .int .i64 tk, .slice A9 l9.length q9, gv, .slice mA mn mc, .slice kA kn kc] (.slice A n c) L3 wx))
    case first =>
      by_cases hg : b ≠ 0
      case neg =>
        have hd : tb3 = false := by rw [← HTB3.out]; simpa using hg
        subst hd
        have HE3 : Hid (L2 = L3) := by have h := HL3.out; rw [if_neg hg] at h; exact h
        clear hg hrb
        go_wp2_with fail
        go_meet
        case rel => exact ⟨B2, n2, c2, rfl, by rw [← HE3.out]; exact HLE2.out.symm, by rw [← HE3.out]; exact HJ2.out⟩
      have hd : tb3 = true := by rw [← HTB3.out]; simpa using hg
      subst hd
      have HE3 : Hid (L2 ++ [(⟨3, ⟨none, 0, []⟩, a, b⟩ : StpM)] = L3) := by have h := HL3.out; rw [if_pos hg] at h; exact h
      have hlb : n2 ≤ 2 := by have := HLB2.out; omega
      clear hg
      go_wp2_with (at_builtin; refine wpList_append_own _ rfl _ _ 25 rfl (b0 + 1) 60 ij _ 4 48 Tryz.underlying25 HIJ.out.1 HIJ.out.2.1 HIJ.out.2.2.1 HIJ.out.2.2.2 rfl (by decide) (.slice B2 n2 c2) n2 (L2.flatMap StpM.cells) rfl (HO2.out.alloc _) ⟨wq2.heap.size, 0, none⟩ 1 1 [.int .i64 3, .slice none 0 0, .int .i64 a, .int .i64 b] (by rfl) (by rfl) (World.news_of_block (cs := #[.int .i64 3, .slice none 0 0, .int .i64 a, .int .i64 b]) (t := 60) (fr := (0, 0)) (heap_alloc_new wq2 _)) (by simp [Value.oneCell']) (by unfold maxLen; omega) (by omega) (by have := HZ2.out; simp; omega) ?_; intro v' w1 hown' hgrow _; have hend := psj_app (s := ⟨3, ⟨none, 0, []⟩, a, b⟩) HJ2.out HB0.out (rfl) (by rw [HLE2.out]; exact hown') hgrow; obtain ⟨AA, CC, rfl⟩ := slice_of_own hown'; have HEND := Lib.hid hend; clear hend hown' hgrow)
      go_meet
      case rel => exact ⟨AA, n2 + 1, CC, rfl, by rw [← HE3.out, List.length_append, HLE2.out]; rfl, by rw [← HE3.out]; exact HEND.out⟩
    case rest =>
    obtain ⟨B3, n3, c3, rfl, hn3, HJ3⟩ := hcut
    obtain ⟨wq3, hwq3⟩ : ∃ w', w' = wc := ⟨_, rfl⟩
    subst hwq3
    clear hrb
    have HLE3 : Hid (L3.length = n3) := hn3.symm
    clear hn3
    have HLB3 : Hid (n3 ≤ 3) := by
      have h1 := HLE3.out
      have h2 := HLE2.out
      have h3 := HLB2.out
      have h4 := HL3.out
      rw [← h1, ← h4]
      show _ ≤ _
      split
      · rw [List.length_append, h2]; exact Nat.succ_le_succ h3
      · omega
    have HMP : Hid (L3.map StpM.x = plaT ⟨LX, LG, LY⟩ a b) := by
      have e1 : LG.length = gn := by rw [← HXX.out.2.1, List.length_map]; exact HNN.out.1
      have e2 : LY.length = mn := by rw [← HXX.out.2.2, List.length_map]; exact HNN.out.2.1
      have x2 : StpM.x ⟨2, ⟨gA, gc, gs⟩, 0, 0⟩ = ⟨2, LG, 0, 0⟩ := by show (⟨2, gs.map CliM.x, 0, 0⟩ : Stp) = _; rw [HXX.out.2.1]
      have x1 : StpM.x ⟨1, ⟨mA, mc, ms⟩, 0, 0⟩ = ⟨1, LY, 0, 0⟩ := by show (⟨1, ms.map CliM.x, 0, 0⟩ : Stp) = _; rw [HXX.out.2.2]
      have x3 : StpM.x ⟨3, ⟨none, 0, []⟩, a, b⟩ = ⟨3, [], a, b⟩ := rfl
      show _ = _
      unfold plaT
      simp only [e1, e2]
      rw [← HL3.out, ← HL2.out, ← HL1.out]
      by_cases k1 : 0 < gn <;> by_cases k2 : 0 < mn <;> by_cases k3 : b = 0 <;> simp [k1, k2, k3, x1, x2, x3]
    have HST : Hid (∀ s ∈ L3, StpB 1048576 wq3 s) := by
      obtain ⟨hg, hm, _⟩ := HRD.out wq3 HJ3.out.1
      have hn := HLN.out
      have hnn := HNN.out
      have z0 : inI64 0 := ⟨by decide, by decide⟩
      have s1 : StpB 1048576 wq3 ⟨2, ⟨gA, gc, gs⟩, 0, 0⟩ := ⟨⟨⟨by show _ ≤ (2 : Int); decide, by show (2 : Int) ≤ _; decide⟩, z0, z0, by show gs.length ≤ _; omega, hg.1, fun c hc => (hg.2 c hc).1⟩, by show gs.length ≤ _; omega, fun c hc => Nat.le_trans (HGE.out c hc) (by decide)⟩
      have s2 : StpB 1048576 wq3 ⟨1, ⟨mA, mc, ms⟩, 0, 0⟩ := ⟨⟨⟨by show _ ≤ (1 : Int); decide, by show (1 : Int) ≤ _; decide⟩, z0, z0, by show ms.length ≤ _; omega, hm.1, fun c hc => (hm.2 c hc).1⟩, by show ms.length ≤ _; omega, fun c hc => Nat.le_trans (HME.out c hc) (by decide)⟩
      have s3 : StpB 1048576 wq3 ⟨3, ⟨none, 0, []⟩, a, b⟩ := ⟨⟨⟨by show _ ≤ (3 : Int); decide, by show (3 : Int) ≤ _; decide⟩, HTK.out.2.2.1, HTK.out.2.2.2, by show 0 ≤ _; omega, .inl rfl, fun c hc => by simp at hc⟩, by show 0 ≤ _; omega, fun c hc => by simp at hc⟩
      intro s hs
      rw [← HL3.out, ← HL2.out, ← HL1.out] at hs
      have key : ∀ (p : Prop) [Decidable p] (l : List StpM) (y : StpM), (∀ z ∈ l, StpB 1048576 wq3 z) → StpB 1048576 wq3 y → ∀ z ∈ (if p then l ++ [y] else l), StpB 1048576 wq3 z := fun p _ l y hl hy z hz => by
        split at hz
        · rcases List.mem_append.1 hz with hz | hz
          · exact hl z hz
          · rw [List.mem_singleton.1 hz]; exact hy
        · exact hl z hz
      exact key _ _ _ (key _ _ _ (key _ _ _ (fun z hz => by simp at hz) s1) s2) s3 s hs
    have HFIN : Hid (TurR 1048576 r w0 (.returned (.tuple #[.slice B3 n3 c3, .int .i64 0])) wq3) := by
      refine ⟨HJ3.out.1, ⟨B3, c3, L3⟩, ?_, by rw [HE.out]; exact HMP.out, ?_, ?_, HST.out⟩
      · rw [HE.out]
        show _ = Ending.returned (.tuple #[.slice B3 L3.length c3, .int .i64 0])
        rw [HLE3.out]
      · show L3.length ≤ _
        have h1 := HLE3.out
        have h2 := HLB3.out
        omega
      · have h := HJ3.out.2.2.2
        rw [HLE3.out] at h
        exact Rd.of_own h
    clear hfb
    go_wp2_with fail
    go_ret2
    exact HFIN.out
end Go.Proofs.YteaghgbpcpileaaGreatDoor
/- Generated (gen/chn.py): edit.change with deadwax/edit.Slip$1. -/
namespace Go.Proofs.YteaghgbpcpileaaGreatDoor
open Go.RowKit Go.Dw
attribute [local go_sem ↓] Go.wp_at_zero Go.wp_at_succ

set_option maxRecDepth 100000 in
set_option maxHeartbeats 8000000 in
theorem changeS_any (G : Cli → Cli) (hGe : ∀ c, (G c).e = c.e) (n : Int) (x : EdtM) (p1 : Addr) (w : World) (hx : EdtOk w x) (hlen : x.cs.xs.length ≤ 300) (henv : ∀ c ∈ x.cs.xs, c.e.xs.length ≤ 1000000)
    (hF : ∀ (y : CliM) (W : World), Gq w W → CliT W y → y.x ∈ x.x.cs → Calls Tryz.prog 11 #[y.v, .pointer (some p1)] W fun e w' => ∃ z : CliM, e = .returned z.v ∧ z.x = G y.x ∧ CliT w' z ∧ Gq W w') :
    Calls Tryz.prog 10 #[x.v, .int .i64 n, Value.func (.func 11) #[] #[.pointer (some p1)]] w (TurR 1048576 (plaR isNm 1000000 x.rate x.tracks (plaF (chgD n G) x.x.cs) 0 0) w) := by
  obtain ⟨P, hP⟩ : ∃ p, plaF (chgD n G) x.x.cs = p := ⟨_, rfl⟩
  obtain ⟨r, hr⟩ : ∃ r, plaR isNm 1000000 x.rate x.tracks P 0 0 = r := ⟨_, rfl⟩
  rw [hP, hr]
  obtain ⟨b0, hb0⟩ : ∃ b, w.heap.size = b := ⟨_, rfl⟩
  obtain ⟨wa, hwa⟩ : ∃ wa, wa = w.alloc (.cells #[.int .i64 x.rate, .int .i64 x.tracks, .slice x.cs.a x.cs.xs.length x.cs.c] 24) := ⟨_, rfl⟩
  obtain ⟨wb, hwb⟩ : ∃ wb, wb = wa.alloc (.cells #[.int .i64 n] 3) := ⟨_, rfl⟩
  obtain ⟨wz, hwz⟩ : ∃ wz, wz = wb.alloc (.cells #[Value.func (.func 11) #[] #[.pointer (some p1)]] 40) := ⟨_, rfl⟩
  have hga : Gq w wa := by rw [hwa]; exact (Gq.refl _).alloc _
  have hgb : Gq wa wb := by rw [hwb]; exact (Gq.refl _).alloc _
  have hgc : Gq wb wz := by rw [hwz]; exact (Gq.refl _).alloc _
  have hza : wa.heap.size = b0 + 1 := by rw [hwa]; simp; omega
  have hzb : wb.heap.size = b0 + 2 := by rw [hwb]; simp; omega
  have HG : Hid (Gq w wz) := hga.trans (hgb.trans hgc)
  have HKA : Hid (Blk wz b0 24 [.int .i64 x.rate, .int .i64 x.tracks, .slice x.cs.a x.cs.xs.length x.cs.c]) := by
    refine blkq (?_ : Blk wa b0 _ _) (hgb.trans hgc); rw [hwa, ← hb0]; exact Blk.new w _ _
  have HKB : Hid (Blk wz (b0 + 1) 3 [.int .i64 n]) := by
    refine blkq (?_ : Blk wb (b0 + 1) _ _) hgc; rw [hwb, ← hza]; exact Blk.new wa _ _
  have HKC : Hid (Blk wz (b0 + 2) 40 [Value.func (.func 11) #[] #[.pointer (some p1)]]) := by rw [hwz, ← hzb]; exact Blk.new wb _ _
  have hnp := newPlanC (chgD n G) x ⟨b0 + 1, 0, none⟩ ⟨b0 + 2, 0, none⟩ wz (hx.below HG.out) hlen henv (fun i hi W hW => by
    have h1 := blkq HKB.out hW
    have h2 := blkq HKC.out hW
    have h3 := HG.out.trans hW
    have h5 : (x.cs.xs[i]).x ∈ x.x.cs := List.mem_map_of_mem (List.getElem_mem hi)
    have h4 := chgS_any G i n x.cs.xs[i] ⟨b0 + 1, 0, none⟩ ⟨b0 + 2, 0, none⟩ p1 W ((hx.co _ (List.getElem_mem hi)).below h3) (Nat.le_trans (henv _ (List.getElem_mem hi)) (by decide)) (h1.cell 0) h1.lt (h2.cell 0) h2.lt (fun y W' hW' hy e => hF y W' (h3.trans hW') hy (by rw [e]; exact h5))
    exact h4)
  rw [hP] at hnp
  have HNP := Lib.hid hnp
  have HPS : Hid (∀ (gP : Nat) (g m k : Slc CliM) (W : World), g.xs.map CliM.x = P.gone → m.xs.map CliM.x = P.made → k.xs.map CliM.x = P.kept → PlJ wz.heap.size gP x.rate x.tracks x.cs.v g.v m.v k.v W g m k → Calls Tryz.prog 24 #[.agg #[.int .i64 x.rate, .int .i64 x.tracks, .slice x.cs.a x.cs.xs.length x.cs.c, g.v, m.v, k.v], .int .i64 0, .int .i64 0] W (TurR 1048576 r W)) := fun gP g m k W h1 h2 h3 hJ => by
    have hl : x.x.cs.length ≤ 300 := by show (x.cs.xs.map CliM.x).length ≤ _; rw [List.length_map]; exact hlen
    have he : ∀ c ∈ x.x.cs, c.e.length ≤ 1000000 := fun c hc => by
      obtain ⟨y, hy, rfl⟩ := List.mem_map.1 hc
      exact henv y hy
    obtain ⟨q1, q2, q3, q4, q5⟩ := chg_plan n hGe hl he
    rw [hP] at q1 q2 q3 q4 q5
    have z0 : inI64 0 := ⟨by decide, by decide⟩
    have := psteps_any x.rate x.tracks 0 0 x.cs.a x.cs.xs.length x.cs.c gP wz.heap.size g m k W hx.rate hx.tracks z0 z0 hJ (by rw [← h1, List.length_map] at q1; exact q1) (by rw [← h2, List.length_map] at q2; omega) (by rw [← h3, List.length_map] at q3; exact q3) (fun y hy => q4 y.x (by rw [← h1]; exact List.mem_map_of_mem hy)) (fun y hy => q5 y.x (by rw [← h2]; exact List.mem_map_of_mem hy)) (fun y hy _ => by
      rw [Int.add_zero]
      rcases List.mem_append.1 hy with hy | hy
      · obtain ⟨z, hz, rfl⟩ := List.mem_map.1 hy; exact (hJ.tt z hz).1.at_
      · obtain ⟨z, hz, rfl⟩ := List.mem_map.1 hy; exact (hJ.tm z hz).1.at_)
    rw [h1, h2, h3] at this
    rw [← hr]; exact this
  have HXV : Hid (x.cs.v = .slice x.cs.a x.cs.xs.length x.cs.c) := rfl
  have a0 : wz.cell? ⟨b0, 0, none⟩ = some (.int .i64 x.rate) := HKA.out.cell 0
  have a1 : wz.cell? ⟨b0, 1, none⟩ = some (.int .i64 x.tracks) := HKA.out.cell 1
  have a2 : wz.cell? ⟨b0, 2, none⟩ = some (.slice x.cs.a x.cs.xs.length x.cs.c) := HKA.out.cell 2
  rw [hwa] at hwb
  rw [hwb] at hwz
  have HWZ := Lib.hid hwz
  clear hwa hwb hwz hga hgb hgc hza hzb hnp hP hr hF hx hlen henv hGe
  obtain ⟨rt, tk, ⟨xA, xd, xs⟩⟩ := x
  simp only [EdtM.v, Slc.v] at HNP HPS HXV HWZ a0 a1 a2 ⊢
  obtain ⟨xn, hxn⟩ : ∃ k : Nat, xs.length = k := ⟨_, rfl⟩
  simp only [hxn] at HNP HPS HXV HWZ a0 a1 a2 ⊢
  clear hxn HXV HKA
  go_enter Tryz.func10, Tryz.ntmps10
  go_upto_region 1 with (fail)
  rw [← HWZ.out]
  try simp only [hb0]
  clear hb0
  go_wp2_with fail
  refine HNP.out.mono ?_
  rintro e w2 ⟨hg2, gP, g, m, k, rfl, h1, h2, h3, hJ⟩
  have HS := Lib.hid (HPS.out gP g m k w2 h1 h2 h3 hJ)
  have HG2 : Hid (Gq w w2) := HG.out.trans hg2
  clear hg2 h1 h2 h3 hJ HPS HNP a0 a1 a2
  go_wp2_with fail
  refine HS.out.mono ?_
  rintro e w3 ⟨hg3, l, rfl, hl, hb⟩
  have HFIN : Hid (TurR 1048576 r w (.returned (.tuple #[l.v, .int .i64 r.2])) w3) := ⟨HG2.out.trans hg3, l, rfl, hl, hb⟩
  clear hg3 hl hb HS
  go_wp2_with fail
  go_ret2
  exact HFIN.out
end Go.Proofs.YteaghgbpcpileaaGreatDoor
/- Generated (gen/slp.py): edit.Slip. -/
namespace Go.Proofs.YteaghgbpcpileaaGreatDoor
open Go.RowKit Go.Dw
attribute [local go_sem ↓] Go.wp_at_zero Go.wp_at_succ

theorem right_envS {e : EdtM} (h : ediF isNm 1000000 e.x = 0) : e.cs.xs.length ≤ 300 ∧ ∀ c ∈ e.cs.xs, c.e.xs.length ≤ 50 := by
  have hr := ediF_ok h
  refine ⟨by have := hr.l; simpa [EdtM.x] using this, fun c hc => ?_⟩
  have h1 := cliF_env (ediF_cli h c.x (List.mem_map_of_mem hc))
  exact (envF_ok h1).2.1
/-- what Slip answers -/
def slipS (nm : ByteArray → Bool) (mx : Int) (e : Edt) (n a : Int) : List Stp × Int :=
  if numF nm mx e n ≠ 0 then ([], numF nm mx e n) else if a < -10000000000000 ∨ 10000000000000 < a then ([], 1) else plaR nm mx e.rate e.tracks (plaF (chgD n (slpC a)) e.cs) 0 0
set_option maxRecDepth 100000 in
set_option maxHeartbeats 8000000 in
theorem slip_any (x : EdtM) (n a : Int) (w : World) (hx : EdtOk w x) :
    Calls Tryz.prog 4 #[x.v, .int .i64 n, .int .i64 a] w (TurR 1048576 (slipS isNm 1000000 x.x n a) w) := by
  obtain ⟨q, hq⟩ : ∃ q, slipS isNm 1000000 x.x n a = q := ⟨_, rfl⟩
  obtain ⟨f, hf⟩ : ∃ f, numF isNm 1000000 x.x n = f := ⟨_, rfl⟩
  have HF1 : Hid (f ≠ 0 → q = ([], f)) := fun h => by rw [← hq]; unfold slipS; rw [hf, if_pos h]
  have HF2 : Hid (f = 0 → a < -10000000000000 ∨ 10000000000000 < a → q = ([], 1)) := fun h g => by rw [← hq]; unfold slipS; rw [hf, if_neg (fun k => k h), if_pos g]
  have HF3 : Hid (f = 0 → ¬ (a < -10000000000000 ∨ 10000000000000 < a) → plaR isNm 1000000 x.rate x.tracks (plaF (chgD n (slpC a)) x.x.cs) 0 0 = q) := fun h g => by rw [← hq]; unfold slipS; rw [hf, if_neg (fun k => k h), if_neg g]; rfl
  have HE0 : Hid (f = 0 → ediF isNm 1000000 x.x = 0) := fun h => by
    rw [← hf] at h
    unfold numF at h
    split at h
    · rename_i h1; exact absurd h h1
    · rename_i h1
      exact Decidable.byContradiction fun k => h1 k
  rw [hq]
  obtain ⟨b0, hb0⟩ : ∃ b, w.heap.size = b := ⟨_, rfl⟩
  obtain ⟨wa, hwa⟩ : ∃ wa, wa = w.alloc (.cells #[.int .i64 x.rate, .int .i64 x.tracks, .slice x.cs.a x.cs.xs.length x.cs.c] 24) := ⟨_, rfl⟩
  obtain ⟨wz, hwz⟩ : ∃ wz, wz = wa.alloc (.cells #[.int .i64 a] 3) := ⟨_, rfl⟩
  have hga : Gq w wa := by rw [hwa]; exact (Gq.refl _).alloc _
  have hgz : Gq wa wz := by rw [hwz]; exact (Gq.refl _).alloc _
  have hza : wa.heap.size = b0 + 1 := by rw [hwa]; simp; omega
  have HG : Hid (Gq w wz) := hga.trans hgz
  have HKB : Hid (Blk wz (b0 + 1) 3 [.int .i64 a]) := by rw [hwz, ← hza]; exact Blk.new wa _ _
  have HKA : Hid (Blk wz b0 24 [.int .i64 x.rate, .int .i64 x.tracks, .slice x.cs.a x.cs.xs.length x.cs.c]) := by
    refine blkq (?_ : Blk wa b0 _ _) hgz; rw [hwa, ← hb0]; exact Blk.new w _ _
  have hck := number_any x n wz (hx.below HG.out)
  rw [hf] at hck
  have HCK := Lib.hid hck
  have HCH : Hid (∀ W, Gq wz W → f = 0 → ¬ (a < -10000000000000 ∨ 10000000000000 < a) → Calls Tryz.prog 10 #[x.v, .int .i64 n, .func (.func 11) #[] #[.pointer (some ⟨b0 + 1, 0, none⟩)]] W (TurR 1048576 q W)) := fun W hW h0 hr => by
    have he := HE0.out h0
    obtain ⟨l1, l2⟩ := right_envS he
    have hcs := ediF_cli he
    have := changeS_any (slpC a) (fun c => rfl) n x ⟨b0 + 1, 0, none⟩ W ((hx.below HG.out).below hW) l1 (fun c hc => Nat.le_trans (l2 c hc) (by decide)) (fun y W' hW' hy hm => by
      have hr2 := (cliF_ok (hcs y.x hm)).r
      obtain ⟨_, ⟨f1, f2⟩, _, ⟨a1, a2⟩, ⟨a3, a4⟩, _⟩ := hr2
      simp only [CliM.x] at f1 f2 a1 a2 a3 a4
      have k1 := blkq HKB.out (hW.trans hW')
      exact slip1_any y a ⟨b0 + 1, 0, none⟩ W' hy (k1.cell 0) k1.lt (by unfold inI64; omega))
    rw [HF3.out h0 hr] at this
    exact this
  have a0 : wz.cell? ⟨b0, 0, none⟩ = some (.int .i64 x.rate) := HKA.out.cell 0
  have a1 : wz.cell? ⟨b0, 1, none⟩ = some (.int .i64 x.tracks) := HKA.out.cell 1
  have a2 : wz.cell? ⟨b0, 2, none⟩ = some (.slice x.cs.a x.cs.xs.length x.cs.c) := HKA.out.cell 2
  rw [hwa] at hwz
  have HWZ := Lib.hid hwz
  clear hwa hwz hgz hck hq hf hx hga hza
  obtain ⟨rt, tk, ⟨xA, xd, xs⟩⟩ := x
  simp only [EdtM.v, Slc.v] at HCK HCH HWZ HKA a0 a1 a2 ⊢
  obtain ⟨xn, hxn⟩ : ∃ k : Nat, xs.length = k := ⟨_, rfl⟩
  simp only [hxn] at HCK HCH HWZ HKA a0 a1 a2 ⊢
  clear hxn HF3 HE0
  go_enter Tryz.func4, Tryz.ntmps4
  go_upto_region 1 with (fail)
  rw [← HWZ.out]
  try simp only [hb0]
  clear hb0
  go_wp2_with fail
  refine HCK.out.mono ?_
  rintro e w2 ⟨rfl, hg2⟩
  have HG2 : Hid (Gq wz w2) := hg2
  have hka := blkq HKA.out hg2
  have c0 : w2.cell? ⟨b0, 0, none⟩ = some (.int .i64 rt) := hka.cell 0
  have c1 : w2.cell? ⟨b0, 1, none⟩ = some (.int .i64 tk) := hka.cell 1
  have c2 : w2.cell? ⟨b0, 2, none⟩ = some (.slice xA xn xd) := hka.cell 2
  have cb : w2.cell? ⟨b0 + 1, 0, none⟩ = some (.int .i64 a) := (blkq HKB.out hg2).cell 0
  have HGG : Hid (Gq w w2) := HG.out.trans hg2
  clear hg2 hka a0 a1 a2 HCK HWZ HKA HKB
  by_cases h0 : f = 0
  case neg =>
    have hfb : (f != 0) = true := by simp [h0]
    have HQ : Hid (q = ([], f)) := HF1.out h0
    clear h0
    go_wp2_with fail
    go_ret2
    exact turR_bad HQ.out HGG.out
  have hfb : (f != 0) = false := by simp [h0]
  have HZ := Lib.hid h0
  clear h0
  by_cases h1 : a < -10000000000000
  · have hd : decide (a < -10000000000000) = true := by simpa using h1
    have HQ : Hid (q = ([], 1)) := HF2.out HZ.out (.inl h1)
    clear h1
    go_wp2_with fail
    go_ret2
    exact turR_bad HQ.out HGG.out
  have hd : decide (a < -10000000000000) = false := by simpa using h1
  by_cases h2 : 10000000000000 < a
  · have hd2 : decide (10000000000000 < a) = true := by simpa using h2
    have HQ : Hid (q = ([], 1)) := HF2.out HZ.out (.inr h2)
    clear h1 h2
    go_wp2_with fail
    go_ret2
    exact turR_bad HQ.out HGG.out
  have hd2 : decide (10000000000000 < a) = false := by simpa using h2
  have HC2 := Lib.hid (HCH.out w2 HG2.out HZ.out (by omega))
  clear h1 h2 HF1 HF2
  go_wp2_with fail
  refine HC2.out.mono ?_
  rintro e w3 ⟨hg3, l, rfl, hl, hb⟩
  have HFIN : Hid (TurR 1048576 q w (.returned (.tuple #[l.v, .int .i64 q.2])) w3) := ⟨HGG.out.trans hg3, l, rfl, hl, hb⟩
  clear hg3 hl hb
  go_wp2_with fail
  go_ret2
  exact HFIN.out
end Go.Proofs.YteaghgbpcpileaaGreatDoor
/- Generated (gen/chn.py): edit.change with deadwax/edit.Move$1. -/
namespace Go.Proofs.YteaghgbpcpileaaGreatDoor
open Go.RowKit Go.Dw
attribute [local go_sem ↓] Go.wp_at_zero Go.wp_at_succ

set_option maxRecDepth 100000 in
set_option maxHeartbeats 8000000 in
theorem changeM_any (G : Cli → Cli) (hGe : ∀ c, (G c).e = c.e) (n : Int) (x : EdtM) (p1 p2 : Addr) (w : World) (hx : EdtOk w x) (hlen : x.cs.xs.length ≤ 300) (henv : ∀ c ∈ x.cs.xs, c.e.xs.length ≤ 1000000)
    (hF : ∀ (y : CliM) (W : World), Gq w W → CliT W y → y.x ∈ x.x.cs → Calls Tryz.prog 19 #[y.v, .pointer (some p1), .pointer (some p2)] W fun e w' => ∃ z : CliM, e = .returned z.v ∧ z.x = G y.x ∧ CliT w' z ∧ Gq W w') :
    Calls Tryz.prog 10 #[x.v, .int .i64 n, Value.func (.func 19) #[] #[.pointer (some p1), .pointer (some p2)]] w (TurR 1048576 (plaR isNm 1000000 x.rate x.tracks (plaF (chgD n G) x.x.cs) 0 0) w) := by
  obtain ⟨P, hP⟩ : ∃ p, plaF (chgD n G) x.x.cs = p := ⟨_, rfl⟩
  obtain ⟨r, hr⟩ : ∃ r, plaR isNm 1000000 x.rate x.tracks P 0 0 = r := ⟨_, rfl⟩
  rw [hP, hr]
  obtain ⟨b0, hb0⟩ : ∃ b, w.heap.size = b := ⟨_, rfl⟩
  obtain ⟨wa, hwa⟩ : ∃ wa, wa = w.alloc (.cells #[.int .i64 x.rate, .int .i64 x.tracks, .slice x.cs.a x.cs.xs.length x.cs.c] 24) := ⟨_, rfl⟩
  obtain ⟨wb, hwb⟩ : ∃ wb, wb = wa.alloc (.cells #[.int .i64 n] 3) := ⟨_, rfl⟩
  obtain ⟨wz, hwz⟩ : ∃ wz, wz = wb.alloc (.cells #[Value.func (.func 19) #[] #[.pointer (some p1), .pointer (some p2)]] 40) := ⟨_, rfl⟩
  have hga : Gq w wa := by rw [hwa]; exact (Gq.refl _).alloc _
  have hgb : Gq wa wb := by rw [hwb]; exact (Gq.refl _).alloc _
  have hgc : Gq wb wz := by rw [hwz]; exact (Gq.refl _).alloc _
  have hza : wa.heap.size = b0 + 1 := by rw [hwa]; simp; omega
  have hzb : wb.heap.size = b0 + 2 := by rw [hwb]; simp; omega
  have HG : Hid (Gq w wz) := hga.trans (hgb.trans hgc)
  have HKA : Hid (Blk wz b0 24 [.int .i64 x.rate, .int .i64 x.tracks, .slice x.cs.a x.cs.xs.length x.cs.c]) := by
    refine blkq (?_ : Blk wa b0 _ _) (hgb.trans hgc); rw [hwa, ← hb0]; exact Blk.new w _ _
  have HKB : Hid (Blk wz (b0 + 1) 3 [.int .i64 n]) := by
    refine blkq (?_ : Blk wb (b0 + 1) _ _) hgc; rw [hwb, ← hza]; exact Blk.new wa _ _
  have HKC : Hid (Blk wz (b0 + 2) 40 [Value.func (.func 19) #[] #[.pointer (some p1), .pointer (some p2)]]) := by rw [hwz, ← hzb]; exact Blk.new wb _ _
  have hnp := newPlanC (chgD n G) x ⟨b0 + 1, 0, none⟩ ⟨b0 + 2, 0, none⟩ wz (hx.below HG.out) hlen henv (fun i hi W hW => by
    have h1 := blkq HKB.out hW
    have h2 := blkq HKC.out hW
    have h3 := HG.out.trans hW
    have h5 : (x.cs.xs[i]).x ∈ x.x.cs := List.mem_map_of_mem (List.getElem_mem hi)
    have h4 := chgM_any G i n x.cs.xs[i] ⟨b0 + 1, 0, none⟩ ⟨b0 + 2, 0, none⟩ p1 p2 W ((hx.co _ (List.getElem_mem hi)).below h3) (Nat.le_trans (henv _ (List.getElem_mem hi)) (by decide)) (h1.cell 0) h1.lt (h2.cell 0) h2.lt (fun y W' hW' hy e => hF y W' (h3.trans hW') hy (by rw [e]; exact h5))
    exact h4)
  rw [hP] at hnp
  have HNP := Lib.hid hnp
  have HPS : Hid (∀ (gP : Nat) (g m k : Slc CliM) (W : World), g.xs.map CliM.x = P.gone → m.xs.map CliM.x = P.made → k.xs.map CliM.x = P.kept → PlJ wz.heap.size gP x.rate x.tracks x.cs.v g.v m.v k.v W g m k → Calls Tryz.prog 24 #[.agg #[.int .i64 x.rate, .int .i64 x.tracks, .slice x.cs.a x.cs.xs.length x.cs.c, g.v, m.v, k.v], .int .i64 0, .int .i64 0] W (TurR 1048576 r W)) := fun gP g m k W h1 h2 h3 hJ => by
    have hl : x.x.cs.length ≤ 300 := by show (x.cs.xs.map CliM.x).length ≤ _; rw [List.length_map]; exact hlen
    have he : ∀ c ∈ x.x.cs, c.e.length ≤ 1000000 := fun c hc => by
      obtain ⟨y, hy, rfl⟩ := List.mem_map.1 hc
      exact henv y hy
    obtain ⟨q1, q2, q3, q4, q5⟩ := chg_plan n hGe hl he
    rw [hP] at q1 q2 q3 q4 q5
    have z0 : inI64 0 := ⟨by decide, by decide⟩
    have := psteps_any x.rate x.tracks 0 0 x.cs.a x.cs.xs.length x.cs.c gP wz.heap.size g m k W hx.rate hx.tracks z0 z0 hJ (by rw [← h1, List.length_map] at q1; exact q1) (by rw [← h2, List.length_map] at q2; omega) (by rw [← h3, List.length_map] at q3; exact q3) (fun y hy => q4 y.x (by rw [← h1]; exact List.mem_map_of_mem hy)) (fun y hy => q5 y.x (by rw [← h2]; exact List.mem_map_of_mem hy)) (fun y hy _ => by
      rw [Int.add_zero]
      rcases List.mem_append.1 hy with hy | hy
      · obtain ⟨z, hz, rfl⟩ := List.mem_map.1 hy; exact (hJ.tt z hz).1.at_
      · obtain ⟨z, hz, rfl⟩ := List.mem_map.1 hy; exact (hJ.tm z hz).1.at_)
    rw [h1, h2, h3] at this
    rw [← hr]; exact this
  have HXV : Hid (x.cs.v = .slice x.cs.a x.cs.xs.length x.cs.c) := rfl
  have a0 : wz.cell? ⟨b0, 0, none⟩ = some (.int .i64 x.rate) := HKA.out.cell 0
  have a1 : wz.cell? ⟨b0, 1, none⟩ = some (.int .i64 x.tracks) := HKA.out.cell 1
  have a2 : wz.cell? ⟨b0, 2, none⟩ = some (.slice x.cs.a x.cs.xs.length x.cs.c) := HKA.out.cell 2
  rw [hwa] at hwb
  rw [hwb] at hwz
  have HWZ := Lib.hid hwz
  clear hwa hwb hwz hga hgb hgc hza hzb hnp hP hr hF hx hlen henv hGe
  obtain ⟨rt, tk, ⟨xA, xd, xs⟩⟩ := x
  simp only [EdtM.v, Slc.v] at HNP HPS HXV HWZ a0 a1 a2 ⊢
  obtain ⟨xn, hxn⟩ : ∃ k : Nat, xs.length = k := ⟨_, rfl⟩
  simp only [hxn] at HNP HPS HXV HWZ a0 a1 a2 ⊢
  clear hxn HXV HKA
  go_enter Tryz.func10, Tryz.ntmps10
  go_upto_region 1 with (fail)
  rw [← HWZ.out]
  try simp only [hb0]
  clear hb0
  go_wp2_with fail
  refine HNP.out.mono ?_
  rintro e w2 ⟨hg2, gP, g, m, k, rfl, h1, h2, h3, hJ⟩
  have HS := Lib.hid (HPS.out gP g m k w2 h1 h2 h3 hJ)
  have HG2 : Hid (Gq w w2) := HG.out.trans hg2
  clear hg2 h1 h2 h3 hJ HPS HNP a0 a1 a2
  go_wp2_with fail
  refine HS.out.mono ?_
  rintro e w3 ⟨hg3, l, rfl, hl, hb⟩
  have HFIN : Hid (TurR 1048576 r w (.returned (.tuple #[l.v, .int .i64 r.2])) w3) := ⟨HG2.out.trans hg3, l, rfl, hl, hb⟩
  clear hg3 hl hb HS
  go_wp2_with fail
  go_ret2
  exact HFIN.out
end Go.Proofs.YteaghgbpcpileaaGreatDoor
/- Generated (gen/slp.py): edit.Move. -/
namespace Go.Proofs.YteaghgbpcpileaaGreatDoor
open Go.RowKit Go.Dw
attribute [local go_sem ↓] Go.wp_at_zero Go.wp_at_succ

theorem right_envM {e : EdtM} (h : ediF isNm 1000000 e.x = 0) : e.cs.xs.length ≤ 300 ∧ ∀ c ∈ e.cs.xs, c.e.xs.length ≤ 50 := by
  have hr := ediF_ok h
  refine ⟨by have := hr.l; simpa [EdtM.x] using this, fun c hc => ?_⟩
  have h1 := cliF_env (ediF_cli h c.x (List.mem_map_of_mem hc))
  exact (envF_ok h1).2.1
/-- what Move answers -/
def moveS (nm : ByteArray → Bool) (mx : Int) (e : Edt) (n a t : Int) : List Stp × Int :=
  if numF nm mx e n ≠ 0 then ([], numF nm mx e n) else if a < -100000 ∨ 100000 < a then ([], 1) else plaR nm mx e.rate e.tracks (plaF (chgD n (mvtC a t)) e.cs) 0 0
set_option maxRecDepth 100000 in
set_option maxHeartbeats 8000000 in
theorem move_any (x : EdtM) (n a t : Int) (w : World) (hx : EdtOk w x) (ht : inI64 t) :
    Calls Tryz.prog 7 #[x.v, .int .i64 n, .int .i64 a, .int .i64 t] w (TurR 1048576 (moveS isNm 1000000 x.x n a t) w) := by
  obtain ⟨q, hq⟩ : ∃ q, moveS isNm 1000000 x.x n a t = q := ⟨_, rfl⟩
  obtain ⟨f, hf⟩ : ∃ f, numF isNm 1000000 x.x n = f := ⟨_, rfl⟩
  have HF1 : Hid (f ≠ 0 → q = ([], f)) := fun h => by rw [← hq]; unfold moveS; rw [hf, if_pos h]
  have HF2 : Hid (f = 0 → a < -100000 ∨ 100000 < a → q = ([], 1)) := fun h g => by rw [← hq]; unfold moveS; rw [hf, if_neg (fun k => k h), if_pos g]
  have HF3 : Hid (f = 0 → ¬ (a < -100000 ∨ 100000 < a) → plaR isNm 1000000 x.rate x.tracks (plaF (chgD n (mvtC a t)) x.x.cs) 0 0 = q) := fun h g => by rw [← hq]; unfold moveS; rw [hf, if_neg (fun k => k h), if_neg g]; rfl
  have HE0 : Hid (f = 0 → ediF isNm 1000000 x.x = 0) := fun h => by
    rw [← hf] at h
    unfold numF at h
    split at h
    · rename_i h1; exact absurd h h1
    · rename_i h1
      exact Decidable.byContradiction fun k => h1 k
  rw [hq]
  obtain ⟨b0, hb0⟩ : ∃ b, w.heap.size = b := ⟨_, rfl⟩
  obtain ⟨wa, hwa⟩ : ∃ wa, wa = w.alloc (.cells #[.int .i64 x.rate, .int .i64 x.tracks, .slice x.cs.a x.cs.xs.length x.cs.c] 24) := ⟨_, rfl⟩
  obtain ⟨wb, hwb⟩ : ∃ wb, wb = wa.alloc (.cells #[.int .i64 a] 3) := ⟨_, rfl⟩
  obtain ⟨wz, hwz⟩ : ∃ wz, wz = wb.alloc (.cells #[.int .i64 t] 3) := ⟨_, rfl⟩
  have hga : Gq w wa := by rw [hwa]; exact (Gq.refl _).alloc _
  have hgb : Gq wa wb := by rw [hwb]; exact (Gq.refl _).alloc _
  have hgc : Gq wb wz := by rw [hwz]; exact (Gq.refl _).alloc _
  have hgz : Gq wa wz := hgb.trans hgc
  have hza : wa.heap.size = b0 + 1 := by rw [hwa]; simp; omega
  have hzb : wb.heap.size = b0 + 2 := by rw [hwb]; simp; omega
  have HG : Hid (Gq w wz) := hga.trans hgz
  have HKB : Hid (Blk wz (b0 + 1) 3 [.int .i64 a]) := by refine blkq (?_ : Blk wb (b0 + 1) _ _) hgc; rw [hwb, ← hza]; exact Blk.new wa _ _
  have HKT : Hid (Blk wz (b0 + 2) 3 [.int .i64 t]) := by rw [hwz, ← hzb]; exact Blk.new wb _ _
  have HKA : Hid (Blk wz b0 24 [.int .i64 x.rate, .int .i64 x.tracks, .slice x.cs.a x.cs.xs.length x.cs.c]) := by
    refine blkq (?_ : Blk wa b0 _ _) hgz; rw [hwa, ← hb0]; exact Blk.new w _ _
  have hck := number_any x n wz (hx.below HG.out)
  rw [hf] at hck
  have HCK := Lib.hid hck
  have HCH : Hid (∀ W, Gq wz W → f = 0 → ¬ (a < -100000 ∨ 100000 < a) → Calls Tryz.prog 10 #[x.v, .int .i64 n, .func (.func 19) #[] #[.pointer (some ⟨b0 + 1, 0, none⟩), .pointer (some ⟨b0 + 2, 0, none⟩)]] W (TurR 1048576 q W)) := fun W hW h0 hr => by
    have he := HE0.out h0
    obtain ⟨l1, l2⟩ := right_envM he
    have hcs := ediF_cli he
    have := changeM_any (mvtC a t) (fun c => rfl) n x ⟨b0 + 1, 0, none⟩ ⟨b0 + 2, 0, none⟩ W ((hx.below HG.out).below hW) l1 (fun c hc => Nat.le_trans (l2 c hc) (by decide)) (fun y W' hW' hy hm => by
      have hr2 := (cliF_ok (hcs y.x hm)).r
      obtain ⟨_, ⟨f1, f2⟩, _, ⟨a1, a2⟩, ⟨a3, a4⟩, _⟩ := hr2
      simp only [CliM.x] at f1 f2 a1 a2 a3 a4
      have k1 := blkq HKB.out (hW.trans hW')
      have k2 := blkq HKT.out (hW.trans hW')
      exact move1_any y a t ⟨b0 + 1, 0, none⟩ ⟨b0 + 2, 0, none⟩ W' hy (k1.cell 0) k1.lt (k2.cell 0) k2.lt (by unfold inI64; omega) ht)
    rw [HF3.out h0 hr] at this
    exact this
  have a0 : wz.cell? ⟨b0, 0, none⟩ = some (.int .i64 x.rate) := HKA.out.cell 0
  have a1 : wz.cell? ⟨b0, 1, none⟩ = some (.int .i64 x.tracks) := HKA.out.cell 1
  have a2 : wz.cell? ⟨b0, 2, none⟩ = some (.slice x.cs.a x.cs.xs.length x.cs.c) := HKA.out.cell 2
  rw [hwa] at hwb
  rw [hwb] at hwz
  have HWZ := Lib.hid hwz
  clear hwa hwb hwz hgz hck hq hf hx ht hga hgb hgc hza hzb
  obtain ⟨rt, tk, ⟨xA, xd, xs⟩⟩ := x
  simp only [EdtM.v, Slc.v] at HCK HCH HWZ HKA a0 a1 a2 ⊢
  obtain ⟨xn, hxn⟩ : ∃ k : Nat, xs.length = k := ⟨_, rfl⟩
  simp only [hxn] at HCK HCH HWZ HKA a0 a1 a2 ⊢
  clear hxn HF3 HE0
  go_enter Tryz.func7, Tryz.ntmps7
  go_upto_region 1 with (fail)
  rw [← HWZ.out]
  try simp only [hb0]
  clear hb0
  go_wp2_with fail
  refine HCK.out.mono ?_
  rintro e w2 ⟨rfl, hg2⟩
  have HG2 : Hid (Gq wz w2) := hg2
  have hka := blkq HKA.out hg2
  have c0 : w2.cell? ⟨b0, 0, none⟩ = some (.int .i64 rt) := hka.cell 0
  have c1 : w2.cell? ⟨b0, 1, none⟩ = some (.int .i64 tk) := hka.cell 1
  have c2 : w2.cell? ⟨b0, 2, none⟩ = some (.slice xA xn xd) := hka.cell 2
  have cb : w2.cell? ⟨b0 + 1, 0, none⟩ = some (.int .i64 a) := (blkq HKB.out hg2).cell 0
  have HGG : Hid (Gq w w2) := HG.out.trans hg2
  clear hg2 hka a0 a1 a2 HCK HWZ HKA HKB
  by_cases h0 : f = 0
  case neg =>
    have hfb : (f != 0) = true := by simp [h0]
    have HQ : Hid (q = ([], f)) := HF1.out h0
    clear h0
    go_wp2_with fail
    go_ret2
    exact turR_bad HQ.out HGG.out
  have hfb : (f != 0) = false := by simp [h0]
  have HZ := Lib.hid h0
  clear h0
  by_cases h1 : a < -100000
  · have hd : decide (a < -100000) = true := by simpa using h1
    have HQ : Hid (q = ([], 1)) := HF2.out HZ.out (.inl h1)
    clear h1
    go_wp2_with fail
    go_ret2
    exact turR_bad HQ.out HGG.out
  have hd : decide (a < -100000) = false := by simpa using h1
  by_cases h2 : 100000 < a
  · have hd2 : decide (100000 < a) = true := by simpa using h2
    have HQ : Hid (q = ([], 1)) := HF2.out HZ.out (.inr h2)
    clear h1 h2
    go_wp2_with fail
    go_ret2
    exact turR_bad HQ.out HGG.out
  have hd2 : decide (100000 < a) = false := by simpa using h2
  have HC2 := Lib.hid (HCH.out w2 HG2.out HZ.out (by omega))
  clear h1 h2 HF1 HF2
  go_wp2_with fail
  refine HC2.out.mono ?_
  rintro e w3 ⟨hg3, l, rfl, hl, hb⟩
  have HFIN : Hid (TurR 1048576 q w (.returned (.tuple #[l.v, .int .i64 q.2])) w3) := ⟨HGG.out.trans hg3, l, rfl, hl, hb⟩
  clear hg3 hl hb
  go_wp2_with fail
  go_ret2
  exact HFIN.out
end Go.Proofs.YteaghgbpcpileaaGreatDoor
