/- The contract of credit.Wrong. -/
import Derived.Test.YtibkohnoibjimaaDoorWroM
import Derived.Test.YtibkohnoibjimaaDoorCrC
namespace Go.Proofs.YtibkohnoibjimaaDoor
open Go.RowKit Go.Dw Go.Maps
attribute [local go_sem ↓] Go.wp_at_zero Go.wp_at_succ

/-- both maps -/
def MI (w0 : World) (n : Nat) (fd ft : Value → Option Value) (wr : World) : Prop :=
  OMap Tryd.prog 40 wr w0.heap.size n fd ∧ OMap Tryd.prog 40 wr (w0.heap.size + 1) n ft ∧ Below w0.heap.size w0 wr
theorem MI.below {w0 wr w' : World} {n : Nat} {fd ft : Value → Option Value} (h : MI w0 n fd ft wr) (hb : Below wr.heap.size wr w') : MI w0 n fd ft w' :=
  ⟨h.1.below hb, h.2.1.below hb, h.2.2.trans (hb.mono h.2.2.size)⟩
theorem MI.due {w0 wr w' : World} {n : Nat} {fd ft fd' : Value → Option Value} (h : MI w0 n fd ft wr) (ho : OMap Tryd.prog 40 w' w0.heap.size (n + 1) fd') (hg : wr.grownBy w' (some w0.heap.size)) : MI w0 (n + 1) fd' ft w' :=
  ⟨ho, (h.2.1.kept hg (by simp)).mono (by omega), h.2.2.grown hg h.2.2.size (fun k hk => by injection hk with hk; omega)⟩
theorem MI.there {w0 wr w' : World} {n : Nat} {fd ft ft' : Value → Option Value} (h : MI w0 n fd ft wr) (ho : OMap Tryd.prog 40 w' (w0.heap.size + 1) (n + 1) ft') (hg : wr.grownBy w' (some (w0.heap.size + 1))) : MI w0 (n + 1) fd ft' w' :=
  ⟨(h.1.kept hg (by simp)).mono (by omega), ho, h.2.2.grown hg h.2.2.size (fun k hk => by injection hk with hk; omega)⟩
theorem MI.mono {w0 wr : World} {n m : Nat} {fd ft : Value → Option Value} (h : MI w0 n fd ft wr) (hm : n ≤ m) : MI w0 m fd ft wr := ⟨h.1.mono hm, h.2.1.mono hm, h.2.2⟩
/-- the cells of a variable of the call's own, later -/
theorem cr_cells {w W : World} {r p nm : ByteArray} {s : Value} {m : Int} (hb : Below (w.alloc (.cells #[.string r, .string p, .string nm, s, .int .i64 m] 38)).heap.size (w.alloc (.cells #[.string r, .string p, .string nm, s, .int .i64 m] 38)) W) :
    W.cell? ⟨w.heap.size, 0, none⟩ = some (.string r) ∧ W.cell? ⟨w.heap.size, 1, none⟩ = some (.string p) ∧ W.cell? ⟨w.heap.size, 2, none⟩ = some (.string nm) ∧ W.cell? ⟨w.heap.size, 3, none⟩ = some s ∧ W.cell? ⟨w.heap.size, 4, none⟩ = some (.int .i64 m) ∧ w.heap.size < W.heap.size := by
  rw [hb.cell (by simp), hb.cell (by simp), hb.cell (by simp), hb.cell (by simp), hb.cell (by simp)]
  exact ⟨new_cell (cs := [_, _, _, _, _]) rfl rfl, new_cell (cs := [_, _, _, _, _]) rfl rfl, new_cell (cs := [_, _, _, _, _]) rfl rfl, new_cell (cs := [_, _, _, _, _]) rfl rfl, new_cell (cs := [_, _, _, _, _]) rfl rfl, Nat.lt_of_lt_of_le (by simp) hb.size⟩
theorem cells_keep {w W : World} {b : Nat} (hb : Below w.heap.size w W) (hl : b < w.heap.size) {v0 v1 v2 v3 v4 : Value} (h : w.cell? ⟨b, 0, none⟩ = some v0 ∧ w.cell? ⟨b, 1, none⟩ = some v1 ∧ w.cell? ⟨b, 2, none⟩ = some v2 ∧ w.cell? ⟨b, 3, none⟩ = some v3 ∧ w.cell? ⟨b, 4, none⟩ = some v4) :
    W.cell? ⟨b, 0, none⟩ = some v0 ∧ W.cell? ⟨b, 1, none⟩ = some v1 ∧ W.cell? ⟨b, 2, none⟩ = some v2 ∧ W.cell? ⟨b, 3, none⟩ = some v3 ∧ W.cell? ⟨b, 4, none⟩ = some v4 ∧ b < W.heap.size := by
  rw [hb.cell (by exact hl), hb.cell (by exact hl), hb.cell (by exact hl), hb.cell (by exact hl), hb.cell (by exact hl)]
  exact ⟨h.1, h.2.1, h.2.2.1, h.2.2.2.1, h.2.2.2.2, Nat.lt_of_lt_of_le hl hb.size⟩
/-- a variable of the call's own -/
def VC (w : World) (b : Nat) (r p nm : ByteArray) (s : Value) (m : Int) : Prop :=
  w.cell? ⟨b, 0, none⟩ = some (.string r) ∧ w.cell? ⟨b, 1, none⟩ = some (.string p) ∧ w.cell? ⟨b, 2, none⟩ = some (.string nm) ∧ w.cell? ⟨b, 3, none⟩ = some s ∧ w.cell? ⟨b, 4, none⟩ = some (.int .i64 m) ∧ b < w.heap.size
theorem VC.below {w W : World} {b : Nat} {r p nm : ByteArray} {s : Value} {m : Int} (h : VC w b r p nm s m) (hb : Below w.heap.size w W) : VC W b r p nm s m :=
  cells_keep hb h.2.2.2.2.2 ⟨h.1, h.2.1, h.2.2.1, h.2.2.2.1, h.2.2.2.2.1⟩
theorem VC.grown {w W : World} {row : Option Nat} {b : Nat} {r p nm : ByteArray} {s : Value} {m : Int} (h : VC w b r p nm s m) (hg : w.grownBy W row) (hne : some b ≠ row) : VC W b r p nm s m := by
  obtain ⟨h0, h1, h2, h3, h4, hl⟩ := h
  unfold VC
  rw [hg.cell_far _ (by exact hl) hne, hg.cell_far _ (by exact hl) hne, hg.cell_far _ (by exact hl) hne, hg.cell_far _ (by exact hl) hne, hg.cell_far _ (by exact hl) hne]
  exact ⟨h0, h1, h2, h3, h4, Nat.lt_of_lt_of_le hl hg.size⟩
/-- both maps, and a row of mistakes -/
def S3 (w0 : World) (n : Nat) (fd ft : Value → Option Value) (v : Value) (l : List Mis) (wr : World) : Prop :=
  MI w0 n fd ft wr ∧ wr.ownsRow (w0.heap.size + 2) 29 3 v l.length (l.flatMap Mis.cs)
theorem S3.below {w0 wr w' : World} {n : Nat} {fd ft : Value → Option Value} {v : Value} {l : List Mis} (h : S3 w0 n fd ft v l wr) (hb : Below wr.heap.size wr w') : S3 w0 n fd ft v l w' := ⟨h.1.below hb, own_belowL h.2 hb⟩
theorem S3.size {w0 wr : World} {n : Nat} {fd ft : Value → Option Value} {v : Value} {l : List Mis} (h : S3 w0 n fd ft v l wr) : w0.heap.size + 2 ≤ wr.heap.size := h.1.2.1.lt
theorem S3.app {w0 wr w' : World} {n : Nat} {fd ft : Value → Option Value} {v v' : Value} {l : List Mis} (h : S3 w0 n fd ft v l wr) (x : Mis) {o : Obj}
    (ho : w'.ownsRow (w0.heap.size + 2) 29 3 v' (l.length + 1) (l.flatMap Mis.cs ++ x.cs)) (hg : (wr.alloc o).grownBy w' v.ownBlock) : S3 w0 n fd ft v' (l ++ [x]) w' := by
  have hne : ∀ b, b < w0.heap.size + 2 → some b ≠ v.ownBlock := fun b hb e => by have := (h.2.lt b e.symm).1; omega
  refine ⟨⟨(h.1.1.alloc o).kept hg (hne _ (by omega)), (h.1.2.1.alloc o).kept hg (hne _ (by omega)), (h.1.2.2.alloc h.1.2.2.size o).grown hg (by have := h.1.2.2.size; simp; omega) (fun k hk => by have := (h.2.lt k hk).1; omega)⟩, ?_⟩
  rw [flat_snoc, List.length_append]
  exact ho
theorem S3.there {w0 wr w' : World} {n : Nat} {fd ft ft' : Value → Option Value} {v : Value} {l : List Mis} (h : S3 w0 n fd ft v l wr) (ho : OMap Tryd.prog 40 w' (w0.heap.size + 1) (n + 1) ft') (hg : wr.grownBy w' (some (w0.heap.size + 1))) : S3 w0 (n + 1) fd ft' v l w' :=
  ⟨h.1.there ho hg, h.2.kept hg (by
    cases hv : v.ownBlock with
    | none => exact .inl rfl
    | some b => right; intro e; injection e with e; have := (h.2.lt b hv).1; omega)⟩
theorem runNeK (r p r6 p6 : ByteArray) (w : World) : Sem.run Tryd.prog (binOp .neq 40 (kv r p) (kv r6 p6)) w = .ok (.bool (!(decide (r = r6) && decide (p = p6)))) w := by
  unfold kv
  by_cases h1 : r = r6
  · have s1 := seq_t h1
    by_cases h2 : p = p6
    · subst h1 h2
      go_simp
    · have s2 := seq_f h2
      subst h1
      simp only [decide_true, h2, decide_false, Bool.and_false, Bool.not_false]
      clear h2 s1
      go_simp
  · have s1 := seq_f h1
    simp only [h1, decide_false, Bool.false_and, Bool.not_false]
    clear h1
    go_simp
theorem runEqG (r p r6 p6 : ByteArray) (a b : Operand) (w : World) : Sem.run Tryd.prog (eqGuard BinOp.neq 40 a b (kv r p) (kv r6 p6)) w = .ok () w := by
  unfold kv
  go_simp
theorem ordF_stay {H W : List Crp} {k : Nat} (h : ordF H W k ≠ []) : ∀ n, k ≤ n → ordF H W n = ordF H W k
  | 0, hn => by
    have : k = 0 := by omega
    rw [this]
  | n + 1, hn => by
    by_cases he : k = n + 1
    · rw [he]
    · have ih := ordF_stay h n (by omega)
      rw [ordF, ih, if_neg (by simpa using h)]
theorem who_fields (r p nm : ByteArray) (a : Option Addr) (n c : Nat) (m : Int) (w W : World) (hW : Gq w W) : Calls Tryd.prog 10 #[.agg #[.string r, .string p, .string nm, .slice a n c, .int .i64 m]] W fun e W' => e = .returned (kv r p) ∧ Gq w W' := by
  have h := whoOf_any ⟨r, p, nm, ⟨a, c, List.replicate n ⟨#[]⟩⟩, m⟩ W
  simp only [Crd.cs, Slc.v, List.length_replicate] at h
  exact h.mono fun e W' ⟨he, hb⟩ => ⟨he, Below.trans hW (hb.mono (Below.size hW))⟩
/-- two rows of mistakes -/
def S4 (w7 : World) (vm : Value) (lm : List Mis) (vo : Value) (lo : List Mis) (wr : World) : Prop :=
  Below w7.heap.size w7 wr ∧ wr.ownsRow w7.heap.size 29 3 vm lm.length (lm.flatMap Mis.cs) ∧ wr.ownsRow w7.heap.size 29 3 vo lo.length (lo.flatMap Mis.cs) ∧ ∀ b, vm.ownBlock = some b → vo.ownBlock ≠ some b
theorem S4.below {w7 wr w' : World} {vm vo : Value} {lm lo : List Mis} (h : S4 w7 vm lm vo lo wr) (hb : Below wr.heap.size wr w') : S4 w7 vm lm vo lo w' :=
  ⟨h.1.trans (hb.mono h.1.size), own_belowL h.2.1 hb, own_belowL h.2.2.1 hb, h.2.2.2⟩
theorem S4.swap {w7 wr : World} {vm vo : Value} {lm lo : List Mis} (h : S4 w7 vm lm vo lo wr) : S4 w7 vo lo vm lm wr :=
  ⟨h.1, h.2.2.1, h.2.1, fun b hb e => h.2.2.2 b e hb⟩
theorem S4.app {w7 wr w' : World} {vm vo : Value} {lm lo : List Mis} {g cap : Nat} (h : S4 w7 vm lm vo lo wr) (x : Mis) {o : Obj}
    (ho : w'.ownsRow w7.heap.size 29 3 (.slice (some ⟨g, 0, none⟩) (lm.length + 1) cap) (lm.length + 1) (lm.flatMap Mis.cs ++ x.cs)) (hg : (wr.alloc o).grownBy w' vm.ownBlock) (hat : vm.ownBlock = some g ∨ g = wr.heap.size + 1) :
    S4 w7 (.slice (some ⟨g, 0, none⟩) (lm.length + 1) cap) (lm ++ [x]) vo lo w' := by
  refine ⟨(h.1.alloc h.1.size o).grown hg (by have := h.1.size; simp; omega) (fun k hk => (h.2.1.lt k hk).1), ?_, ?_, ?_⟩
  · rw [flat_snoc, List.length_append]; exact ho
  · refine (h.2.2.1.alloc o).kept hg ?_
    cases hv : vo.ownBlock with
    | none => exact .inl rfl
    | some b => right; intro e; exact h.2.2.2 b e.symm hv
  · intro b hb e
    have : b = g := by injection hb with hb; exact hb.symm
    subst this
    rcases hat with hat | hat
    · exact h.2.2.2 b hat e
    · have := (h.2.2.1.lt b e).2; omega
set_option maxRecDepth 100000 in
set_option maxHeartbeats 8000000 in
theorem wrong_any (x y : Slc Crd) (w : World) (hx : Crs w x) (hy : Crs w y) (hm : HasMax w) :
    Calls Tryd.prog 4 #[x.v, y.v] w (MisPost w (wrongF (x.xs.map Crd.x) (y.xs.map Crd.x))) := by
  have HC1 := Lib.hid (fun (W : World) (hW : Below w.heap.size w W) => credits_any x W (hx.below hW) (hm.below hW))
  have HC2 := Lib.hid (fun (W : World) (hW : Below w.heap.size w W) => credits_any y W (hy.below hW) (hm.below hW))
  obtain ⟨HL, hHL⟩ : ∃ HL, x.xs.map Crd.x = HL := ⟨_, rfl⟩
  obtain ⟨WL, hWL⟩ : ∃ WL, y.xs.map Crd.x = WL := ⟨_, rfl⟩
  have hlx : HL.length = x.xs.length := by rw [← hHL, List.length_map]
  have hly : WL.length = y.xs.length := by rw [← hWL, List.length_map]
  simp only [hHL] at HC1
  simp only [hWL] at HC2
  obtain ⟨w1, hw1⟩ : ∃ w1, w1 = w.alloc (.cells #[x.v, y.v] 22) := ⟨_, rfl⟩
  have HB1 : Hid (Below w.heap.size w w1) := by rw [hw1]; exact (Below.refl _ _).alloc (Nat.le_refl _) _
  have q0 : w1.cell? ⟨w.heap.size, 0, none⟩ = some x.v := by rw [hw1]; exact new_cell (cs := [_, _]) rfl rfl
  have q1 : w1.cell? ⟨w.heap.size, 1, none⟩ = some y.v := by rw [hw1]; exact new_cell (cs := [_, _]) rfl rfl
  have hz1 : w.heap.size < w1.heap.size := by rw [hw1]; simp
  have HW1 := Lib.hid hw1
  have HR1 : Hid (crsF HL ≠ 0 → wrongF HL WL = ([], crsF HL)) := fun h => by unfold wrongF; rw [if_pos h]
  have HR2 : Hid (crsF HL = 0 → crsF WL ≠ 0 → wrongF HL WL = ([], crsF WL)) := fun h h2 => by unfold wrongF; rw [if_neg (fun hh => hh h), if_pos h2]
  have HR3 : Hid (crsF HL = 0 → crsF WL = 0 → wrongF HL WL = if dupB WL WL.length = true then ([], 7) else if (wroF HL WL).length = 0 then (ordF HL WL HL.length, 0) else (wroF HL WL, 0)) := fun h h2 => by unfold wrongF; rw [if_neg (fun hh => hh h), if_neg (fun hh => hh h2)]
  have HATX : Hid (∀ k (hk : k < x.xs.length), HL.getD k dCrp = x.xs[k].x) := fun k hk => by rw [← hHL]; exact map_at x.xs k hk
  have HATY : Hid (∀ k (hk : k < y.xs.length), WL.getD k dCrp = y.xs[k].x) := fun k hk => by rw [← hWL]; exact map_at y.xs k hk
  have HMX : Hid (x.xs.map Crd.x = HL) := hHL
  have HX := Lib.hid hx
  have HY := Lib.hid hy
  have HLX := Lib.hid hlx
  have HLY := Lib.hid hly
  have HNL : Hid (crsF HL = 0 → HL.length ≤ 1000) := fun h => by unfold crsF at h; split at h <;> omega
  have HNW : Hid (crsF WL = 0 → WL.length ≤ 1000) := fun h => by unfold crsF at h; split at h <;> omega
  have HSZX : Hid (∀ c ∈ x.xs, c.r.size ≤ maxLen ∧ c.p.size ≤ maxLen) := fun c hc => ⟨(hx.2.2 c hc).1, (hx.2.2 c hc).2.1⟩
  have HSZY : Hid (∀ c ∈ y.xs, c.r.size ≤ maxLen ∧ c.p.size ≤ maxLen) := fun c hc => ⟨(hy.2.2 c hc).1, (hy.2.2 c hc).2.1⟩
  obtain ⟨ii, hii, hzi0, hzi1, hzi2⟩ := info_parts info_mis
  have HII := Lib.hid (And.intro hii (And.intro hzi0 (And.intro hzi1 hzi2)))
  rw [hHL, hWL]
  clear hHL hWL hx hy hm hlx hly hii hzi0 hzi1 hzi2 hw1
  obtain ⟨A, c, L⟩ := x
  obtain ⟨B, d, M⟩ := y
  simp only at HLX HLY
  simp only [Slc.v] at HC1 HC2 HW1 q0 q1 ⊢
  go_enter Tryd.func4, Tryd.ntmps4
  go_upto_block 0 with (fail)
  rw [← HW1.out]
  go_cut [] (fun wx => Hid (crsF HL = 0 ∧ crsF WL = 0) ∧ Hid (Below w1.heap.size w1 wx))
  case first =>
    go_wp2_with fail
    go_loopw [32] (fun kv wr => ∃ k : Nat, k ≤ 2 ∧ kv = .int .i64 (k : Int) ∧ Hid ((0 < k → crsF HL = 0) ∧ (1 < k → crsF WL = 0)) ∧ Hid (Below w1.heap.size w1 wr)) (fun kv _ => 2 - (intOf kv).toNat)
    case atStart => exact ⟨0, by omega, rfl, ⟨fun h => by omega, fun h => by omega⟩, Below.refl _ _⟩
    case round =>
      obtain ⟨k, hk, rfl, HZ, HB⟩ := hrel
      have HBW := Lib.hid (HB1.out.trans (HB.out.mono HB1.out.size))
      have c0 : wr.cell? ⟨w.heap.size, 0, none⟩ = some (.slice A L.length c) := by rw [HB.out.cell (by exact hz1)]; exact q0
      have c1 : wr.cell? ⟨w.heap.size, 1, none⟩ = some (.slice B M.length d) := by rw [HB.out.cell (by exact hz1)]; exact q1
      clear q0 q1
      have h3 : k = 0 ∨ k = 1 ∨ k = 2 := by omega
      rcases h3 with rfl | rfl | rfl
      · have hd1 : decide ((0 : Int) < 2) = true := by decide
        obtain ⟨f, hf⟩ : ∃ f, crsF HL = f := ⟨_, rfl⟩
        have HF := Lib.hid hf
        have HCX := Lib.hid (HC1.out wr HBW.out)
        rw [hf] at HCX
        clear hf
        go_wp2_with fail
        refine HCX.out.mono ?_
        rintro e w3 ⟨rfl, hb3⟩
        have HB3 := Lib.hid (HB.out.trans (hb3.mono HB.out.size))
        clear hb3 c0 c1
        by_cases hz : f = 0
        · subst hz
          go_wp2_with fail
          go_roundw
          case rel => exact ⟨1, by omega, by go_num, ⟨fun _ => HF.out, fun h => by omega⟩, HB3⟩
          case measure => simp [intOf]
        · have hzb : (f != 0) = true := by simpa using hz
          have HE : Hid (wrongF HL WL = ([], f)) := by show _ = _; rw [HR1.out (by rw [HF.out]; exact hz), HF.out]
          clear hz
          go_wp2_with fail
          go_ret2
          exact misPost_none HE.out (HB1.out.trans (HB3.out.mono HB1.out.size))
      · have hd1 : decide ((1 : Int) < 2) = true := by decide
        obtain ⟨f, hf⟩ : ∃ f, crsF WL = f := ⟨_, rfl⟩
        have HF := Lib.hid hf
        have HCX := Lib.hid (HC2.out wr HBW.out)
        rw [hf] at HCX
        clear hf
        go_wp2_with fail
        refine HCX.out.mono ?_
        rintro e w3 ⟨rfl, hb3⟩
        have HB3 := Lib.hid (HB.out.trans (hb3.mono HB.out.size))
        clear hb3 c0 c1
        by_cases hz : f = 0
        · subst hz
          go_wp2_with fail
          go_roundw
          case rel => exact ⟨2, by omega, by go_num, ⟨fun _ => HZ.out.1 (by omega), fun _ => HF.out⟩, HB3⟩
          case measure => simp [intOf]
        · have hzb : (f != 0) = true := by simpa using hz
          have HE : Hid (wrongF HL WL = ([], f)) := by show _ = _; rw [HR2.out (HZ.out.1 (by omega)) (by rw [HF.out]; exact hz), HF.out]
          clear hz
          go_wp2_with fail
          go_ret2
          exact misPost_none HE.out (HB1.out.trans (HB3.out.mono HB1.out.size))
      · have hd1 : decide ((2 : Int) < 2) = false := by decide
        go_wp2_with fail
        go_meet
        case rel => exact ⟨⟨HZ.out.1 (by omega), HZ.out.2 (by omega)⟩, HB⟩
  case rest =>
    obtain ⟨HZ, HBC⟩ := hcut
    have HR := Lib.hid (HR3.out HZ.out.1 HZ.out.2)
    have hxn : L.length ≤ 1000 := by rw [← HLX.out]; exact HNL.out HZ.out.1
    have hyn : M.length ≤ 1000 := by rw [← HLY.out]; exact HNW.out HZ.out.2
    obtain ⟨w0, hw0⟩ : ∃ w0, w0 = wc := ⟨_, rfl⟩
    subst hw0
    have HB0 := Lib.hid (HB1.out.trans (HBC.out.mono HB1.out.size))
    have HWO := Lib.hid (fun (cc : Crd) (W : World) => whoOf_any cc W)
    clear HR1 HR2 HR3 HC1 HC2 HBC q0 q1 HZ HW1 HNL HNW
    have hmm := @run_makeMap Tryd.prog
    go_upto_block 2 with (fail)
    clear hmm
    have HMI : Hid (MI w0 0 (dueF WL 0) (thereF L 0) ((w0.alloc (.map #[] 0)).alloc (.map #[] 0))) := by
      refine ⟨?_, ?_, ((Below.refl _ _).alloc (Nat.le_refl _) _).alloc (by simp) _⟩
      · refine OMap.alloc ((OMap.made w0 Tryd.prog 40).congr (fun key kl hk => ?_)) _
        unfold dueF; split <;> rfl
      · have := OMap.made (w0.alloc (.map #[] 0)) Tryd.prog 40
        rw [show (w0.alloc (.map #[] 0)).heap.size = w0.heap.size + 1 by simp] at this
        refine this.congr (fun key kl hk => ?_)
        unfold thereF; split <;> rfl
    generalize (w0.alloc (.map #[] 0)).alloc (.map #[] 0) = w2 at HMI ⊢
    go_cut [] (fun wx => Hid (dupB WL WL.length = false) ∧ Hid (MI w0 M.length (dueF WL M.length) (thereF L 0) wx))
    case first =>
      go_wp2_with fail
      go_loopw [46] (fun kv wr => ∃ k : Nat, k ≤ M.length ∧ kv = .int .i64 (k : Int) ∧ Hid (dupB WL k = false) ∧ Hid (MI w0 k (dueF WL k) (thereF L 0) wr)) (fun kv _ => M.length - (intOf kv).toNat)
      case atStart => exact ⟨0, Nat.zero_le _, rfl, rfl, HMI⟩
      case round =>
        clear HMI
        obtain ⟨k, hk, rfl, HD, HI⟩ := hrel
        have HBW := Lib.hid (HB0.out.trans (HI.out.2.2.mono HB0.out.size))
        by_cases hlt : k < M.length
        case neg =>
          have hke : k = M.length := by omega
          have hd1 : decide (k < M.length) = false := by simpa using hlt
          have HDE : Hid (dupB WL WL.length = false) := by show _ = _; rw [HLY.out, ← hke]; exact HD.out
          have HIE : Hid (MI w0 M.length (dueF WL M.length) (thereF L 0) wr) := by show MI _ _ _ _ _; have := HI.out; rw [hke] at this; exact this
          clear hke
          go_wp2_with fail
          go_meet
          case rel => exact ⟨HDE, HIE⟩
        have hd1 : decide (k < M.length) = true := by simpa using hlt
        obtain ⟨b, off, hA, hb, d0, d1, d2, d3, d4⟩ := HY.out.cells HBW.out hlt
        obtain rfl : B = some ⟨b, off, none⟩ := hA
        have hsz := HSZY.out M[k] (List.getElem_mem hlt)
        obtain ⟨kl, hkl⟩ := keyWho M[k].r M[k].p hsz.1 hsz.2
        have HKL := Lib.hid hkl
        have hwk : WL.getD k dCrp = M[k].x := HATY.out k hlt
        have HDU := Lib.hid (dueF_at WL k M[k].x)
        have HNW := Lib.hid (@dueF_new WL k)
        rw [hwk] at HNW
        have HDN : Hid (dupB WL (k + 1) = (fstK WL M[k].x k).isSome) := by show _ = _; rw [dupB, HD.out, hwk]; rfl
        have HMORE : Hid (dupB WL (k + 1) = true → wrongF HL WL = ([], 7)) := fun hd => by
          rw [HR.out, if_pos (dupB_more hd WL.length (by have := HLY.out; omega))]
        have HWC := Lib.hid (HWO.out M[k])
        have HPW : Hid (Below wr.heap.size wr (wr.alloc (.cells M[k].cs.toArray 38))) := (Below.refl _ _).alloc (Nat.le_refl _) _
        clear hsz hkl hwk
        generalize M[k] = cc at *
        obtain ⟨fk, hfk⟩ : ∃ fk, fstK WL cc.x k = fk := ⟨_, rfl⟩
        rw [hfk] at HDN HNW
        simp only [hfk] at HDU
        clear hfk
        obtain ⟨r, p, nm, ⟨sa, sc, sl⟩, m⟩ := cc
        simp only at d0 d1 d2 d3 d4 HKL
        simp only [Crd.cs, Slc.v] at HWC HPW
        simp only [Crd.x] at HDU HNW HDN
        go_wp2_with fail
        refine (HWC.out _).mono ?_
        rintro e w3 ⟨rfl, hb3⟩
        have HQ3 := Lib.hid (cr_cells hb3)
        have HI3 := Lib.hid ((HI.out.below HPW.out).below hb3)
        have HBX3 := Lib.hid (HB0.out.trans (HI3.out.2.2.mono HB0.out.size))
        have hrun := HI3.out.1.look whoKeyed Tryd.underlying34 zeroBool HKL.out
        rw [HDU.out] at hrun
        obtain ⟨k0, k1, k2, k3, k4, hlt3⟩ := HQ3.out
        clear hb3 d0 d1 d2 d3 d4
        cases fk with
        | some j =>
          have HE := Lib.hid (HMORE.out (by rw [HDN.out]; rfl))
          simp only [Option.isSome_some, if_true, Option.getD_some] at hrun
          go_wp2_with fail
          go_ret2
          exact misPost_none HE.out HBX3.out
        | none =>
          simp only [Option.isSome_none, Bool.false_eq_true, if_false, Option.getD_none] at hrun
          obtain ⟨hf1, hf2⟩ := HNW.out rfl
          have HF1 := Lib.hid hf1
          have HF2 := Lib.hid hf2
          clear hf1 hf2
          go_wp2_with fail
          refine (HWC.out _).mono ?_
          rintro e w4 ⟨rfl, hb4⟩
          have HI4 := Lib.hid (HI3.out.below hb4)
          clear hb4 hrun k0 k1 k2 k3 k4
          go_wp2_with (at_mapUpdate; refine wpList_omap _ rfl _ _ _ 34 rfl 40 4 whoKeyed Tryd.underlying34 w0.heap.size k (dueF WL k) (by rfl) HI4.out.1 (by unfold maxLen; omega) (kv r p) (.bool true) (by rfl) (by rfl) kl HKL.out (dueF WL (k + 1)) HF1.out HF2.out ?_; intro w5 ho5 hg5)
          have HI5 := Lib.hid (HI4.out.due ho5 hg5)
          clear ho5 hg5
          go_wp2_with fail
          go_roundw
          case rel => exact ⟨k + 1, by omega, by go_num, by rw [HDN.out]; rfl, HI5⟩
          case measure => simp [intOf]; omega
    case rest =>
      obtain ⟨HND, HI⟩ := hcut
      have HRR : Hid (wrongF HL WL = if (wroF HL WL).length = 0 then (ordF HL WL HL.length, 0) else (wroF HL WL, 0)) := by show _ = _; rw [HR.out, if_neg (by rw [HND.out]; simp)]
      clear HR HND HMI
      go_upto_block 4 with (fail)
      have HS0 : Hid (S3 w0 M.length (dueF WL M.length) (thereF L 0) (.slice none 0 0) [] wc) := ⟨HI.out, World.ownsRow_nil _ _ _ _⟩
      clear HI
      obtain ⟨w6, hw6⟩ : ∃ w6, w6 = wc := ⟨_, rfl⟩
      subst hw6
      go_cut [14] (fun v wx => ∃ l : List Mis, l.length ≤ L.length ∧ Hid (l = extF HL WL L.length) ∧ Hid (S3 w0 (M.length + L.length) (dueF WL M.length) (thereF L L.length) v l wx))
      case first =>
        go_wp2_with fail
        go_loopw [14, 60] (fun v kv wr => ∃ (k : Nat) (l : List Mis), k ≤ L.length ∧ kv = .int .i64 (k : Int) ∧ l.length ≤ k ∧ Hid (l = extF HL WL k) ∧ Hid (S3 w0 (M.length + k) (dueF WL M.length) (thereF L k) v l wr)) (fun _ kv _ => L.length - (intOf kv).toNat)
        case atStart => exact ⟨0, [], Nat.zero_le _, rfl, by simp, rfl, HS0⟩
        case round =>
          clear HS0
          obtain ⟨k, l, hk, rfl, hl, HLm, HS⟩ := hrel
          obtain ⟨A2, c2, rfl⟩ := slice_of_own HS.out.2
          have HBW := Lib.hid (HB0.out.trans (HS.out.1.2.2.mono HB0.out.size))
          by_cases hlt : k < L.length
          case neg =>
            have hke : k = L.length := by omega
            have hd1 : decide (k < L.length) = false := by simpa using hlt
            have HE : Hid (l = extF HL WL L.length) := by show _ = _; rw [HLm.out, hke]
            have HSE : Hid (S3 w0 (M.length + L.length) (dueF WL M.length) (thereF L L.length) (.slice A2 l.length c2) l wr) := by show S3 _ _ _ _ _ _ _; have := HS.out; rw [hke] at this; exact this
            clear hke
            go_wp2_with fail
            go_meet
            case rel => exact ⟨l, by omega, HE, HSE⟩
          have hd1 : decide (k < L.length) = true := by simpa using hlt
          obtain ⟨b, off, hA, hb, d0, d1, d2, d3, d4⟩ := HX.out.cells HBW.out hlt
          obtain rfl : A = some ⟨b, off, none⟩ := hA
          have hsz := HSZX.out L[k] (List.getElem_mem hlt)
          obtain ⟨kl, hkl⟩ := keyWho L[k].r L[k].p hsz.1 hsz.2
          have HKL := Lib.hid hkl
          have hwk : HL.getD k dCrp = L[k].x := HATX.out k hlt
          have HTH : Hid (thereF L k (kv L[k].r L[k].p) = match fstK HL L[k].x k with | some i => some (L.getD i dCrd).v | none => none) := by show _ = _; rw [← HMX.out]; exact thereF_at L k L[k].x
          have HDU : Hid (dueF WL M.length (kv L[k].r L[k].p) = if (fstK WL L[k].x M.length).isSome = true then some (Value.bool true) else none) := dueF_at WL M.length L[k].x
          have HNW : Hid (fstK HL L[k].x k = none → thereF L (k + 1) (kv L[k].r L[k].p) = some L[k].v ∧ ∀ x, x ≠ kv L[k].r L[k].p → thereF L (k + 1) x = thereF L k x) := fun h => thereF_new hlt (by rw [HMX.out]; exact h)
          have HOLD : Hid (∀ i, fstK HL L[k].x k = some i → ∀ x, thereF L (k + 1) x = thereF L k x) := fun i h x => thereF_old hlt (by rw [HMX.out]; exact h) x
          have HEN : Hid (extF HL WL (k + 1) = if ((fstK HL L[k].x k).isSome || (fstK WL L[k].x M.length).isNone) = true then extF HL WL k ++ [mkM 2 L[k].x] else extF HL WL k) := by
            show _ = _; rw [extF]; unfold extB; rw [hwk, HLY.out]
          have HFS : Hid (∀ i, fstK HL L[k].x k = some i → i < L.length) := fun i h => by have := (fstK_some h).1; omega
          have HWC := Lib.hid (HWO.out L[k])
          have HMK := Lib.hid (fun (W : World) => mistake_any 2 L[k] W)
          have HPW : Hid (Below wr.heap.size wr (wr.alloc (.cells L[k].cs.toArray 38))) := (Below.refl _ _).alloc (Nat.le_refl _) _
          have HVV : Hid (L[k].v = .agg L[k].cs.toArray) := rfl
          clear hsz hkl hwk
          generalize L[k] = cc at *
          obtain ⟨fk, hfk⟩ : ∃ fk, fstK HL cc.x k = fk := ⟨_, rfl⟩
          obtain ⟨fw, hfw⟩ : ∃ fw, fstK WL cc.x M.length = fw := ⟨_, rfl⟩
          rw [hfk] at HNW HEN
          simp only [hfk] at HTH HOLD HFS
          rw [hfw] at HDU HEN
          clear hfk hfw
          obtain ⟨r, p, nm, ⟨sa, sc, sl⟩, m⟩ := cc
          simp only at d0 d1 d2 d3 d4 HKL HTH HDU HNW
          simp only [Crd.cs, Slc.v] at HWC HPW HMK HVV
          have HTHV : Hid (∃ (r7 p7 n7 : ByteArray) (a7 : Option Addr) (u7 v7 : Nat) (m7 : Int), (thereF L k (kv r p)).getD (.agg #[.string ⟨#[]⟩, .string ⟨#[]⟩, .string ⟨#[]⟩, .slice none 0 0, .int .i64 0]) = .agg #[.string r7, .string p7, .string n7, .slice a7 u7 v7, .int .i64 m7]) := by
            show ∃ (r7 p7 n7 : ByteArray) (a7 : Option Addr) (u7 v7 : Nat) (m7 : Int), _
            rw [HTH.out]
            cases fk with
            | none => exact ⟨_, _, _, none, 0, 0, _, rfl⟩
            | some i => exact ⟨_, _, _, _, _, _, _, rfl⟩
          have HTHS : Hid ((thereF L k (kv r p)).isSome = fk.isSome) := by show _ = _; rw [HTH.out]; cases fk <;> rfl
          obtain ⟨r7, p7, n7, a7, u7, v7, m7, h7⟩ := HTHV.out
          have H7 := Lib.hid h7
          clear h7 HTHV
          have HVC0 : Hid (∀ w3, Below (wr.alloc (.cells #[.string r, .string p, .string nm, .slice sa sl.length sc, .int .i64 m] 38)).heap.size (wr.alloc (.cells #[.string r, .string p, .string nm, .slice sa sl.length sc, .int .i64 m] 38)) w3 → VC w3 wr.heap.size r p nm (.slice sa sl.length sc) m) := fun w3 hb3 => cr_cells hb3
          go_wp2_with fail
          refine (HWC.out _).mono ?_
          rintro e w3 ⟨rfl, hb3⟩
          have HV3 := Lib.hid (HVC0.out w3 hb3)
          have HS3 := Lib.hid (HS.out.below (HPW.out.trans (hb3.mono HPW.out.size)))
          have hrun := HS3.out.1.2.1.look_ok whoKeyed Tryd.underlying35 zeroCredit HKL.out
          rw [H7.out, HTHS.out] at hrun
          obtain ⟨k0, k1, k2, k3, k4, hlt3⟩ := HV3.out
          clear hb3 d0 d1 d2 d3 d4
          have HP4 : Hid (Below w3.heap.size w3 (w3.alloc (.cells #[.string r7, .string p7, .string n7, .slice a7 u7 v7, .int .i64 m7] 38))) := (Below.refl _ _).alloc (Nat.le_refl _) _
          go_upto_region 21 with (fail)
          generalize w3.alloc (.cells #[.string r7, .string p7, .string n7, .slice a7 u7 v7, .int .i64 m7] 38) = w4 at HP4 ⊢
          have HS4 := Lib.hid (HS3.out.below HP4.out)
          have HV4 := Lib.hid (HV3.out.below HP4.out)
          have HB2W : Hid (w0.heap.size + 1 < wr.heap.size) := by show w0.heap.size + 1 < wr.heap.size; have := HS.out.size; omega
          have HBO : Hid (∀ b, (Value.slice A2 l.length c2).ownBlock = some b → b < wr.heap.size) := fun b hb => (HS.out.2.lt b hb).2
          clear hrun k0 k1 k2 k3 k4 hlt3 HS3 HV3 HP4 HVC0 HPW HS
          obtain ⟨g0, g1, g2, g3, g4, hlt4⟩ := HV4.out
          obtain ⟨bad, hbad⟩ : ∃ bad, (fk.isSome || fw.isNone) = bad := ⟨_, rfl⟩
          have HBD := Lib.hid hbad
          rw [hbad] at HEN
          clear hbad
          go_cut [78] (fun v wx => v = .bool bad ∧ Hid (S3 w0 (M.length + k) (dueF WL M.length) (thereF L k) (.slice A2 l.length c2) l wx) ∧ Hid (VC wx wr.heap.size r p nm (.slice sa sl.length sc) m))
          case first =>
            cases fk with
            | some i =>
              have hb1 : bad = true := by rw [← HBD.out]; rfl
              subst hb1
              simp only [Option.isSome_some]
              go_wp2_with fail
              go_meet
              case rel => exact ⟨rfl, HS4, HV4⟩
            | none =>
              simp only [Option.isSome_none]
              go_wp2_with fail
              refine (HWC.out _).mono ?_
              rintro e w5 ⟨rfl, hb5⟩
              have HS5 := Lib.hid (HS4.out.below hb5)
              have HV5 := Lib.hid (HV4.out.below hb5)
              have hrun := HS5.out.1.1.look whoKeyed Tryd.underlying34 zeroBool HKL.out
              rw [HDU.out] at hrun
              clear hb5 g0 g1 g2 g3 g4 hlt4
              cases fw with
              | some j =>
                have hb1 : bad = false := by rw [← HBD.out]; rfl
                subst hb1
                simp only [Option.isSome_some, if_true, Option.getD_some] at hrun
                go_wp2_with fail
                go_meet
                case rel => exact ⟨rfl, HS5, HV5⟩
              | none =>
                have hb1 : bad = true := by rw [← HBD.out]; rfl
                subst hb1
                simp only [Option.isSome_none, Bool.false_eq_true, if_false, Option.getD_none] at hrun
                go_wp2_with fail
                go_meet
                case rel => exact ⟨rfl, HS5, HV5⟩
          case rest =>
            clear HS4 HV4 g0 g1 g2 g3 g4 hlt4
            obtain ⟨rfl, HS4, HV4⟩ := hcut
            obtain ⟨w5, hw5⟩ : ∃ w5, w5 = wc := ⟨_, rfl⟩
            subst hw5
            obtain ⟨g0, g1, g2, g3, g4, hlt4⟩ := HV4.out
            go_upto_if 78 with (fail)
            go_cut [14] (fun v wx => ∃ l : List Mis, l.length ≤ k + 1 ∧ Hid (l = extF HL WL (k + 1)) ∧ Hid (S3 w0 (M.length + k) (dueF WL M.length) (thereF L k) v l wx) ∧ Hid (VC wx wr.heap.size r p nm (.slice sa sl.length sc) m))
            case first =>
              cases bad with
              | false =>
                have HN : Hid (extF HL WL (k + 1) = extF HL WL k) := by show _ = _; rw [HEN.out, if_neg (by simp)]
                go_wp2_with fail
                go_meet
                case rel => exact ⟨l, by omega, by rw [HN.out]; exact HLm, HS4, HV4⟩
              | true =>
                have HN : Hid (extF HL WL (k + 1) = extF HL WL k ++ [⟨2, r, p⟩]) := by show _ = _; rw [HEN.out, if_pos rfl]; rfl
                go_wp2_with fail
                refine (HMK.out _).mono ?_
                rintro e w8 ⟨rfl, hb8⟩
                have HS8 := Lib.hid (HS4.out.below hb8)
                have HV8 := Lib.hid (HV4.out.below hb8)
                have hs8 := HS8.out.size
                have hx8 := HV8.out.2.2.2.2.2
                clear hb8 g0 g1 g2 g3 g4 hlt4
                go_wp2_with (at_builtin; refine wpList_append_own _ rfl _ _ 23 rfl (w0.heap.size + 2) 29 ii _ 3 40 Tryd.underlying23 HII.out.1 HII.out.2.1 HII.out.2.2.1 HII.out.2.2.2 rfl (by decide) _ _ _ rfl (HS8.out.2.alloc _) ⟨w8.heap.size, 0, none⟩ 1 1 [.int .i64 2, .string r, .string p] (by rfl) (by rfl) (World.news_of_block (cs := #[.int .i64 2, .string r, .string p]) (t := 29) (fr := (0, 0)) (heap_alloc_new w8 _)) (by simp [Value.oneCell']) (by unfold maxLen; omega) (by omega) (by simp; omega) ?_; intro v1 w9 hown9 hgrow9 _)
                have HS9 : Hid (S3 w0 (M.length + k) (dueF WL M.length) (thereF L k) v1 (l ++ [⟨2, r, p⟩]) w9) := HS8.out.app ⟨2, r, p⟩ hown9 hgrow9
                have HV9 : Hid (VC w9 wr.heap.size r p nm (.slice sa sl.length sc) m) := by
                  refine VC.grown (VC.below HV8.out ((Below.refl _ _).alloc (Nat.le_refl _) (.cells #[.int .i64 2, .string r, .string p] 29))) hgrow9 (fun e => ?_)
                  have := HBO.out _ e.symm; omega
                have hl9 : (l ++ [(⟨2, r, p⟩ : Mis)]).length ≤ k + 1 := by simp; omega
                have HL9 : Hid (l ++ [(⟨2, r, p⟩ : Mis)] = extF HL WL (k + 1)) := by show _ = _; rw [HN.out, HLm.out]
                generalize l ++ [(⟨2, r, p⟩ : Mis)] = l9 at *
                clear hown9 hgrow9
                go_wp2_with fail
                go_meet
                case rel => exact ⟨l9, hl9, HL9, HS9, HV9⟩
            case rest =>
              clear HS4 HV4 g0 g1 g2 g3 g4 hlt4
              obtain ⟨l9, hl9, HL9, HS9, HV9⟩ := hcut
              obtain ⟨w9, hw9⟩ : ∃ w9, w9 = wc := ⟨_, rfl⟩
              subst hw9
              obtain ⟨A3, c3, rfl⟩ := slice_of_own HS9.out.2
              obtain ⟨g0, g1, g2, g3, g4, hlt9⟩ := HV9.out
              go_wp2_with fail
              refine (HWC.out _).mono ?_
              rintro e w10 ⟨rfl, hb10⟩
              have HS10 := Lib.hid (HS9.out.below hb10)
              have HV10 := Lib.hid (HV9.out.below hb10)
              have hrun := HS10.out.1.2.1.look_ok whoKeyed Tryd.underlying35 zeroCredit HKL.out
              rw [H7.out, HTHS.out] at hrun
              have HP11 : Hid (Below w10.heap.size w10 (w10.alloc (.cells #[.string r7, .string p7, .string n7, .slice a7 u7 v7, .int .i64 m7] 38))) := (Below.refl _ _).alloc (Nat.le_refl _) _
              clear hb10 g0 g1 g2 g3 g4 hlt9 HS9 HV9
              go_upto_region 24 with (fail)
              generalize w10.alloc (.cells #[.string r7, .string p7, .string n7, .slice a7 u7 v7, .int .i64 m7] 38) = w11 at HP11 ⊢
              have HS11 := Lib.hid (HS10.out.below HP11.out)
              have HV11 := Lib.hid (HV10.out.below HP11.out)
              have hb2w : w0.heap.size + 1 < wr.heap.size := HB2W.out
              clear hrun HS10 HV10 HP11
              cases fk with
              | some i =>
                have HS12 : Hid (S3 w0 (M.length + (k + 1)) (dueF WL M.length) (thereF L (k + 1)) (.slice A3 l9.length c3) l9 w11) := by
                  refine ⟨⟨HS11.out.1.1.mono (by omega), (HS11.out.1.2.1.congr (fun key _ _ => (HOLD.out i rfl key).symm)).mono (by omega), HS11.out.1.2.2⟩, HS11.out.2⟩
                simp only [Option.isSome_some]
                go_wp2_with fail
                go_roundw
                case rel => exact ⟨k + 1, l9, by omega, by go_num, hl9, HL9, HS12⟩
                case measure => simp [intOf]; omega
              | none =>
                simp only [Option.isSome_none]
                obtain ⟨hf1, hf2⟩ := HNW.out rfl
                rw [HVV.out] at hf1
                have HWU : Hid (∀ W, Gq w11 W → Calls Tryd.prog 10 #[.agg #[.string r, .string p, .string nm, .slice sa sl.length sc, .int .i64 m]] W fun e W' => e = .returned (kv r p) ∧ Gq w11 W' ∧ ∃ w', (Instr.mapUpdate 35 (.map (some (w0.heap.size + 1))) (kv r p) (.agg #[.string r, .string p, .string nm, .slice sa sl.length sc, .int .i64 m])).run Tryd.prog W' = .ok () w' ∧ OMap Tryd.prog 40 w' (w0.heap.size + 1) (M.length + k + 1) (thereF L (k + 1)) ∧ W'.grownBy w' (some (w0.heap.size + 1))) := fun W hW => by
                  refine (HWC.out W).mono ?_
                  rintro e W' ⟨he, hb⟩
                  have hW' : Gq w11 W' := Below.trans hW (hb.mono (Below.size hW))
                  exact ⟨he, hW', (HS11.out.1.2.1.below hW').update whoKeyed Tryd.underlying35 (by unfold maxLen; omega) _ HKL.out hf1 hf2⟩
                have HSS : Hid (∀ W, Gq w11 W → W.cell? ⟨wr.heap.size, 0, none⟩ = some (.string r) ∧ W.cell? ⟨wr.heap.size, 1, none⟩ = some (.string p) ∧ W.cell? ⟨wr.heap.size, 2, none⟩ = some (.string nm) ∧ W.cell? ⟨wr.heap.size, 3, none⟩ = some (.slice sa sl.length sc) ∧ W.cell? ⟨wr.heap.size, 4, none⟩ = some (.int .i64 m)) := fun W hW => by
                  obtain ⟨h0, h1, h2, h3, h4, _⟩ := HV11.out.below hW
                  exact ⟨h0, h1, h2, h3, h4⟩
                have HSK : Hid (∀ W W', Gq w11 W → W.grownBy W' (some (w0.heap.size + 1)) → W'.cell? ⟨wr.heap.size, 0, none⟩ = some (.string r) ∧ W'.cell? ⟨wr.heap.size, 1, none⟩ = some (.string p) ∧ W'.cell? ⟨wr.heap.size, 2, none⟩ = some (.string nm) ∧ W'.cell? ⟨wr.heap.size, 3, none⟩ = some (.slice sa sl.length sc) ∧ W'.cell? ⟨wr.heap.size, 4, none⟩ = some (.int .i64 m)) := fun W W' hW hg => by
                  obtain ⟨h0, h1, h2, h3, h4, _⟩ := (HV11.out.below hW).grown hg (fun e => by injection e with e; omega)
                  exact ⟨h0, h1, h2, h3, h4⟩
                have hBD : Gq w11 w11.drew := (Gq.refl _).drew
                clear hf1 hf2
                go_wp2_with fail
                go_region_held3 (fun W => W.cell? ⟨wr.heap.size, 0, none⟩ = some (.string r) ∧ W.cell? ⟨wr.heap.size, 1, none⟩ = some (.string p) ∧ W.cell? ⟨wr.heap.size, 2, none⟩ = some (.string nm) ∧ W.cell? ⟨wr.heap.size, 3, none⟩ = some (.slice sa sl.length sc) ∧ W.cell? ⟨wr.heap.size, 4, none⟩ = some (.int .i64 m))
                  (first | exact HSS.out _ hBD | exact HSS.out _ hqB | exact HSK.out _ _ hqB hg12)
                  (first | (go_at_call 10; refine (HWU.out _ hBD).mono ?_; rintro e wA ⟨rfl, hqB, w12, hrun, ho12, hg12⟩))
                all_goals
                  have HS12 : Hid (S3 w0 (M.length + (k + 1)) (dueF WL M.length) (thereF L (k + 1)) (.slice A3 l9.length c3) l9 w12) := (HS11.out.below hqB).there ho12 hg12
                  clear hrun ho12 hg12 hqB
                  go_wp2_with fail
                  go_roundw
                  case rel => exact ⟨k + 1, l9, by omega, by go_num, hl9, HL9, HS12⟩
                  case measure => simp [intOf]; omega
      case rest =>
        obtain ⟨lE, hlE, HLE, HSE⟩ := hcut
        obtain ⟨w7, hw7⟩ : ∃ w7, w7 = wc := ⟨_, rfl⟩
        subst hw7
        obtain ⟨AE, cE, rfl⟩ := slice_of_own HSE.out.2
        have HB7 := Lib.hid (HB0.out.trans (HSE.out.1.2.2.mono HB0.out.size))
        clear HS0
        go_upto_block 6 with (fail)
        go_cut [13, 15] (fun vm vo wx => ∃ lm lo : List Mis, lm.length ≤ M.length ∧ lo.length ≤ M.length ∧ Hid (lm = misF HL WL M.length) ∧ Hid (lo = othF HL WL M.length) ∧ Hid (S4 w7 vm lm vo lo wx))
        case first =>
          go_wp2_with fail
          go_loopw [13, 15, 100] (fun vm vo kv wr => ∃ (k : Nat) (lm lo : List Mis), k ≤ M.length ∧ kv = .int .i64 (k : Int) ∧ lm.length ≤ k ∧ lo.length ≤ k ∧ Hid (lm = misF HL WL k) ∧ Hid (lo = othF HL WL k) ∧ Hid (S4 w7 vm lm vo lo wr)) (fun _ _ kv _ => M.length - (intOf kv).toNat)
          case atStart => exact ⟨0, [], [], Nat.zero_le _, rfl, by simp, by simp, rfl, rfl, Below.refl _ _, World.ownsRow_nil _ _ _ _, World.ownsRow_nil _ _ _ _, fun b hb => by cases hb⟩
          case round =>
            obtain ⟨k, lm, lo, hk, rfl, hlm, hlo, HLm, HLo, HS⟩ := hrel
            obtain ⟨A2, c2, rfl⟩ := slice_of_own HS.out.2.1
            obtain ⟨A3, c3, rfl⟩ := slice_of_own HS.out.2.2.1
            have HBW := Lib.hid (HB7.out.trans (HS.out.1.mono HB7.out.size))
            by_cases hlt : k < M.length
            case neg =>
              have hke : k = M.length := by omega
              have hd1 : decide (k < M.length) = false := by simpa using hlt
              have HE1 : Hid (lm = misF HL WL M.length) := by show _ = _; rw [HLm.out, hke]
              have HE2 : Hid (lo = othF HL WL M.length) := by show _ = _; rw [HLo.out, hke]
              clear hke
              go_wp2_with fail
              go_meet
              case rel => exact ⟨lm, lo, by omega, by omega, HE1, HE2, HS⟩
            have hd1 : decide (k < M.length) = true := by simpa using hlt
            obtain ⟨b, off, hA, hb, d0, d1, d2, d3, d4⟩ := HY.out.cells HBW.out hlt
            obtain rfl : B = some ⟨b, off, none⟩ := hA
            have hsz := HSZY.out M[k] (List.getElem_mem hlt)
            obtain ⟨kl, hkl⟩ := keyWho M[k].r M[k].p hsz.1 hsz.2
            have HKL := Lib.hid hkl
            have hwk : WL.getD k dCrp = M[k].x := HATY.out k hlt
            have HTH : Hid (thereF L L.length (kv M[k].r M[k].p) = match fstK HL M[k].x L.length with | some i => some (L.getD i dCrd).v | none => none) := by show _ = _; rw [← HMX.out]; exact thereF_at L L.length M[k].x
            have HMN : Hid (misF HL WL (k + 1) = if fstK HL M[k].x L.length = none then misF HL WL k ++ [mkM 1 M[k].x] else misF HL WL k) := by
              show _ = _; rw [misF, hwk, HLX.out]
            have HON : Hid (othF HL WL (k + 1) = if othB HL WL k = true then othF HL WL k ++ [mkM 3 M[k].x] else othF HL WL k) := by show _ = _; rw [othF, hwk]
            have HOB : Hid (othB HL WL k = match fstK HL M[k].x L.length with | some i => !(decide ((HL.getD i dCrp).n = M[k].n) && decide ((HL.getD i dCrp).l = M[k].s.xs)) | none => false) := by
              show _ = _; unfold othB; rw [hwk, HLX.out]; rfl
            have HFS : Hid (∀ i, fstK HL M[k].x L.length = some i → i < L.length) := fun i h => (fstK_some h).1
            have HWC := Lib.hid (HWO.out M[k])
            have HMK1 := Lib.hid (fun (W : World) => mistake_any 1 M[k] W)
            have HMK3 := Lib.hid (fun (W : World) => mistake_any 3 M[k] W)
            have HPW : Hid (Below wr.heap.size wr (wr.alloc (.cells M[k].cs.toArray 38))) := (Below.refl _ _).alloc (Nat.le_refl _) _
            obtain ⟨_, _, _, o4, o5, _⟩ := HY.out.2.2 M[k] (List.getElem_mem hlt)
            have HRY := Lib.hid (o5.below HBW.out)
            clear hsz hkl hwk o5
            generalize M[k] = cc at *
            obtain ⟨fo, hfo⟩ : ∃ fo, fstK HL cc.x L.length = fo := ⟨_, rfl⟩
            rw [hfo] at HMN HOB HTH
            simp only [hfo] at HFS
            clear hfo
            obtain ⟨r, p, nm, ⟨sa, sc, sl⟩, m⟩ := cc
            simp only at d0 d1 d2 d3 d4 HKL HTH o4 HRY HOB
            simp only [Crd.cs, Slc.v] at HWC HPW HMK1 HMK3
            have HVC0 : Hid (∀ w3, Below (wr.alloc (.cells #[.string r, .string p, .string nm, .slice sa sl.length sc, .int .i64 m] 38)).heap.size (wr.alloc (.cells #[.string r, .string p, .string nm, .slice sa sl.length sc, .int .i64 m] 38)) w3 → VC w3 wr.heap.size r p nm (.slice sa sl.length sc) m) := fun w3 hb3 => cr_cells hb3
            go_wp2_with fail
            refine (HWC.out _).mono ?_
            rintro e w3 ⟨rfl, hb3⟩
            have HV3 := Lib.hid (HVC0.out w3 hb3)
            have HP3 := Lib.hid (HPW.out.trans (hb3.mono HPW.out.size))
            have HS3 := Lib.hid (HS.out.below HP3.out)
            have hrun := (HSE.out.1.2.1.below HS3.out.1).look_ok whoKeyed Tryd.underlying35 zeroCredit HKL.out
            rw [HTH.out] at hrun
            have HBX3 := Lib.hid (HBW.out.trans (HP3.out.mono HBW.out.size))
            have HRY3 := Lib.hid (HRY.out.below HP3.out)
            clear hb3 d0 d1 d2 d3 d4 HRY HP3 HS HVC0 HPW HTH
            cases fo with
            | none =>
              have HN1 : Hid (misF HL WL (k + 1) = misF HL WL k ++ [⟨1, r, p⟩]) := by show _ = _; rw [HMN.out, if_pos rfl]; rfl
              have HN2 : Hid (othF HL WL (k + 1) = othF HL WL k) := by show _ = _; rw [HON.out, HOB.out, if_neg (by simp)]
              simp only [Option.getD_none, Option.isSome_none] at hrun
              have HP4 : Hid (Below w3.heap.size w3 (w3.alloc (.cells #[.string ⟨#[]⟩, .string ⟨#[]⟩, .string ⟨#[]⟩, .slice none 0 0, .int .i64 0] 38))) := (Below.refl _ _).alloc (Nat.le_refl _) _
              obtain ⟨g0, g1, g2, g3, g4, hlt3⟩ := HV3.out.below HP4.out
              go_upto_region 31 with (fail)
              generalize w3.alloc (.cells #[.string ⟨#[]⟩, .string ⟨#[]⟩, .string ⟨#[]⟩, .slice none 0 0, .int .i64 0] 38) = w4 at HP4 g0 g1 g2 g3 g4 ⊢
              have HS4 := Lib.hid (HS3.out.below HP4.out)
              clear hrun HS3 HV3 HP4 HRY3 HBX3 hlt3
              go_wp2_with fail
              refine (HMK1.out _).mono ?_
              rintro e w8 ⟨rfl, hb8⟩
              have HS8 := Lib.hid (HS4.out.below hb8)
              have hs8 := HS8.out.1.size
              clear hb8 g0 g1 g2 g3 g4 HS4
              go_wp2_with (at_builtin; refine wpList_append_lies _ rfl _ _ 23 rfl w7.heap.size 29 ii _ 3 40 Tryd.underlying23 HII.out.1 HII.out.2.1 HII.out.2.2.1 HII.out.2.2.2 rfl (by decide) _ _ _ rfl (HS8.out.2.1.alloc _) ⟨w8.heap.size, 0, none⟩ 1 1 [.int .i64 1, .string r, .string p] (by rfl) (by rfl) (World.news_of_block (cs := #[.int .i64 1, .string r, .string p]) (t := 29) (fr := (0, 0)) (heap_alloc_new w8 _)) (by simp [Value.oneCell']) (by decide) (by unfold maxLen; omega) (by omega) (by simp; omega) (w8.heap.size + 1) (by simp) ?_; intro g9 cap9 w9 hown9 hgrow9 hat9 hlt9)
              have HS9 : Hid (S4 w7 (.slice (some ⟨g9, 0, none⟩) (lm.length + 1) cap9) (lm ++ [⟨1, r, p⟩]) (.slice A3 lo.length c3) lo w9) := HS8.out.app ⟨1, r, p⟩ hown9 hgrow9 hat9
              have hl9 : (lm ++ [(⟨1, r, p⟩ : Mis)]).length ≤ k + 1 := by simp; omega
              have HL9 : Hid (lm ++ [(⟨1, r, p⟩ : Mis)] = misF HL WL (k + 1)) := by show _ = _; rw [HN1.out, HLm.out]
              generalize lm ++ [(⟨1, r, p⟩ : Mis)] = l9 at *
              clear hown9 hgrow9 hat9 hlt9
              go_wp2_with fail
              go_roundw
              case rel => exact ⟨k + 1, l9, lo, by omega, by go_num, hl9, by omega, HL9, by rw [HN2.out]; exact HLo, HS9⟩
              case measure => simp [intOf]; omega
            | some j =>
              have hjl := HFS.out j rfl
              have HN1 : Hid (misF HL WL (k + 1) = misF HL WL k) := by show _ = _; rw [HMN.out, if_neg (by simp)]
              obtain ⟨_, _, _, o6, o7, _⟩ := HX.out.2.2 L[j] (List.getElem_mem hjl)
              have HRX3 := Lib.hid (o7.below HBX3.out)
              have HOB2 : Hid (othB HL WL k = !(decide (L[j].n = nm) && decide (L[j].s.xs = sl))) := by
                show _ = _; rw [HOB.out]; simp only; rw [show HL.getD j dCrp = L[j].x from HATX.out j hjl]; rfl
              simp only [Option.getD_some, Option.isSome_some] at hrun
              rw [getD_at L dCrd j hjl] at hrun
              clear o7 HOB
              generalize L[j] = cd at *
              obtain ⟨r6, p6, nm6, ⟨sa6, sc6, sl6⟩, m6⟩ := cd
              simp only at o6 HRX3 HOB2
              simp only [Crd.v, Crd.cs, Slc.v] at hrun
              have HP4 : Hid (Below w3.heap.size w3 (w3.alloc (.cells #[.string r6, .string p6, .string nm6, .slice sa6 sl6.length sc6, .int .i64 m6] 38))) := (Below.refl _ _).alloc (Nat.le_refl _) _
              have HV6 : Hid (VC (w3.alloc (.cells #[.string r6, .string p6, .string nm6, .slice sa6 sl6.length sc6, .int .i64 m6] 38)) w3.heap.size r6 p6 nm6 (.slice sa6 sl6.length sc6) m6) := cr_cells (Below.refl _ _)
              go_upto_region 31 with (fail)
              generalize w3.alloc (.cells #[.string r6, .string p6, .string nm6, .slice sa6 sl6.length sc6, .int .i64 m6] 38) = w4 at HP4 HV6 ⊢
              have HS4 := Lib.hid (HS3.out.below HP4.out)
              have HV4 := Lib.hid (HV3.out.below HP4.out)
              have HEQ := Lib.hid (equalS_any sa6 sa sc6 sc sl6 sl w4 (HRX3.out.below HP4.out) (HRY3.out.below HP4.out) o6)
              obtain ⟨g0, g1, g2, g3, g4, hlt4⟩ := HV4.out
              obtain ⟨e0, e1, e2, e3, e4, hlt6⟩ := HV6.out
              clear hrun HS3 HV3 HRY3 HBX3 HRX3 HP4 HV6
              obtain ⟨ob, hob⟩ : ∃ ob, othB HL WL k = ob := ⟨_, rfl⟩
              rw [hob] at HOB2 HON
              clear hob
              go_upto_region 33 with (fail)
              go_cut [119] (fun v wx => v = .bool ob ∧ Hid (S4 w7 (.slice A2 lm.length c2) lm (.slice A3 lo.length c3) lo wx) ∧ Hid (VC wx wr.heap.size r p nm (.slice sa sl.length sc) m))
              case first =>
                by_cases hnm : nm6 = nm
                · have s1 := seq_t hnm
                  have s2 : (nm6.toList != nm.toList) = false := by rw [bne, s1]; rfl
                  obtain ⟨q, hq⟩ : ∃ q, decide (sl6 = sl) = q := ⟨_, rfl⟩
                  have hq2 : ob = !q := by rw [HOB2.out, hq]; simp [hnm]
                  subst hq2
                  rw [hq] at HEQ
                  clear hq hnm
                  go_wp2_with fail
                  refine HEQ.out.mono ?_
                  rintro e w5 ⟨rfl, n5, hw5⟩
                  have HS5 : Hid (S4 w7 (.slice A2 lm.length c2) lm (.slice A3 lo.length c3) lo w5) := by rw [hw5]; exact HS4.out.below (below_drewN (Below.refl _ _) n5)
                  have HV5 : Hid (VC w5 wr.heap.size r p nm (.slice sa sl.length sc) m) := by rw [hw5]; exact HV4.out.below (below_drewN (Below.refl _ _) n5)
                  clear hw5 g0 g1 g2 g3 g4 e0 e1 e2 e3 e4
                  go_wp2_with fail
                  go_meet
                  case rel => exact ⟨rfl, HS5, HV5⟩
                · have s1 := seq_f hnm
                  have s2 : (nm6.toList != nm.toList) = true := by rw [bne, s1]; rfl
                  have hq2 : ob = true := by rw [HOB2.out]; simp [hnm]
                  subst hq2
                  clear hnm
                  go_wp2_with fail
                  go_meet
                  case rel => exact ⟨rfl, HS4, HV4⟩
              case rest =>
                clear HS4 HV4 g0 g1 g2 g3 g4 e0 e1 e2 e3 e4 hlt4 hlt6 HEQ
                obtain ⟨rfl, HS5, HV5⟩ := hcut
                obtain ⟨w5, hw5⟩ : ∃ w5, w5 = wc := ⟨_, rfl⟩
                subst hw5
                obtain ⟨g0, g1, g2, g3, g4, hlt5⟩ := HV5.out
                cases ob with
                | false =>
                  have HN2 : Hid (othF HL WL (k + 1) = othF HL WL k) := by show _ = _; rw [HON.out, if_neg (by simp)]
                  go_wp2_with fail
                  go_roundw
                  case rel => exact ⟨k + 1, lm, lo, by omega, by go_num, by omega, by omega, by rw [HN1.out]; exact HLm, by rw [HN2.out]; exact HLo, HS5⟩
                  case measure => simp [intOf]; omega
                | true =>
                  have HN2 : Hid (othF HL WL (k + 1) = othF HL WL k ++ [⟨3, r, p⟩]) := by show _ = _; rw [HON.out, if_pos rfl]; rfl
                  go_wp2_with fail
                  refine (HMK3.out _).mono ?_
                  rintro e w8 ⟨rfl, hb8⟩
                  have HS8 := Lib.hid (HS5.out.below hb8)
                  have hs8 := HS8.out.1.size
                  clear hb8 g0 g1 g2 g3 g4 HS5
                  go_wp2_with (at_builtin; refine wpList_append_lies _ rfl _ _ 23 rfl w7.heap.size 29 ii _ 3 40 Tryd.underlying23 HII.out.1 HII.out.2.1 HII.out.2.2.1 HII.out.2.2.2 rfl (by decide) _ _ _ rfl (HS8.out.2.2.1.alloc _) ⟨w8.heap.size, 0, none⟩ 1 1 [.int .i64 3, .string r, .string p] (by rfl) (by rfl) (World.news_of_block (cs := #[.int .i64 3, .string r, .string p]) (t := 29) (fr := (0, 0)) (heap_alloc_new w8 _)) (by simp [Value.oneCell']) (by decide) (by unfold maxLen; omega) (by omega) (by simp; omega) (w8.heap.size + 1) (by simp) ?_; intro g9 cap9 w9 hown9 hgrow9 hat9 hlt9)
                  have HS9 : Hid (S4 w7 (.slice A2 lm.length c2) lm (.slice (some ⟨g9, 0, none⟩) (lo.length + 1) cap9) (lo ++ [⟨3, r, p⟩]) w9) := (HS8.out.swap.app ⟨3, r, p⟩ hown9 hgrow9 hat9).swap
                  have hl9 : (lo ++ [(⟨3, r, p⟩ : Mis)]).length ≤ k + 1 := by simp; omega
                  have HL9 : Hid (lo ++ [(⟨3, r, p⟩ : Mis)] = othF HL WL (k + 1)) := by show _ = _; rw [HN2.out, HLo.out]
                  generalize lo ++ [(⟨3, r, p⟩ : Mis)] = l9 at *
                  clear hown9 hgrow9 hat9 hlt9
                  go_wp2_with fail
                  go_roundw
                  case rel => exact ⟨k + 1, lm, l9, by omega, by go_num, by omega, hl9, by rw [HN1.out]; exact HLm, HL9, HS9⟩
                  case measure => simp [intOf]; omega
        case rest =>
          obtain ⟨lm, lo, hlm, hlo, HLm, HLo, HS⟩ := hcut
          obtain ⟨A2, c2, rfl⟩ := slice_of_own HS.out.2.1
          obtain ⟨A3, c3, rfl⟩ := slice_of_own HS.out.2.2.1
          have HB8 := Lib.hid (HB7.out.trans (HS.out.1.mono HB7.out.size))
          obtain ⟨w8, hw8⟩ : ∃ w8, w8 = wc.alloc (.cells #[.slice A2 lm.length c2, .slice AE lE.length cE, .slice A3 lo.length c3] 23) := ⟨_, rfl⟩
          have HPA : Hid (Below wc.heap.size wc w8) := by rw [hw8]; exact (Below.refl _ _).alloc (Nat.le_refl _) _
          have HBL : Hid (Blk w8 wc.heap.size 23 [.slice A2 lm.length c2, .slice AE lE.length cE, .slice A3 lo.length c3]) := by rw [hw8]; exact Blk.new wc 23 _
          have HB9 := Lib.hid (HB8.out.trans (HPA.out.mono HB8.out.size))
          have HPT : Hid (Pts w8 [⟨A2, c2, lm⟩, ⟨AE, cE, lE⟩, ⟨A3, c3, lo⟩]) := fun s hs => by
            simp only [List.mem_cons, List.not_mem_nil, or_false] at hs
            rcases hs with rfl | rfl | rfl
            · exact ⟨_, own_belowL HS.out.2.1 HPA.out⟩
            · exact ⟨_, own_belowL HSE.out.2 (HS.out.1.trans (HPA.out.mono HS.out.1.size))⟩
            · exact ⟨_, own_belowL HS.out.2.2.1 HPA.out⟩
          have HCC := Lib.hid (concat_any wc.heap.size 3 3 [⟨A2, c2, lm⟩, ⟨AE, cE, lE⟩, ⟨A3, c3, lo⟩] w8 HBL.out HPT.out rfl (by simp; omega) (by simp))
          have HFL : Hid (([⟨A2, c2, lm⟩, ⟨AE, cE, lE⟩, ⟨A3, c3, lo⟩] : List (Slc Mis)).flatMap Slc.xs = wroF HL WL) := by
            show _ = _
            simp only [List.flatMap_cons, List.flatMap_nil, List.append_nil]
            unfold wroF
            rw [HLm.out, HLE.out, HLo.out, HLY.out, HLX.out, List.append_assoc]
          rw [HFL.out] at HCC
          have hwl : (wroF HL WL).length ≤ 3000 := by rw [← HFL.out]; simp; omega
          have HW8 := Lib.hid hw8
          have HWF := Lib.hid (@who_fields)
          have HNE := Lib.hid (@runNeK)
          have HEG := Lib.hid (@runEqG)
          clear hw8 HPT HBL HFL HLm HLo HLE HS HSE HB8 HPA
          go_wp2_with fail
          rw [← HW8.out]
          refine HCC.out.mono ?_
          rintro e w9 ⟨v9, rfl, hown9, hb9⟩
          have HO9 := Lib.hid hown9
          have HBT9 := Lib.hid hb9
          clear hown9 hb9 HW8 HCC
          have HFIN : Hid (∀ (k : Nat) (l : List Mis), l = (if (wroF HL WL).length = 0 then ordF HL WL k else wroF HL WL) → (l.length = 0 → k = HL.length) → k ≤ HL.length → wrongF HL WL = (l, 0)) := fun k l h1 h2 h3 => by
            rw [HRR.out]
            by_cases hz : (wroF HL WL).length = 0
            · rw [if_pos hz] at h1 ⊢
              by_cases hl0 : l.length = 0
              · rw [h1, h2 hl0]
              · rw [ordF_stay (k := k) (by rw [← h1]; exact fun e => hl0 (by rw [e]; rfl)) HL.length h3, h1]
            · rw [if_neg hz] at h1 ⊢; rw [h1]
          go_wp2_with fail
          go_loopw [26, 27] (fun v kv wr => ∃ (k : Nat) (l : List Mis), k ≤ L.length ∧ kv = .int .i64 (k : Int) ∧ l.length ≤ 3001 ∧ Hid (l = (if (wroF HL WL).length = 0 then ordF HL WL k else wroF HL WL)) ∧ Hid (wr.ownsRow w8.heap.size 29 3 v l.length (l.flatMap Mis.cs)) ∧ Hid (Below w8.heap.size w8 wr)) (fun _ kv _ => L.length + 1 - (intOf kv).toNat)
          case atStart =>
            refine ⟨0, wroF HL WL, Nat.zero_le _, rfl, by omega, ?_, HO9, HBT9⟩
            show _ = _
            split
            · rename_i h; rw [List.eq_nil_of_length_eq_zero h]; rfl
            · rfl
          case round =>
            clear HO9 HBT9 hwl
            obtain ⟨k, l, hk, rfl, hl, HLl, HO, HB⟩ := hrel
            obtain ⟨A9, c9, rfl⟩ := slice_of_own HO.out
            have HBW := Lib.hid (HB9.out.trans (HB.out.mono HB9.out.size))
            by_cases hl0 : l.length = 0
            case neg =>
              have hd0 : ((l.length : Int) == 0) = false := by simp; exact fun e => hl0 (by rw [e]; rfl)
              have hd0' : (l.length == 0) = false := by simp; exact fun e => hl0 (by rw [e]; rfl)
              have HE : Hid (wrongF HL WL = (l, 0)) := HFIN.out k l HLl.out (fun h => absurd h hl0) (by have := HLX.out; omega)
              have HRD := Lib.hid (Rd.of_own HO.out)
              clear hl0
              go_wp2_with fail
              go_ret2
              exact misPost_some HE.out rfl HRD.out HBW.out
            have hle : l = [] := List.eq_nil_of_length_eq_zero hl0
            subst hle
            clear hl0
            by_cases hlt : k < L.length
            case neg =>
              have hd1 : decide (k < L.length) = false := by simpa using hlt
              have HE : Hid (wrongF HL WL = ([], 0)) := HFIN.out k [] HLl.out (fun _ => by have := HLX.out; omega) (by have := HLX.out; omega)
              have HRD := Lib.hid (Rd.of_own HO.out)
              go_wp2_with fail
              go_ret2
              exact misPost_some HE.out rfl HRD.out HBW.out
            have hd1 : decide (k < L.length) = true := by simpa using hlt
            have HZ : Hid ((wroF HL WL).length = 0) := by
              show _ = _
              by_cases hz : (wroF HL WL).length = 0
              · exact hz
              · have := HLl.out; rw [if_neg hz] at this; rw [← this]; rfl
            have HOK : Hid (ordF HL WL k = []) := by show _ = _; have := HLl.out; rw [if_pos HZ.out] at this; exact this.symm
            have hltM : k < M.length := by
              have := wro_len HZ.out
              rw [HLX.out, HLY.out] at this; omega
            obtain ⟨b, off, hA, hb, d0, d1, d2, d3, d4⟩ := HX.out.cells HBW.out hlt
            obtain rfl : A = some ⟨b, off, none⟩ := hA
            obtain ⟨b6, off6, hA6, hb6, f0, f1, f2, f3, f4⟩ := HY.out.cells HBW.out hltM
            obtain rfl : B = some ⟨b6, off6, none⟩ := hA6
            have HSK : Hid (sameK (HL.getD k dCrp) (WL.getD k dCrp) = (decide (L[k].r = M[k].r) && decide (L[k].p = M[k].p))) := by show _ = _; rw [show HL.getD k dCrp = L[k].x from HATX.out k hlt, show WL.getD k dCrp = M[k].x from HATY.out k hltM]; rfl
            have HGO := Lib.hid (fun hs => ordF_go HOK.out hs)
            have HST := Lib.hid (fun hs => ordF_stop HOK.out hs (k + 1) (by omega))
            have HHX : Hid (HL.getD k dCrp = L[k].x) := HATX.out k hlt
            have HMK := Lib.hid (fun (W : World) => mistake_any 4 L[k] W)
            have hbl : b < wr.heap.size := Nat.lt_of_lt_of_le hb HBW.out.size
            have hbl6 : b6 < wr.heap.size := Nat.lt_of_lt_of_le hb6 HBW.out.size
            generalize L[k] = cc at *
            generalize M[k] = cd at *
            obtain ⟨r, p, nm, ⟨sa, sc, sl⟩, m⟩ := cc
            obtain ⟨r6, p6, nm6, ⟨sa6, sc6, sl6⟩, m6⟩ := cd
            simp only at d0 d1 d2 d3 d4 f0 f1 f2 f3 f4 HSK HHX
            simp only [Crd.cs, Slc.v] at HMK
            have j0 : (0 : Int) ≤ (k : Int) := by omega
            have j1 : (k : Int) < (M.length : Int) := by omega
            have j2 : (k : Int) < (L.length : Int) := by omega
            obtain ⟨q, hq⟩ : ∃ q, (decide (r = r6) && decide (p = p6)) = q := ⟨_, rfl⟩
            have hne := fun (W : World) => HNE.out r p r6 p6 W
            simp only [hq] at hne
            have heg := fun (a b : Operand) (W : World) => HEG.out r p r6 p6 a b W
            rw [hq] at HSK
            clear hq
            have HSS : Hid (∀ W, Gq wr W → W.cell? ⟨b, off + k * 5, none⟩ = some (.string r) ∧ W.cell? ⟨b, off + k * 5 + 1, none⟩ = some (.string p) ∧ W.cell? ⟨b, off + k * 5 + 2, none⟩ = some (.string nm) ∧ W.cell? ⟨b, off + k * 5 + 3, none⟩ = some (.slice sa sl.length sc) ∧ W.cell? ⟨b, off + k * 5 + 4, none⟩ = some (.int .i64 m)
                ∧ W.cell? ⟨b6, off6 + k * 5, none⟩ = some (.string r6) ∧ W.cell? ⟨b6, off6 + k * 5 + 1, none⟩ = some (.string p6) ∧ W.cell? ⟨b6, off6 + k * 5 + 2, none⟩ = some (.string nm6) ∧ W.cell? ⟨b6, off6 + k * 5 + 3, none⟩ = some (.slice sa6 sl6.length sc6) ∧ W.cell? ⟨b6, off6 + k * 5 + 4, none⟩ = some (.int .i64 m6) ∧ Gq wr W) := fun W hW => by
              have e1 : ∀ j : Nat, W.cell? ⟨b, j, none⟩ = wr.cell? ⟨b, j, none⟩ := fun j => Below.cell hW (by exact hbl)
              have e2 : ∀ j : Nat, W.cell? ⟨b6, j, none⟩ = wr.cell? ⟨b6, j, none⟩ := fun j => Below.cell hW (by exact hbl6)
              rw [e1, e1, e1, e1, e1, e2, e2, e2, e2, e2]
              exact ⟨d0, d1, d2, d3, d4, f0, f1, f2, f3, f4, hW⟩
            have hBD : Gq wr wr.drew := (Gq.refl _).drew
            have HNX : Hid (∀ W, Gq wr W → W.ownsRow w8.heap.size 29 3 (.slice A9 ([] : List Mis).length c9) ([] : List Mis).length (([] : List Mis).flatMap Mis.cs) ∧ Below w8.heap.size w8 W) := fun W hW => ⟨own_belowL HO.out hW, HB.out.trans (Below.mono hW HB.out.size)⟩
            go_wp2_with fail
            go_region_held3 (fun W => W.cell? ⟨b, off + k * 5, none⟩ = some (.string r) ∧ W.cell? ⟨b, off + k * 5 + 1, none⟩ = some (.string p) ∧ W.cell? ⟨b, off + k * 5 + 2, none⟩ = some (.string nm) ∧ W.cell? ⟨b, off + k * 5 + 3, none⟩ = some (.slice sa sl.length sc) ∧ W.cell? ⟨b, off + k * 5 + 4, none⟩ = some (.int .i64 m)
                ∧ W.cell? ⟨b6, off6 + k * 5, none⟩ = some (.string r6) ∧ W.cell? ⟨b6, off6 + k * 5 + 1, none⟩ = some (.string p6) ∧ W.cell? ⟨b6, off6 + k * 5 + 2, none⟩ = some (.string nm6) ∧ W.cell? ⟨b6, off6 + k * 5 + 3, none⟩ = some (.slice sa6 sl6.length sc6) ∧ W.cell? ⟨b6, off6 + k * 5 + 4, none⟩ = some (.int .i64 m6) ∧ Gq wr W)
              (first | exact HSS.out _ hBD | exact HSS.out _ hqB)
              (first | (go_at_call 10; refine (HWF.out _ _ _ _ _ _ _ wr _ (by first | assumption | (go_split_ands; assumption))).mono ?_; rintro e wA ⟨rfl, hqB⟩))
            all_goals
              obtain ⟨HOA, HBA⟩ := HNX.out wA hqB
              have HBXA := Lib.hid (HB9.out.trans (HBA.mono HB9.out.size))
              obtain ⟨f50, f51, f52, f53, f54, _⟩ := HSS.out wA hqB
              have HO10 := Lib.hid HOA
              have HB10 := Lib.hid HBA
              have hsz10 := HBA.size
              clear HSS HNX hne heg d0 d1 d2 d3 d4 f0 f1 f2 f3 f4 hBD hqB HOA HBA
              cases q with
              | true =>
                have HN : Hid (([] : List Mis) = if (wroF HL WL).length = 0 then ordF HL WL (k + 1) else wroF HL WL) := by show _ = _; rw [if_pos HZ.out, HGO.out HSK.out]
                simp only [Bool.not_true]
                go_wp2_with fail
                go_roundw
                case rel => exact ⟨k + 1, [], by omega, by go_num, by simp, HN, HO10, HB10⟩
                case measure => simp [intOf]; omega
              | false =>
                have HN : Hid (([] ++ [⟨4, r, p⟩] : List Mis) = if (wroF HL WL).length = 0 then ordF HL WL (k + 1) else wroF HL WL) := by show _ = _; rw [if_pos HZ.out, HST.out HSK.out, HHX.out]; rfl
                simp only [Bool.not_false]
                go_wp2_with fail
                refine (HMK.out _).mono ?_
                rintro e w11 ⟨rfl, hb11⟩
                have HO11 := Lib.hid (own_belowL HO10.out hb11)
                have HB11 := Lib.hid (HB10.out.trans (hb11.mono hsz10))
                have hs11 := HB11.out.size
                clear hb11 f50 f51 f52 f53 f54
                go_wp2_with (at_builtin; refine wpList_append_own _ rfl _ _ 23 rfl w8.heap.size 29 ii _ 3 40 Tryd.underlying23 HII.out.1 HII.out.2.1 HII.out.2.2.1 HII.out.2.2.2 rfl (by decide) _ _ _ rfl (HO11.out.alloc _) ⟨w11.heap.size, 0, none⟩ 1 1 [.int .i64 4, .string r, .string p] (by rfl) (by rfl) (World.news_of_block (cs := #[.int .i64 4, .string r, .string p]) (t := 29) (fr := (0, 0)) (heap_alloc_new w11 _)) (by simp [Value.oneCell']) (by unfold maxLen; simp) (by simp) (by simp; omega) ?_; intro v1 w12 hown12 hgrow12 _)
                have HO12 : Hid (w12.ownsRow w8.heap.size 29 3 v1 ([] ++ [(⟨4, r, p⟩ : Mis)]).length (([] ++ [(⟨4, r, p⟩ : Mis)]).flatMap Mis.cs)) := hown12
                have HB12 : Hid (Below w8.heap.size w8 w12) := (HB11.out.alloc hs11 _).grown hgrow12 (by simp; omega) (fun g hg => (HO11.out.lt g hg).1)
                have hl12 : ([] ++ [(⟨4, r, p⟩ : Mis)]).length ≤ 3001 := by simp
                generalize [] ++ [(⟨4, r, p⟩ : Mis)] = l12 at *
                clear hown12 hgrow12
                go_wp2_with fail
                go_roundw
                case rel => exact ⟨k + 1, l12, by omega, by go_num, hl12, HN, HO12, HB12⟩
                case measure => simp [intOf]; omega
end Go.Proofs.YtibkohnoibjimaaDoor
