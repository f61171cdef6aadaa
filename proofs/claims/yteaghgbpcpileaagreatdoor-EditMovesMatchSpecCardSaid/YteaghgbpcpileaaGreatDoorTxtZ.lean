/- Several texts laid into one: The builder's WriteString, laid by hand: for seats that have neither strings.Repeat nor strings.Join; Several texts laid into one: Contracts of the builder's WriteString and String; The contract of the closure of edit.write: a word, and a number; The contract of edit.write;; The contract of edit.Text; -/
import Derived.Shelf.Strings.OnBuilder
import Derived.Shelf.Strings.BuilderK
import Derived.Test.YteaghgbpcpileaaGreatDoorProg
import Derived.Test.YteaghgbpcpileaaGreatDoorLmbY
import Derived.Test.YteaghgbpcpileaaGreatDoorNumB
import Derived.Test.YteaghgbpcpileaaGreatDoorPlnA
import Derived.Test.YteaghgbpcpileaaGreatDoorShBld
import Derived.Deep.CutRange
import Derived.Test.YteaghgbpcpileaaGreatDoorEdtZ
import Derived.Test.YteaghgbpcpileaaGreatDoorPlnF
import Derived.Deep.RegionHeld3
import Derived.Deep.DeepCutAuto
import Derived.Deep.CutBlock
import Derived.Test.YteaghgbpcpileaaGreatDoorCliZ
/- The builder's WriteString, laid by hand: for seats that have neither strings.Repeat nor strings.Join. -/
namespace Go.Proofs.YteaghgbpcpileaaGreatDoor
open Go.Shelf

def wri_ren : Go.Shelf.Ren := ⟨fun | 166 => 67 | 240 => 82 | 276 => 103 | n => n, fun | 0 => 0 | 3 => 3 | 4 => 4 | 5 => 5 | 9 => 9 | 20 => 20 | 37 => 99 | 70 => 98 | 72 => 101 | 75 => 103 | 80 => 108 | 164 => 139 | n => n, fun | n => n⟩
theorem wri_lays : Go.Proofs.Lays.n166 Tryz.prog wri_ren where
  mixed := by kernel_rfl
  f166 := Tryz.func67.trans (congrArg some (by kernel_rfl))
  f240 := Tryz.func82.trans (congrArg some (by kernel_rfl))
  f276 := Tryz.func103.trans (congrArg some (by kernel_rfl))
  t0 := Tryz.underlying0
  a0 := Tryz.isAgg0
  z0 := Tryz.sizeOf0
  v0 := Tryz.zeroValue0
  t3 := Tryz.underlying3
  a3 := Tryz.isAgg3
  z3 := Tryz.sizeOf3
  v3 := Tryz.zeroValue3
  t4 := Tryz.underlying4
  a4 := Tryz.isAgg4
  z4 := Tryz.sizeOf4
  v4 := Tryz.zeroValue4
  t9 := Tryz.underlying9
  a9 := Tryz.isAgg9
  z9 := Tryz.sizeOf9
  v9 := Tryz.zeroValue9
  t20 := Tryz.underlying20
  a20 := Tryz.isAgg20
  z20 := Tryz.sizeOf20
  v20 := Tryz.zeroValue20
  t37 := Tryz.underlying99
  a37 := Tryz.isAgg99
  z37 := Tryz.sizeOf99
  v37 := Tryz.zeroValue99
  t70 := Tryz.underlying98
  a70 := Tryz.isAgg98
  z70 := Tryz.sizeOf98
  v70 := Tryz.zeroValue98
  t72 := Tryz.underlying101
  a72 := Tryz.isAgg101
  z72 := Tryz.sizeOf101
  v72 := Tryz.zeroValue101
  t75 := Tryz.underlying103
  a75 := Tryz.isAgg103
  z75 := Tryz.sizeOf103
  v75 := Tryz.zeroValue103
  t164 := Tryz.underlying139
  a164 := Tryz.isAgg139
  z164 := Tryz.sizeOf139
  v164 := Tryz.zeroValue139
end Go.Proofs.YteaghgbpcpileaaGreatDoor
/- Several texts laid into one: Contracts of the builder's WriteString and String; The contract of the closure of edit.write: a word, and a number; The contract of edit.write; -/
/- Contracts of the builder's WriteString and String. -/
namespace Go.Proofs.YteaghgbpcpileaaGreatDoor
open Go.RowKit Go.Dw

set_option maxRecDepth 100000 in
theorem ext169 : Builder.Extra Tryz.prog Tryz.lays169_ren where
  sizeBuilder := by kernel_rfl
  liesBuilder := by kernel_rfl
  t5 := Tryz.underlying5
  a5 := Tryz.isAgg5
  z5 := Tryz.sizeOf5
  v5 := Tryz.zeroValue5
  infoByte := by kernel_rfl
  cellsByte := by kernel_rfl
  sizeByte := by kernel_rfl
  neB5 := by decide
/-- a string's bytes; bytes as a string -/
def bl (s : ByteArray) : List UInt8 := s.data.toList
def mkB (l : List UInt8) : ByteArray := ⟨l.toArray⟩
theorem bl_mk (l : List UInt8) : bl (mkB l) = l := by simp [bl, mkB]
theorem bl_len (s : ByteArray) : (bl s).length = s.size := by unfold bl; rw [Array.length_toList]; rfl
theorem mkB_size (l : List UInt8) : (mkB l).size = l.length := by show l.toArray.size = _; simp
def IsB (B b : Nat) (l : List UInt8) (w : World) : Prop := Lib.IsBuilderF 101 5 B b (Lib.byteCells l) w
theorem isB_fresh (w : World) : IsB w.heap.size w.heap.size [] (w.alloc (.cells #[.pointer none, .slice none 0 0] 101)) := Lib.IsBuilderF.of (Lib.fresh_isBuilder _ _ w)
theorem builderAtF_below {T e : TypeId} {B b : Nat} {p : Value} {bs : List Value} {w w' : World} (h : Lib.BuilderAtF T e B b p bs w) (hb : Below w.heap.size w w') : Lib.BuilderAtF T e B b p bs w' := by
  have hlt := h.lt
  obtain ⟨h1, v, h2, h3, h4⟩ := h
  refine ⟨h1, v, ?_, h3.kept (row := none) ⟨hb.os, hb.tape, hb.output, hb.size, fun j hj _ => hb.block j hj⟩ (by cases hv : v.ownBlock <;> simp), h4⟩
  rw [hb.block b hlt]; exact h2
theorem IsB.below {B b : Nat} {l : List UInt8} {w w' : World} (h : IsB B b l w) (hb : Below w.heap.size w w') : IsB B b l w' :=
  h.elim (fun x => .inl (builderAtF_below x hb)) (fun x => .inr (builderAtF_below x hb))
theorem IsB.lt {B b : Nat} {l : List UInt8} {w : World} (h : IsB B b l w) : b < w.heap.size := h.elim (fun x => x.lt) (fun x => x.lt)
/-- blocks that a builder's writer leaves alone -/
def Oth (b : Nat) (w w' : World) : Prop := Lib.OthersKept 5 (some b) w w'
theorem Oth.blk {b g : Nat} {t : TypeId} {cs : List Value} {w w' : World} (h : Oth b w w') (hk : Blk w g t cs) (hg : g ≠ b) (ht : t ≠ 5) : Blk w' g t cs :=
  h g _ hk (by simpa using hg) (fun c fz e => by injection e with _ e2 _; exact ht e2)
theorem ext166 : Builder.Extra Tryz.prog wri_ren where
  sizeBuilder := by kernel_rfl
  liesBuilder := by kernel_rfl
  t5 := Tryz.underlying5
  a5 := Tryz.isAgg5
  z5 := Tryz.sizeOf5
  v5 := Tryz.zeroValue5
  infoByte := by kernel_rfl
  cellsByte := by kernel_rfl
  sizeByte := by kernel_rfl
  neB5 := by decide
theorem bwrite_any (B b : Nat) (l : List UInt8) (s : ByteArray) (w : World) (h : IsB B b l w) (hl : l.length + s.size ≤ 140737488355328) (hB : B ≤ w.heap.size) :
    Calls Tryz.prog 67 #[.pointer (some ⟨b, 0, none⟩), .string s] w fun e w' => e = .returned (.tuple #[.int .i64 s.size, .nilIface]) ∧ IsB B b (l ++ bl s) w' ∧ Below B w w' ∧ Oth b w w' :=
  (Any.Builder_WriteString_k wri_lays ext166 B b (Lib.byteCells l) s w h (by rw [Lib.byteCells_length]; exact hl) hB).mono fun _ _ ⟨h1, h2, h3, h4⟩ => ⟨h1, .inr (by
    have : Lib.byteCells (l ++ bl s) = Lib.byteCells l ++ Lib.strCells s := by simp [Lib.byteCells, Lib.strCells, bl]
    rw [this]; exact h2), h3, h4⟩
theorem bstring_any (B b : Nat) (l : List UInt8) (w : World) (h : IsB B b l w) (hB : B ≤ w.heap.size) :
    Calls Tryz.prog 69 #[.pointer (some ⟨b, 0, none⟩)] w fun e w' => e = .returned (.string (mkB l)) ∧ Below B w w' :=
  (Any.Builder_String_any_k Tryz.lays169 ext169 B b l w h hB).mono fun _ _ ⟨h1, _, h3, _⟩ => ⟨h1, h3⟩
theorem itoaM_any (m : Int) (w : World) (hm : inI64 m) (hp : HasPow w) :
    Calls Tryz.prog 68 #[.int .i64 m] w fun e w' => e = .returned (.string (mkB (Lib.itoa m))) ∧ Below w.heap.size w w' := itoaA_any m w hm hp
end Go.Proofs.YteaghgbpcpileaaGreatDoor
/- The contract of the closure of edit.write: a word, and a number. -/
namespace Go.Proofs.YteaghgbpcpileaaGreatDoor
open Go.RowKit Go.Dw

/-- a text is under way in a builder -/
def WI (w1 : World) (T : List UInt8) (W : World) : Prop := IsB w1.heap.size w1.heap.size T W ∧ Below w1.heap.size w1 W
theorem WI.gq {w1 W W' : World} {T : List UInt8} (h : WI w1 T W) (g : Gq W W') : WI w1 T W' := ⟨h.1.below g, h.2.trans (Below.mono g h.2.size)⟩
theorem WI.alloc {w1 W : World} {T : List UInt8} (h : WI w1 T W) (o : Obj) : WI w1 T (W.alloc o) := h.gq ((Gq.refl W).alloc o)
theorem WI.bel {w1 W : World} {T : List UInt8} (h : WI w1 T W) : Below w1.heap.size w1 W := h.2
/-- boxes that are kept -/
def Kp (b : Nat) (W W' : World) : Prop := ∀ g t cs, Blk W g t cs → g ≠ b → t ≠ 5 → Blk W' g t cs
theorem Kp.refl (b : Nat) (W : World) : Kp b W W := fun _ _ _ h _ _ => h
theorem Kp.trans {b : Nat} {U V W : World} (h : Kp b U V) (k : Kp b V W) : Kp b U W := fun g t cs h1 h2 h3 => k g t cs (h g t cs h1 h2 h3) h2 h3
theorem Kp.gq {b : Nat} {W W' : World} (h : Gq W W') : Kp b W W' := fun _ _ _ h1 _ _ => h1.same (Same.of_below (S := fun _ => True) h) trivial
theorem Kp.oth {b : Nat} {W W' : World} (h : Oth b W W') : Kp b W W' := fun _ _ _ h1 h2 h3 => h.blk h1 h2 h3
def WrR (w1 : World) (T : List UInt8) (W : World) (e : Ending) (W' : World) : Prop := (∃ v, e = .returned v) ∧ WI w1 T W' ∧ Kp w1.heap.size W W'
theorem write_any (w1 : World) (T : List UInt8) (s : ByteArray) (W : World) (h : WI w1 T W) (hl : T.length + s.size ≤ 1000000000) :
    Calls Tryz.prog 67 #[.pointer (some ⟨w1.heap.size, 0, none⟩), .string s] W (WrR w1 (T ++ bl s) W) :=
  (bwrite_any w1.heap.size w1.heap.size T s W h.1 (by omega) h.2.size).mono fun _ _ ⟨h1, h2, h3, h4⟩ => ⟨⟨_, h1⟩, ⟨h2, h.2.trans h3⟩, Kp.oth h4⟩
set_option maxRecDepth 100000 in
set_option maxHeartbeats 4000000 in
theorem num_any (w1 : World) (T : List UInt8) (s : ByteArray) (n : Int) (W : World) (h : WI w1 T W) (hl : T.length + s.size ≤ 900000000) (hn : inI64 n) (hp : HasPow w1) :
    Calls Tryz.prog 66 #[.string s, .int .i64 n, .pointer (some ⟨w1.heap.size, 0, none⟩)] W (WrR w1 (T ++ bl s ++ Lib.itoa n) W) := by
  have HW1 := Lib.hid (write_any w1 T s W h (by omega))
  have HIT : Hid (∀ V, WI w1 (T ++ bl s) V → Calls Tryz.prog 68 #[.int .i64 n] V fun e V' => e = .returned (.string (mkB (Lib.itoa n))) ∧ Gq V V') := fun V hV => itoaM_any n V hn (hp.below hV.2)
  have HW2 : Hid (∀ V, WI w1 (T ++ bl s) V → Calls Tryz.prog 67 #[.pointer (some ⟨w1.heap.size, 0, none⟩), .string (mkB (Lib.itoa n))] V (WrR w1 (T ++ bl s ++ Lib.itoa n) V)) := fun V hV => by
    have h1 := write_any w1 (T ++ bl s) (mkB (Lib.itoa n)) V hV (by rw [List.length_append, bl_len, mkB_size]; have := itoa_le n hn; omega)
    rw [bl_mk] at h1
    exact h1
  clear h hl hn hp
  generalize T ++ bl s ++ Lib.itoa n = T2 at *
  generalize T ++ bl s = T1 at *
  generalize mkB (Lib.itoa n) = ns at *
  go_enter Tryz.func66, Tryz.ntmps66
  go_wp2_with fail
  refine HW1.out.mono ?_
  rintro e V1 ⟨⟨v1, rfl⟩, hv1, hk1⟩
  have HV1 := Lib.hid hv1
  have HK1 := Lib.hid hk1
  clear hv1 hk1
  go_wp2_with fail
  refine (HIT.out _ HV1.out).mono ?_
  rintro e V2 ⟨rfl, hg2⟩
  have HV2 := Lib.hid (HV1.out.gq hg2)
  have HK2 := Lib.hid (HK1.out.trans (Kp.gq hg2))
  clear hg2
  go_wp2_with fail
  refine (HW2.out _ HV2.out).mono ?_
  rintro e V3 ⟨⟨v3, rfl⟩, hv3, hk3⟩
  have HV3 := Lib.hid hv3
  have HK3 := Lib.hid (HK2.out.trans hk3)
  clear hv3 hk3
  go_wp2_with fail
  go_end0
  exact ⟨⟨_, rfl⟩, HV3.out, HK3.out⟩
end Go.Proofs.YteaghgbpcpileaaGreatDoor
/- The contract of edit.write. -/
namespace Go.Proofs.YteaghgbpcpileaaGreatDoor
open Go.RowKit Go.Dw

/-- a number in a line -/
def numT (n : Int) : List UInt8 := 32 :: Lib.itoa n
def fiveN (c : Cli) : List Int := [c.ch, c.fr, c.tr, c.at_, c.ln]
def hdT (r t : Int) : List UInt8 := [101, 100, 105, 116, 32] ++ Lib.itoa r ++ [32] ++ Lib.itoa t ++ [10]
theorem cliT_eq (c : Cli) : cliT c = [99, 108, 105, 112, 32] ++ c.m.data.toList ++ (fiveN c).flatMap numT ++ c.e.flatMap pntT ++ [10] := by
  simp [cliT, fiveN, numT]
theorem ediT_eq (e : Edt) : ediT e = hdT e.rate e.tracks ++ e.cs.flatMap cliT := by simp [ediT, hdT]
theorem flat_take_snoc {α : Type} (f : α → List UInt8) (l : List α) (k : Nat) (h : k < l.length) : (l.take (k + 1)).flatMap f = (l.take k).flatMap f ++ f l[k] := by
  rw [List.take_succ_eq_append_getElem h, List.flatMap_append]; simp
theorem hdT_len {r t : Int} (hr : inI64 r) (ht : inI64 t) : (hdT r t).length ≤ 60 := by
  unfold hdT
  have h1 := itoa_le r hr
  have h2 := itoa_le t ht
  simp only [List.length_append, List.length_cons, List.length_nil]; omega
set_option maxRecDepth 100000 in
set_option maxHeartbeats 16000000 in
theorem write_e (e : EdtM) (w : World) (h : EdtOk w e) (hr : EdiRt isNm 1000000 e.x) (hp : HasPow w) :
    Calls Tryz.prog 45 #[e.v] w fun en w' => en = .returned (.string (mkB (ediT e.x))) ∧ Below w.heap.size w w' := by
  obtain ⟨rt, tk, ⟨A, d, xs⟩⟩ := e
  have HOK := Lib.hid h
  have HRT := Lib.hid hr
  obtain ⟨w1, hw1⟩ : ∃ w1, w1 = w.alloc (.cells #[.int .i64 rt, .int .i64 tk, .slice A xs.length d] 24) := ⟨_, rfl⟩
  have HB : Hid (Gq w w1) := by rw [hw1]; exact (Gq.refl _).alloc _
  have HK : Hid (Blk w1 w.heap.size 24 [.int .i64 rt, .int .i64 tk, .slice A xs.length d]) := by rw [hw1]; exact Blk.new w _ _
  have HPW : Hid (HasPow w1) := hp.below HB.out
  have HW := Lib.hid hw1
  obtain ⟨w2, hw2⟩ : ∃ w2, w2 = w1.alloc (.cells #[.pointer none, .slice none 0 0] 101) := ⟨_, rfl⟩
  have HW2 := Lib.hid hw2
  have HI2 : Hid (WI w1 [] w2) := by rw [hw2]; exact ⟨isB_fresh w1, (Gq.refl w1).alloc _⟩
  obtain ⟨r1, r2⟩ := h.rate
  obtain ⟨t1, t2⟩ := h.tracks
  have hcl := h.cl
  simp only at r1 r2 t1 t2 hcl
  have HR : Hid (Rd w1 A (xs.flatMap CliM.cs)) := HB.out.rd h.cr
  have HS : Hid (∀ T W, WI w1 T W → W.cell? ⟨w.heap.size, 0, none⟩ = some (.int .i64 rt) ∧ W.cell? ⟨w.heap.size, 1, none⟩ = some (.int .i64 tk) ∧ W.cell? ⟨w.heap.size, 2, none⟩ = some (.slice A xs.length d)) := fun T W hW => by
    have k1 := HK.out.same (Same.of_below (S := fun _ => True) hW.2) trivial
    exact ⟨k1.cell 0, k1.cell 1, k1.cell 2⟩
  simp only [EdtM.x, EdtM.v, Slc.v]
  have hhd := hdT_len (r := rt) (t := tk) ⟨r1, r2⟩ ⟨t1, t2⟩
  have HN1 : Hid (∀ W, WI w1 [] W → Calls Tryz.prog 66 #[.string ⟨#[101, 100, 105, 116, 32]⟩, .int .i64 rt, .pointer (some ⟨w1.heap.size, 0, none⟩)] W (WrR w1 ([101, 100, 105, 116, 32] ++ Lib.itoa rt) W)) := fun W hW =>
    num_any w1 [] ⟨#[101, 100, 105, 116, 32]⟩ rt W hW (by show 0 + 5 ≤ _; omega) ⟨r1, r2⟩ HPW.out
  have HN2 : Hid (∀ W, WI w1 ([101, 100, 105, 116, 32] ++ Lib.itoa rt) W → Calls Tryz.prog 66 #[.string ⟨#[32]⟩, .int .i64 tk, .pointer (some ⟨w1.heap.size, 0, none⟩)] W (WrR w1 ([101, 100, 105, 116, 32] ++ Lib.itoa rt ++ [32] ++ Lib.itoa tk) W)) := fun W hW =>
    num_any w1 _ ⟨#[32]⟩ tk W hW (by have := itoa_le rt ⟨r1, r2⟩; rw [List.length_append]; show 5 + (Lib.itoa rt).length + 1 ≤ _; omega) ⟨t1, t2⟩ HPW.out
  have HN3 : Hid (∀ W, WI w1 ([101, 100, 105, 116, 32] ++ Lib.itoa rt ++ [32] ++ Lib.itoa tk) W → Calls Tryz.prog 67 #[.pointer (some ⟨w1.heap.size, 0, none⟩), .string ⟨#[10]⟩] W (WrR w1 (hdT rt tk) W)) := fun W hW =>
    write_any w1 _ ⟨#[10]⟩ W hW (by have : (hdT rt tk).length = ([101, 100, 105, 116, 32] ++ Lib.itoa rt ++ [32] ++ Lib.itoa tk : List UInt8).length + 1 := by simp [hdT]; omega
                                    show _ + 1 ≤ _; omega)
  clear hw1 hw2 h hr hp
  obtain ⟨c0, c1, c2⟩ := HS.out _ _ HI2.out
  go_enter Tryz.func45, Tryz.ntmps45
  go_upto_region 1 with (fail)
  rw [← HW.out]
  go_upto_region 3 with (fail)
  rw [← HW2.out]
  go_wp2_with fail
  refine (HN1.out _ HI2.out).mono ?_
  rintro e w3 ⟨⟨v3, rfl⟩, hw3, -⟩
  have HI3 := Lib.hid hw3
  clear hw3 c0 c1 c2 HN1
  obtain ⟨c0, c1, c2⟩ := HS.out _ _ HI3.out
  go_wp2_with fail
  refine (HN2.out _ HI3.out).mono ?_
  rintro e w4 ⟨⟨v4, rfl⟩, hw4, -⟩
  have HI4 := Lib.hid hw4
  clear hw4 c0 c1 c2 HN2
  go_wp2_with fail
  refine (HN3.out _ HI4.out).mono ?_
  rintro e w5 ⟨⟨v5, rfl⟩, hw5, -⟩
  have HI5 := Lib.hid hw5
  clear hw5 HN3
  obtain ⟨c0, c1, c2⟩ := HS.out _ _ HI5.out
  obtain ⟨H0, hH0⟩ : ∃ H0, H0 = hdT rt tk := ⟨_, rfl⟩
  rw [← hH0] at HI5 hhd
  have HET : Hid (ediT ⟨rt, tk, xs.map CliM.x⟩ = H0 ++ (xs.map CliM.x).flatMap cliT) := by show _ = _; rw [ediT_eq, hH0]
  have HXC : Hid (∀ k (hk : k < xs.length), CliRt isNm tk xs[k].x) := fun k hk => HRT.out.c _ (List.mem_map_of_mem (List.getElem_mem hk))
  have hcl2 : xs.length ≤ 300 := by have := HRT.out.l; simpa [EdtM.x] using this
  have htk2 : tk ≤ 16 := HRT.out.t.2
  have HTL : Hid (∀ k, (((xs.map CliM.x).take k).flatMap cliT).length ≤ 1800000) := fun k => by
    have h1 := take_flat_le cliT 6000 (xs.map CliM.x) k (fun c hc => cliT_len isNm_len (HRT.out.c c hc) htk2)
    rw [List.length_map] at h1
    have : xs.length * 6000 ≤ 300 * 6000 := Nat.mul_le_mul_right _ hcl2
    omega
  have HSN : Hid (∀ k (hk : k < xs.length), ((xs.map CliM.x).take (k + 1)).flatMap cliT = ((xs.map CliM.x).take k).flatMap cliT ++ cliT xs[k].x) := fun k hk => by
    rw [flat_take_snoc cliT _ k (by simpa using hk)]; simp
  clear hH0
  go_wp2_with fail
  clear c0 c1 c2
  go_loopw [24] (fun kv wr => ∃ k : Nat, k ≤ xs.length ∧ kv = .int .i64 (k : Int) ∧ Hid (WI w1 (H0 ++ ((xs.map CliM.x).take k).flatMap cliT) wr)) (fun kv _ => xs.length - (intOf kv).toNat)
  case atStart => exact ⟨0, Nat.zero_le _, rfl, by show WI _ _ _; simpa using HI5.out⟩
  case round =>
    clear HI5
    obtain ⟨k, hk, rfl, HI⟩ := hrel
    obtain ⟨wo, hwo⟩ : ∃ wo, wo = wr := ⟨_, rfl⟩
    subst hwo
    by_cases hlt : k < xs.length
    case neg =>
      have hd1 : decide (k < xs.length) = false := by simpa using hlt
      have HE : Hid (H0 ++ ((xs.map CliM.x).take k).flatMap cliT = ediT ⟨rt, tk, xs.map CliM.x⟩) := by show _ = _; rw [HET.out, List.take_of_length_le (by simp; omega)]
      have HST := Lib.hid (bstring_any w1.heap.size w1.heap.size _ wo HI.out.1 HI.out.2.size)
      rw [HE.out] at HST
      have HBW := Lib.hid HI.out.2
      go_wp2_with fail
      refine HST.out.mono ?_
      rintro e w6 ⟨rfl, hb6⟩
      have HB6 : Hid (Gq w w6) := HB.out.trans (HBW.out.trans hb6)
      clear hb6
      go_wp2_with fail
      go_ret
      exact ⟨rfl, HB6.out⟩
    have hd1 : decide (k < xs.length) = true := by simpa using hlt
    obtain ⟨b, off, rfl, hb, hc⟩ := cli_at (Gq.rd HI.out.2 HR.out) (by omega)
    obtain ⟨d0, d1, d2, d3, d4, d5, d6⟩ := hc k hlt
    have HCR := Lib.hid (HXC.out k hlt)
    have HSK := Lib.hid (HSN.out k hlt)
    have HER : Hid (Rd w1 xs[k].e.a (xs[k].e.xs.flatMap Pnt.cs)) := HB.out.rd (HOK.out.co _ (List.getElem_mem hlt)).er
    have hl0 : (H0 ++ ((xs.map CliM.x).take k).flatMap cliT).length ≤ 1800060 := by rw [List.length_append]; have := HTL.out k; omega
    obtain ⟨T0, hT0⟩ : ∃ T0, T0 = H0 ++ ((xs.map CliM.x).take k).flatMap cliT := ⟨_, rfl⟩
    obtain ⟨TE, hTE⟩ : ∃ TE, TE = H0 ++ ((xs.map CliM.x).take (k + 1)).flatMap cliT := ⟨_, rfl⟩
    have HTE2 := Lib.hid hTE
    have HTT : Hid (TE = T0 ++ cliT xs[k].x) := by show _ = _; rw [hTE, hT0, HSK.out, List.append_assoc]
    rw [← hT0] at HI hl0
    obtain ⟨x, hx⟩ : ∃ x, xs[k] = x := ⟨_, rfl⟩
    rw [hx] at d0 d1 d2 d3 d4 d5 d6 HCR HER HTT
    clear hc HSK hT0 hTE hx
    obtain ⟨xm, xc, xf, xt, xa, xl, ⟨xA, xd, xe⟩⟩ := x
    simp only [CliM.x] at d0 d1 d2 d3 d4 d5 d6 HCR HER HTT
    have hxe : xe.length ≤ 50 := HCR.out.e1
    have hxm : xm.size ≤ 40 := isNm_len _ HCR.out.m
    obtain ⟨wA, hwA⟩ : ∃ wA, wA = wo.alloc (.cells #[.string xm, .int .i64 xc, .int .i64 xf, .int .i64 xt, .int .i64 xa, .int .i64 xl, .slice xA xe.length xd] 39) := ⟨_, rfl⟩
    have HIA : Hid (WI w1 T0 wA) := by rw [hwA]; exact HI.out.alloc _
    have HKA : Hid (Blk wA wo.heap.size 39 [.string xm, .int .i64 xc, .int .i64 xf, .int .i64 xt, .int .i64 xa, .int .i64 xl, .slice xA xe.length xd]) := by rw [hwA]; exact Blk.new wo _ _
    have HWA := Lib.hid hwA
    have hne : wo.heap.size ≠ w1.heap.size := by have := HI.out.1.lt; omega
    have a0 : wA.cell? ⟨wo.heap.size, 0, none⟩ = some (.string xm) := HKA.out.cell 0
    have hov : ¬ (9223372036854775807 < 5 + xm.size) := by omega
    obtain ⟨s1, hs1⟩ : ∃ s1 : ByteArray, s1 = ⟨#[99, 108, 105, 112, 32]⟩ ++ xm := ⟨_, rfl⟩
    have hs1l : bl s1 = [99, 108, 105, 112, 32] ++ bl xm := by rw [hs1]; simp [bl, ByteArray.data_append]
    have hs1z : s1.size = 5 + xm.size := by rw [← bl_len, hs1l, List.length_append, bl_len]; rfl
    have HWR := Lib.hid (write_any w1 T0 s1 wA HIA.out (by omega))
    have HS1 := Lib.hid hs1
    clear hwA hs1
    go_upto_region 9 with (fail)
    rw [← HWA.out]
    go_wp2_with fail
    rw [← HS1.out]
    refine HWR.out.mono ?_
    rintro e w6 ⟨⟨v6, rfl⟩, hw6, hk6⟩
    rw [hs1l] at hw6
    have HI6 : Hid (WI w1 (T0 ++ ([99, 108, 105, 112, 32] ++ bl xm)) w6) := hw6
    have HK6 : Hid (Blk w6 wo.heap.size 39 [.string xm, .int .i64 xc, .int .i64 xf, .int .i64 xt, .int .i64 xa, .int .i64 xl, .slice xA xe.length xd]) := hk6 _ _ _ HKA.out hne (by decide)
    have HL6 : Hid (wo.heap.size < w6.heap.size) := HK6.out.lt
    obtain ⟨T1, hT1⟩ : ∃ T1, T1 = T0 ++ ([99, 108, 105, 112, 32] ++ bl xm) := ⟨_, rfl⟩
    have hl1 : T1.length ≤ 1800200 := by rw [hT1, List.length_append, List.length_append, bl_len]; show _ + (5 + _) ≤ _; omega
    rw [← hT1] at HI6
    have HT1 := Lib.hid hT1
    obtain ⟨fv, hfv⟩ : ∃ fv : List Int, fv = [xc, xf, xt, xa, xl] := ⟨_, rfl⟩
    have HFV := Lib.hid hfv
    obtain ⟨w7, hw7⟩ : ∃ w7, w7 = w6.alloc (.cells #[.int .i64 xc, .int .i64 xf, .int .i64 xt, .int .i64 xa, .int .i64 xl] 3) := ⟨_, rfl⟩
    have HI7 : Hid (WI w1 T1 w7) := by rw [hw7]; exact HI6.out.alloc _
    have HG7 : Hid (Gq w6 w7) := by rw [hw7]; exact (Gq.refl _).alloc _
    have HK7 : Hid (Blk w7 wo.heap.size 39 [.string xm, .int .i64 xc, .int .i64 xf, .int .i64 xt, .int .i64 xa, .int .i64 xl, .slice xA xe.length xd]) := Kp.gq (b := w1.heap.size) HG7.out _ _ _ HK6.out hne (by decide)
    have HF7 : Hid (Blk w7 w6.heap.size 3 (ic fv)) := by rw [hw7, hfv]; exact Blk.new w6 _ _
    have hne6 : w6.heap.size ≠ w1.heap.size := by have := HI6.out.1.lt; omega
    have HFI : Hid (∀ n ∈ fv, inI64 n ∧ (Lib.itoa n).length ≤ 21) := fun n hn => by
      obtain ⟨⟨q1, q2⟩, ⟨q3, q4⟩, ⟨q5, q6⟩, ⟨q7, q8⟩, ⟨q9, q10⟩, q11⟩ := HCR.out.r
      simp only at q1 q2 q3 q4 q5 q6 q7 q8 q9 q10 q11
      have key : ∀ z : Int, 0 ≤ z → z ≤ 10000000000000 → inI64 z ∧ (Lib.itoa z).length ≤ 21 := fun z h1 h2 => ⟨⟨by omega, by omega⟩, itoa_le z ⟨by omega, by omega⟩⟩
      rw [hfv] at hn
      simp only [List.mem_cons, List.not_mem_nil, or_false] at hn
      rcases hn with rfl | rfl | rfl | rfl | rfl <;> exact key _ (by omega) (by omega)
    have hfl : fv.length = 5 := by rw [hfv]; rfl
    have HW7 := Lib.hid hw7
    have b1 : w6.cell? ⟨wo.heap.size, 1, none⟩ = some (.int .i64 xc) := HK6.out.cell 1
    have b2 : w6.cell? ⟨wo.heap.size, 2, none⟩ = some (.int .i64 xf) := HK6.out.cell 2
    have b3 : w6.cell? ⟨wo.heap.size, 3, none⟩ = some (.int .i64 xt) := HK6.out.cell 3
    have b4 : w6.cell? ⟨wo.heap.size, 4, none⟩ = some (.int .i64 xa) := HK6.out.cell 4
    have b5 : w6.cell? ⟨wo.heap.size, 5, none⟩ = some (.int .i64 xl) := HK6.out.cell 5
    clear hw6 hk6 hT1 hfv hw7 HWR HS1 hs1l hs1z a0 d0 d1 d2 d3 d4 d5 d6 HI HIA HKA
    go_upto_block 2 with (fail)
    rw [← HW7.out]
    clear b1 b2 b3 b4 b5
    go_cut [] (fun wx => Hid (WI w1 (T1 ++ fv.flatMap numT) wx ∧ Blk wx wo.heap.size 39 [.string xm, .int .i64 xc, .int .i64 xf, .int .i64 xt, .int .i64 xa, .int .i64 xl, .slice xA xe.length xd]))
    case first =>
      go_wp2_with fail
      go_loopw [44] (fun jv wr => ∃ j : Nat, j ≤ 5 ∧ jv = .int .i64 (j : Int) ∧ Hid (WI w1 (T1 ++ (fv.take j).flatMap numT) wr ∧ Blk wr wo.heap.size 39 [.string xm, .int .i64 xc, .int .i64 xf, .int .i64 xt, .int .i64 xa, .int .i64 xl, .slice xA xe.length xd] ∧ Blk wr w6.heap.size 3 (ic fv))) (fun jv _ => 5 - (intOf jv).toNat)
      case atStart => exact ⟨0, by omega, rfl, by show WI _ _ _ ∧ _; simpa using ⟨HI7.out, HK7.out, HF7.out⟩⟩
      case round =>
        clear HI7 HK7 HF7
        obtain ⟨j, hj, rfl, HJ⟩ := hrel
        by_cases hj5 : j < 5
        case neg =>
          have hd2 : decide (j < 5) = false := by simpa using hj5
          have HE : Hid (WI w1 (T1 ++ fv.flatMap numT) wr ∧ Blk wr wo.heap.size 39 [.string xm, .int .i64 xc, .int .i64 xf, .int .i64 xt, .int .i64 xa, .int .i64 xl, .slice xA xe.length xd]) := by
            have h1 := HJ.out.1
            rw [List.take_of_length_le (by omega)] at h1
            exact ⟨h1, HJ.out.2.1⟩
          have hj5 : j = 5 := by omega
          subst hj5
          go_wp2_with fail
          go_meet
          case rel => exact HE
        have hd2 : decide (j < 5) = true := by simpa using hj5
        have f0 : wr.cell? ⟨w6.heap.size, j, none⟩ = some (.int .i64 (fv[j]'(by omega))) := by rw [HJ.out.2.2.cell, ic_at _ _ (by omega)]
        obtain ⟨q1, q2⟩ := HFI.out (fv[j]'(by omega)) (List.getElem_mem _)
        have HNJ := Lib.hid (num_any w1 (T1 ++ (fv.take j).flatMap numT) ⟨#[32]⟩ (fv[j]'(by omega)) wr HJ.out.1 (by
          have h1 := take_flat_le numT 22 fv j (fun n hn => by have := (HFI.out n hn).2; unfold numT; rw [List.length_cons]; omega)
          rw [List.length_append]; show _ + 1 ≤ _; omega) q1 HPW.out)
        have HTJ : Hid (T1 ++ (fv.take j).flatMap numT ++ bl ⟨#[32]⟩ ++ Lib.itoa (fv[j]'(by omega)) = T1 ++ (fv.take (j + 1)).flatMap numT) := by
          show _ = _
          rw [flat_take_snoc numT _ j (by omega)]
          simp [numT, bl]
        rw [HTJ.out] at HNJ
        generalize fv[j]'(by omega) = z at *
        clear HTJ q1 q2
        have j0 : (0 : Int) ≤ (j : Int) := by omega
        have j1 : (j : Int) < 5 := by omega
        go_wp2_with fail
        refine HNJ.out.mono ?_
        rintro e w8 ⟨⟨v8, rfl⟩, hw8, hk8⟩
        have HJ2 : Hid (WI w1 (T1 ++ (fv.take (j + 1)).flatMap numT) w8 ∧ Blk w8 wo.heap.size 39 [.string xm, .int .i64 xc, .int .i64 xf, .int .i64 xt, .int .i64 xa, .int .i64 xl, .slice xA xe.length xd] ∧ Blk w8 w6.heap.size 3 (ic fv)) :=
          ⟨hw8, hk8 _ _ _ HJ.out.2.1 hne (by decide), hk8 _ _ _ HJ.out.2.2 hne6 (by decide)⟩
        clear hw8 hk8
        go_wp2_with fail
        go_roundw
        case rel => exact ⟨j + 1, by omega, by go_num, HJ2⟩
        case measure => simp [intOf]; omega
    case rest =>
      obtain ⟨HIC, HKC⟩ := hcut.out
      have HIC := Lib.hid HIC
      have b6 : wc.cell? ⟨wo.heap.size, 6, none⟩ = some (.slice xA xe.length xd) := HKC.cell 6
      clear HKC hcut HI7 HK7 HF7 HK6 HI6 HG7 HW7
      have hl2 : (T1 ++ fv.flatMap numT).length ≤ 1800400 := by
        have h1 := flat_le numT 22 fv (fun n hn => by have := (HFI.out n hn).2; unfold numT; rw [List.length_cons]; omega)
        rw [List.length_append]; omega
      have HTF : Hid (TE = T1 ++ fv.flatMap numT ++ xe.flatMap pntT ++ [10]) := by
        show _ = _
        rw [HTT.out, cliT_eq, HT1.out, HFV.out]
        simp [fiveN, bl]
      obtain ⟨T2, hT2⟩ : ∃ T2, T2 = T1 ++ fv.flatMap numT := ⟨_, rfl⟩
      rw [← hT2] at HIC hl2 HTF
      clear hT2
      have HPE : Hid (∀ p ∈ xe, PntR xl p) := HCR.out.p
      have hxl : xl ≤ 100000 := by obtain ⟨_, _, _, ⟨q1, _⟩, ⟨_, q4⟩, _⟩ := HCR.out.r; simp only at q1 q4; omega
      have hl3 : ∀ j, ((xe.take j).flatMap pntT).length ≤ 5500 := fun j => by
        have h1 := take_flat_le pntT 110 xe j (fun p hp => pntT_len (HPE.out p hp) hxl)
        have : xe.length * 110 ≤ 50 * 110 := Nat.mul_le_mul_right _ hxe
        omega
      have HL3 := Lib.hid hl3
      clear hl3
      go_upto_block 4 with (fail)
      clear b6
      go_cut [] (fun wx => Hid (WI w1 (T2 ++ xe.flatMap pntT) wx))
      case first =>
        go_wp2_with fail
        go_loopw [55] (fun jv wr => ∃ j : Nat, j ≤ xe.length ∧ jv = .int .i64 (j : Int) ∧ Hid (WI w1 (T2 ++ (xe.take j).flatMap pntT) wr)) (fun jv _ => xe.length - (intOf jv).toNat)
        case atStart => exact ⟨0, by omega, rfl, by show WI _ _ _; simpa using HIC.out⟩
        case round =>
          clear HIC
          obtain ⟨j, hj, rfl, HJ⟩ := hrel
          by_cases hje : j < xe.length
          case neg =>
            have hd2 : decide (j < xe.length) = false := by simpa using hje
            have HE : Hid (WI w1 (T2 ++ xe.flatMap pntT) wr) := by
              have h1 := HJ.out
              rw [List.take_of_length_le (by omega)] at h1
              exact h1
            go_wp2_with fail
            go_meet
            case rel => exact HE
          have hd2 : decide (j < xe.length) = true := by simpa using hje
          obtain ⟨bp, op, rfl, hbp, hcp⟩ := pnt_at (Gq.rd HJ.out.2 HER.out) (by omega)
          obtain ⟨e0, e1, e2⟩ := hcp j hje
          have HPJ := Lib.hid (HPE.out _ (List.getElem_mem hje))
          have HTJ := Lib.hid (flat_take_snoc pntT xe j hje)
          have hlj := HL3.out j
          have hlk : (T2 ++ (xe.take j).flatMap pntT).length ≤ 1806000 := by rw [List.length_append]; omega
          obtain ⟨T3, hT3⟩ : ∃ T3, T3 = T2 ++ (xe.take j).flatMap pntT := ⟨_, rfl⟩
          have HT4 : Hid (T2 ++ (xe.take (j + 1)).flatMap pntT = T3 ++ pntT xe[j]) := by show _ = _; rw [HTJ.out, hT3, List.append_assoc]
          rw [← hT3] at HJ hlk
          clear hcp HTJ hT3 hlj
          generalize xe[j] = pt at *
          obtain ⟨pa, pn, pd⟩ := pt
          simp only at e0 e1 e2
          obtain ⟨wP, hwP⟩ : ∃ wP, wP = wr.alloc (.cells #[.int .i64 pa, .string pn, .string pd] 75) := ⟨_, rfl⟩
          have HIP : Hid (WI w1 T3 wP) := by rw [hwP]; exact HJ.out.alloc _
          have HKP : Hid (Blk wP wr.heap.size 75 [.int .i64 pa, .string pn, .string pd]) := by rw [hwP]; exact Blk.new wr _ _
          have hnp : wr.heap.size ≠ w1.heap.size := by have := HJ.out.1.lt; omega
          have p0 : wP.cell? ⟨wr.heap.size, 0, none⟩ = some (.int .i64 pa) := HKP.out.cell 0
          have hpa : inI64 pa := by have := HPJ.out.a; simp only at this; exact ⟨by omega, by omega⟩
          have hpl : (Lib.itoa pa).length ≤ 21 := itoa_le pa hpa
          have hnl : pn.size ≤ 41 := by have h1 := boT_ge pn; have h2 := HPJ.out.n; simp only at h2; omega
          have hdl : pd.size ≤ 40 := by have h1 := HPJ.out.d; simp only at h1; rw [ba_len] at h1; exact h1
          have HNJ := Lib.hid (num_any w1 T3 ⟨#[32]⟩ pa wP HIP.out (by show _ + 1 ≤ _; omega) hpa HPW.out)
          obtain ⟨s2, hs2⟩ : ∃ s2 : ByteArray, s2 = ⟨#[58]⟩ ++ pn ++ ⟨#[47]⟩ ++ pd := ⟨_, rfl⟩
          have hs2l : bl s2 = [58] ++ bl pn ++ [47] ++ bl pd := by rw [hs2]; simp [bl, ByteArray.data_append]
          have hs2z : s2.size ≤ 90 := by rw [← bl_len, hs2l]; simp only [List.length_append, bl_len, List.length_cons, List.length_nil]; omega
          obtain ⟨T4, hT4⟩ : ∃ T4, T4 = T3 ++ bl ⟨#[32]⟩ ++ Lib.itoa pa := ⟨_, rfl⟩
          have hl4 : T4.length ≤ 1806100 := by rw [hT4, List.length_append, List.length_append]; show _ + 1 + _ ≤ _; omega
          have HT5 : Hid (T4 ++ bl s2 = T2 ++ (xe.take (j + 1)).flatMap pntT) := by
            show _ = _
            rw [HT4.out, hT4, hs2l]
            simp [pntT, bl]
          rw [← hT4] at HNJ
          have HWR2 : Hid (∀ W, WI w1 T4 W → Calls Tryz.prog 67 #[.pointer (some ⟨w1.heap.size, 0, none⟩), .string s2] W (WrR w1 (T2 ++ (xe.take (j + 1)).flatMap pntT) W)) := fun W hW => by
            have := write_any w1 T4 s2 W hW (by omega)
            rw [HT5.out] at this
            exact this
          have HS2 := Lib.hid hs2
          have HWP := Lib.hid hwP
          have ov1 : ¬ (9223372036854775807 < 1 + pn.size) := by omega
          have ov2 : ¬ (9223372036854775807 < 1 + pn.size + 1) := by omega
          have ov3 : ¬ (9223372036854775807 < 1 + pn.size + 1 + pd.size) := by omega
          have j0 : (0 : Int) ≤ (j : Int) := by omega
          have j1 : (j : Int) < (xe.length : Int) := by omega
          clear hT4 hs2 hwP HT4 HPJ hpa hs2l hs2z hl4 hlk hpl
          go_upto_region 18 with (fail)
          rw [← HWP.out]
          go_wp2_with fail
          refine HNJ.out.mono ?_
          rintro e w8 ⟨⟨v8, rfl⟩, hw8, hk8⟩
          have HI8 : Hid (WI w1 T4 w8) := hw8
          have HK8 : Hid (Blk w8 wr.heap.size 75 [.int .i64 pa, .string pn, .string pd]) := hk8 _ _ _ HKP.out hnp (by decide)
          have q1 : w8.cell? ⟨wr.heap.size, 1, none⟩ = some (.string pn) := HK8.out.cell 1
          have q2 : w8.cell? ⟨wr.heap.size, 2, none⟩ = some (.string pd) := HK8.out.cell 2
          clear hw8 hk8 p0 HNJ HIP HKP e0 e1 e2
          go_wp2_with fail
          rw [← HS2.out]
          refine (HWR2.out _ HI8.out).mono ?_
          rintro e w9 ⟨⟨v9, rfl⟩, hw9, -⟩
          have HI9 := Lib.hid hw9
          clear hw9 q1 q2
          go_wp2_with fail
          go_roundw
          case rel => exact ⟨j + 1, by omega, by go_num, HI9⟩
          case measure => simp [intOf]; omega
      case rest =>
        obtain ⟨wd, hwd⟩ : ∃ wd, wd = wc := ⟨_, rfl⟩
        have HI9 : Hid (WI w1 (T2 ++ xe.flatMap pntT) wc) := hcut
        have HWN : Hid (∀ W, WI w1 (T2 ++ xe.flatMap pntT) W → Calls Tryz.prog 67 #[.pointer (some ⟨w1.heap.size, 0, none⟩), .string ⟨#[10]⟩] W (WrR w1 TE W)) := fun W hW => by
          have := write_any w1 _ ⟨#[10]⟩ W hW (by
            have h1 := HL3.out xe.length
            rw [List.take_length] at h1
            rw [List.length_append]; show _ + 1 ≤ _; omega)
          rw [HTF.out]
          exact this
        clear hcut hwd HIC
        go_wp2_with fail
        refine (HWN.out _ HI9.out).mono ?_
        rintro e w10 ⟨⟨v10, rfl⟩, hw10, -⟩
        have HIZ : Hid (WI w1 (H0 ++ ((xs.map CliM.x).take (k + 1)).flatMap cliT) w10) := by show WI _ _ _; rw [← HTE2.out]; exact hw10
        clear hw10
        go_wp2_with fail
        go_roundw
        case rel => exact ⟨k + 1, by omega, by go_num, HIZ⟩
        case measure => simp [intOf]; omega
end Go.Proofs.YteaghgbpcpileaaGreatDoor
/- The contract of edit.Text. -/
namespace Go.Proofs.YteaghgbpcpileaaGreatDoor
open Go.RowKit Go.Dw

def TxtR (e : Edt) (w : World) (en : Ending) (w' : World) : Prop := en = .returned (.tuple #[.string (mkB (txtF isNm 1000000 e).1), .int .i64 (txtF isNm 1000000 e).2]) ∧ Below w.heap.size w w'
theorem txtF_bad {nm : ByteArray → Bool} {mx : Int} {e : Edt} {f : Int} (h : ediF nm mx e = f) (h0 : f ≠ 0) : txtF nm mx e = ([], f) := by unfold txtF; rw [h, if_pos h0]
theorem txtF_big {nm : ByteArray → Bool} {mx : Int} {e : Edt} (h : ediF nm mx e = 0) (g : 500000 < (ediT e).length) : txtF nm mx e = ([], 2) := by unfold txtF; rw [h, if_neg (by omega), if_pos g]
theorem txtF_ok {nm : ByteArray → Bool} {mx : Int} {e : Edt} (h : ediF nm mx e = 0) (g : ¬ 500000 < (ediT e).length) : txtF nm mx e = (ediT e, 0) := by unfold txtF; rw [h, if_neg (by omega), if_neg g]
set_option maxRecDepth 100000 in
set_option maxHeartbeats 4000000 in
theorem text_e (e : EdtM) (w : World) (h : EdtOk w e) (hp : HasPow w) :
    Calls Tryz.prog 28 #[e.v] w (TxtR e.x w) := by
  have HCK : Hid (∀ W, Gq w W → Calls Tryz.prog 20 #[e.v] W fun en w' => en = .returned (.int .i64 (ediF isNm 1000000 e.x)) ∧ Gq W w') := fun W hW => check_any e W (h.below hW)
  obtain ⟨f, hf⟩ : ∃ f, ediF isNm 1000000 e.x = f := ⟨_, rfl⟩
  have HF := Lib.hid hf
  rw [hf] at HCK
  have HWR : Hid (f = 0 → ∀ W, Gq w W → Calls Tryz.prog 45 #[e.v] W fun en w' => en = .returned (.string (mkB (ediT e.x))) ∧ Gq W w') := fun h0 W hW => write_e e W (h.below hW) (ediF_ok (by rw [hf]; exact h0)) (hp.below hW)
  have HTR : Hid (∀ en w', TxtR e.x w en w' ↔ en = .returned (.tuple #[.string (mkB (txtF isNm 1000000 e.x).1), .int .i64 (txtF isNm 1000000 e.x).2]) ∧ Below w.heap.size w w') := fun _ _ => Iff.rfl
  obtain ⟨ex, hex⟩ : ∃ ex, e.x = ex := ⟨_, rfl⟩
  rw [hex] at HWR HTR HF ⊢
  obtain ⟨rt, tk, ⟨A, d, xs⟩⟩ := e
  simp only [EdtM.v, Slc.v] at HCK HWR ⊢
  generalize (xs.length : Nat) = xn at *
  obtain ⟨w1, hw1⟩ : ∃ w1, w1 = w.alloc (.cells #[.int .i64 rt, .int .i64 tk, .slice A xn d] 24) := ⟨_, rfl⟩
  have HB : Hid (Gq w w1) := by rw [hw1]; exact (Gq.refl _).alloc _
  have HK : Hid (Blk w1 w.heap.size 24 [.int .i64 rt, .int .i64 tk, .slice A xn d]) := by rw [hw1]; exact Blk.new w _ _
  have c0 : w1.cell? ⟨w.heap.size, 0, none⟩ = some (.int .i64 rt) := HK.out.cell 0
  have c1 : w1.cell? ⟨w.heap.size, 1, none⟩ = some (.int .i64 tk) := HK.out.cell 1
  have c2 : w1.cell? ⟨w.heap.size, 2, none⟩ = some (.slice A xn d) := HK.out.cell 2
  have HW := Lib.hid hw1
  clear hw1 hf h hp hex
  go_enter Tryz.func28, Tryz.ntmps28
  go_upto_region 1 with (fail)
  rw [← HW.out]
  go_wp2_with fail
  refine (HCK.out _ HB.out).mono ?_
  rintro e w2 ⟨rfl, hb2⟩
  have HB2 : Hid (Gq w w2) := HB.out.trans hb2
  have HK2 := Lib.hid (HK.out.same (Same.of_below (S := fun _ => True) hb2) trivial)
  clear hb2 c0 c1 c2
  by_cases h0 : f = 0
  case neg =>
    have HQ := Lib.hid (txtF_bad HF.out h0)
    have hfb : (!(f == 0)) = true := by simp [h0]
    go_wp2_with fail
    go_ret2
    exact (HTR.out _ _).2 ⟨by rw [HQ.out]; rfl, HB2.out⟩
  have HE2 := Lib.hid (HWR.out h0 w2 HB2.out)
  subst h0
  have c0 : w2.cell? ⟨w.heap.size, 0, none⟩ = some (.int .i64 rt) := HK2.out.cell 0
  have c1 : w2.cell? ⟨w.heap.size, 1, none⟩ = some (.int .i64 tk) := HK2.out.cell 1
  have c2 : w2.cell? ⟨w.heap.size, 2, none⟩ = some (.slice A xn d) := HK2.out.cell 2
  go_wp2_with fail
  refine HE2.out.mono ?_
  rintro e w3 ⟨rfl, hb3⟩
  have HB3 : Hid (Gq w w3) := HB2.out.trans hb3
  clear hb3
  have hz := mkB_size (ediT ex)
  obtain ⟨s, hs⟩ : ∃ s, mkB (ediT ex) = s := ⟨_, rfl⟩
  rw [hs] at hz ⊢
  have HS := Lib.hid hs
  have HZ := Lib.hid hz
  clear hs hz
  by_cases hb : 500000 < s.size
  · have HQ := Lib.hid (txtF_big HF.out (by rw [← HZ.out]; exact hb))
    have hbb : decide (500000 < s.size) = true := by simpa using hb
    go_wp2_with fail
    go_ret2
    exact (HTR.out _ _).2 ⟨by rw [HQ.out]; rfl, HB3.out⟩
  · have HQ := Lib.hid (txtF_ok HF.out (by rw [← HZ.out]; exact hb))
    have hbb : decide (500000 < s.size) = false := by simpa using hb
    go_wp2_with fail
    go_ret2
    exact (HTR.out _ _).2 ⟨by rw [HQ.out]; show _ = Ending.returned (.tuple #[.string (mkB (ediT ex)), .int .i64 0]); rw [HS.out]; rfl, HB3.out⟩
end Go.Proofs.YteaghgbpcpileaaGreatDoor
