/- The contract of the closure of edit.write: a word, and a number. -/
import Derived.Test.YtpiiickhfcjnmaaGreatDoorBldK
import Derived.Test.YtpiiickhfcjnmaaGreatDoorNumB
import Derived.Test.YtpiiickhfcjnmaaGreatDoorPlnA
import Derived.Deep.CutRange
namespace Go.Proofs.YtpiiickhfcjnmaaGreatDoor
open Go.RowKit Go.Dw

/-- a text is under way in a builder -/
def WI (w1 : World) (T : List UInt8) (W : World) : Prop := IsB w1.heap.size w1.heap.size T W ∧ Below w1.heap.size w1 W
theorem WI.gq {w1 W W' : World} {T : List UInt8} (h : WI w1 T W) (g : Gq W W') : WI w1 T W' := ⟨h.1.below g, h.2.trans (Below.mono g h.2.size)⟩
theorem WI.alloc {w1 W : World} {T : List UInt8} (h : WI w1 T W) (o : Obj) : WI w1 T (W.alloc o) := h.gq ((Gq.refl W).alloc o)
theorem WI.bel {w1 W : World} {T : List UInt8} (h : WI w1 T W) : Below w1.heap.size w1 W := h.2
/-- boxes that are kept -/
def Kp (b : Nat) (W W' : World) : Prop := ∀ g t cs, Blk W g t cs → g ≠ b → t ≠ 5 → Blk W' g t cs
theorem Kp.refl (b : Nat) (W : World) : Kp b W W := fun _ _ _ h _ _ => h
theorem Kp.trans {b : Nat} {U V W : World} (h : Kp b U V) (k : Kp b V W) : Kp b U W := fun g t cs h1 h2 h3 => k g t cs (h g t cs h1 h2 h3) h2 h3
theorem Kp.gq {b : Nat} {W W' : World} (h : Gq W W') : Kp b W W' := fun _ _ _ h1 _ _ => h1.same (Same.of_below (S := fun _ => True) h) trivial
theorem Kp.oth {b : Nat} {W W' : World} (h : Oth b W W') : Kp b W W' := fun _ _ _ h1 h2 h3 => h.blk h1 h2 h3
def WrR (w1 : World) (T : List UInt8) (W : World) (e : Ending) (W' : World) : Prop := (∃ v, e = .returned v) ∧ WI w1 T W' ∧ Kp w1.heap.size W W'
theorem write_any (w1 : World) (T : List UInt8) (s : ByteArray) (W : World) (h : WI w1 T W) (hl : T.length + s.size ≤ 1000000000) :
    Calls Tryz.prog 67 #[.pointer (some ⟨w1.heap.size, 0, none⟩), .string s] W (WrR w1 (T ++ bl s) W) :=
  (bwrite_any w1.heap.size w1.heap.size T s W h.1 (by omega) h.2.size).mono fun _ _ ⟨h1, h2, h3, h4⟩ => ⟨⟨_, h1⟩, ⟨h2, h.2.trans h3⟩, Kp.oth h4⟩
set_option maxRecDepth 100000 in
set_option maxHeartbeats 4000000 in
theorem num_any (w1 : World) (T : List UInt8) (s : ByteArray) (n : Int) (W : World) (h : WI w1 T W) (hl : T.length + s.size ≤ 900000000) (hn : inI64 n) (hp : HasPow w1) :
    Calls Tryz.prog 66 #[.string s, .int .i64 n, .pointer (some ⟨w1.heap.size, 0, none⟩)] W (WrR w1 (T ++ bl s ++ Lib.itoa n) W) := by
  have HW1 := Lib.hid (write_any w1 T s W h (by omega))
  have HIT : Hid (∀ V, WI w1 (T ++ bl s) V → Calls Tryz.prog 68 #[.int .i64 n] V fun e V' => e = .returned (.string (mkB (Lib.itoa n))) ∧ Gq V V') := fun V hV => itoaM_any n V hn (hp.below hV.2)
  have HW2 : Hid (∀ V, WI w1 (T ++ bl s) V → Calls Tryz.prog 67 #[.pointer (some ⟨w1.heap.size, 0, none⟩), .string (mkB (Lib.itoa n))] V (WrR w1 (T ++ bl s ++ Lib.itoa n) V)) := fun V hV => by
    have h1 := write_any w1 (T ++ bl s) (mkB (Lib.itoa n)) V hV (by rw [List.length_append, bl_len, mkB_size]; have := itoa_le n hn; omega)
    rw [bl_mk] at h1
    exact h1
  clear h hl hn hp
  generalize T ++ bl s ++ Lib.itoa n = T2 at *
  generalize T ++ bl s = T1 at *
  generalize mkB (Lib.itoa n) = ns at *
  go_enter Tryz.func66, Tryz.ntmps66
  go_wp2_with fail
  refine HW1.out.mono ?_
  rintro e V1 ⟨⟨v1, rfl⟩, hv1, hk1⟩
  have HV1 := Lib.hid hv1
  have HK1 := Lib.hid hk1
  clear hv1 hk1
  go_wp2_with fail
  refine (HIT.out _ HV1.out).mono ?_
  rintro e V2 ⟨rfl, hg2⟩
  have HV2 := Lib.hid (HV1.out.gq hg2)
  have HK2 := Lib.hid (HK1.out.trans (Kp.gq hg2))
  clear hg2
  go_wp2_with fail
  refine (HW2.out _ HV2.out).mono ?_
  rintro e V3 ⟨⟨v3, rfl⟩, hv3, hk3⟩
  have HV3 := Lib.hid hv3
  have HK3 := Lib.hid (HK2.out.trans hk3)
  clear hv3 hk3
  go_wp2_with fail
  go_end0
  exact ⟨⟨_, rfl⟩, HV3.out, HK3.out⟩
end Go.Proofs.YtpiiickhfcjnmaaGreatDoor
