/- What readClip keeps while it reads the points of a clip. -/
import Derived.Test.YtpiiickhfcjnmaaGreatDoorRedC
import Derived.Test.YtpiiickhfcjnmaaGreatDoorEdtM
import Derived.Test.YtpiiickhfcjnmaaGreatDoorStrZ
import Derived.Deep.RegionHeld3
import Derived.Deep.DrawnRows
namespace Go.Proofs.YtpiiickhfcjnmaaGreatDoor
open Go.RowKit Go.Dw

theorem blkGrown {w w' : World} {g : Nat} {t : TypeId} {cs : List Value} {row : Option Nat} (h : Blk w g t cs) (hg : w.grownBy w' row) (hne : some g ≠ row) : Blk w' g t cs := (hg.block g h.lt hne).trans h
theorem pnts_snoc {x : List UInt8} {n : Pnt} (hx : pntE x = some n) : ∀ {a : List (List UInt8)} {ns : List Pnt}, pntsE a = some ns → pntsE (a ++ [x]) = some (ns ++ [n])
  | [], ns, h => by
    injection h with h
    subst h
    show pntsE [x] = _
    rw [pntsE, hx]; rfl
  | y :: a, ns, h => by
    rw [pntsE] at h
    rw [List.cons_append, pntsE]
    cases hy : pntE y with
    | none => rw [hy] at h; cases h
    | some m =>
      rw [hy] at h
      cases ha : pntsE a with
      | none => rw [ha] at h; cases h
      | some ms =>
        rw [ha] at h
        injection h with h
        subst h
        simp only
        rw [pnts_snoc hx ha]; rfl
theorem pnts_stop {x : List UInt8} (r : List (List UInt8)) (hx : pntE x = none) : ∀ (a : List (List UInt8)), pntsE (a ++ x :: r) = none
  | [] => by
    show pntsE (x :: r) = none
    rw [pntsE, hx]
  | y :: a => by
    rw [List.cons_append, pntsE]
    cases hy : pntE y with
    | none => rfl
    | some m =>
      simp only
      rw [pnts_stop r hx a]; rfl
theorem pnts_len {a : List (List UInt8)} {ns : List Pnt} (h : pntsE a = some ns) : ns.length = a.length := by
  have := (pnts_back h).1
  rw [this, List.length_map]
/-- a clip that is being read: its points so far -/
def ClI (wo wr : World) (m : ByteArray) (x1 x2 x3 x4 x5 : Int) (A5 : Option Addr) (c5 : Nat) (ps : List Pnt) : Prop :=
  Blk wr wo.heap.size 36 [.string m, .int .i64 x1, .int .i64 x2, .int .i64 x3, .int .i64 x4, .int .i64 x5, .slice A5 ps.length c5] ∧ wr.ownsRow (wo.heap.size + 1) 70 3 (.slice A5 ps.length c5) ps.length (ps.flatMap Pnt.cs) ∧ Gq wo wr
theorem ClI.below {wo wr wq : World} {m : ByteArray} {x1 x2 x3 x4 x5 : Int} {A5 : Option Addr} {c5 : Nat} {ps : List Pnt} (h : ClI wo wr m x1 x2 x3 x4 x5 A5 c5 ps) (hq : Gq wr wq) : ClI wo wq m x1 x2 x3 x4 x5 A5 c5 ps :=
  ⟨h.1.same (Same.of_below (S := fun _ => True) hq) trivial, own_belowL h.2.1 hq, Gq.trans h.2.2 hq⟩
theorem cli_snoc {wo wq w8 : World} {o : Obj} {m : ByteArray} {x1 x2 x3 x4 x5 : Int} {A5 : Option Addr} {c5 : Nat} {ps : List Pnt} {p : Pnt} {g2 cap2 : Nat} (h : ClI wo wq m x1 x2 x3 x4 x5 A5 c5 ps)
    (hown : w8.ownsRow (wo.heap.size + 1) 70 3 (.slice (some ⟨g2, 0, none⟩) (ps.length + 1) cap2) (ps.length + 1) (ps.flatMap Pnt.cs ++ p.cs)) (hg : (wq.alloc o).grownBy w8 (Value.slice A5 ps.length c5).ownBlock) :
    Blk w8 wo.heap.size 36 [.string m, .int .i64 x1, .int .i64 x2, .int .i64 x3, .int .i64 x4, .int .i64 x5, .slice A5 ps.length c5] ∧
      ClI wo (w8.setCell ⟨wo.heap.size, 6, none⟩ (.slice (some ⟨g2, 0, none⟩) (ps.length + 1) cap2)) m x1 x2 x3 x4 x5 (some ⟨g2, 0, none⟩) cap2 (ps ++ [p]) := by
  have hlt : ∀ b, (Value.slice A5 ps.length c5).ownBlock = some b → wo.heap.size + 1 ≤ b ∧ b < wq.heap.size := h.2.1.lt
  have hA : Below wq.heap.size wq (wq.alloc o) := (Below.refl _ _).alloc (Nat.le_refl _) _
  have hs1 := h.1.lt
  have hblk : Blk w8 wo.heap.size 36 [.string m, .int .i64 x1, .int .i64 x2, .int .i64 x3, .int .i64 x4, .int .i64 x5, .slice A5 ps.length c5] :=
    blkGrown (h.1.same (Same.of_below (S := fun _ => True) hA) trivial) hg (fun e => by have := (hlt _ e.symm).1; omega)
  have hB8 : Gq wo w8 := Below.grown (Below.alloc h.2.2 (Below.size h.2.2) o) hg (by have := Below.size h.2.2; simp; omega) (fun b hb => by have := (hlt b hb).1; omega)
  refine ⟨hblk, ?_, ?_, Gq.set hB8 (Nat.le_refl _) _⟩
  · have := hblk.set_ 6 (.slice (some ⟨g2, 0, none⟩) (ps.length + 1) cap2)
    rw [List.length_append]
    exact this
  · rw [List.length_append, flat_snoc]
    exact ownsRow_setCell_below hown (by show wo.heap.size < _; omega) _
theorem ClI.rds {wo wr : World} {m : ByteArray} {x1 x2 x3 x4 x5 : Int} {A5 : Option Addr} {c5 : Nat} {ps : List Pnt} (h : ClI wo wr m x1 x2 x3 x4 x5 A5 c5 ps) : RdS (fun b => wo.heap.size + 1 ≤ b) wr A5 (ps.flatMap Pnt.cs) := by
  rcases h.2.1.2 with ⟨h0, h1⟩ | ⟨g, cap, cur, hv, hb, hg, _⟩
  · exact .inl (List.eq_nil_of_length_eq_zero (by rw [h.2.1.1, h1]))
  · injection hv with hv1 hv2 hv3
    subst hv1
    refine .inr ⟨g, 0, rfl, hb, (Array.getElem?_eq_some_iff.1 hg).1, fun j u hu => ?_⟩
    have := h.2.1.cells (g := g) rfl j u hu
    have hadd : (⟨g, 0, none⟩ : Addr).add j = ⟨g, 0 + j, none⟩ := by unfold Addr.add; split <;> simp_all
    rw [← hadd]; exact this
def clZero : Value := .agg #[.string ⟨#[]⟩, .int .i64 0, .int .i64 0, .int .i64 0, .int .i64 0, .int .i64 0, .slice none 0 0]
/-- what readClip says -/
def ClipR (w : World) (r : Option Cli) (e : Ending) (w' : World) : Prop :=
  Below w.heap.size w w' ∧ match r with
    | none => e = .returned (.tuple #[clZero, .bool false])
    | some c => ∃ A d, e = .returned (.tuple #[CliM.v ⟨c.m, c.ch, c.fr, c.tr, c.at_, c.ln, ⟨A, d, c.e⟩⟩, .bool true]) ∧ RdS (fun b => w.heap.size ≤ b) w' A (c.e.flatMap Pnt.cs)
theorem clipR_none {w w' : World} {r : Option Cli} {e : Ending} (h : r = none) (hb : Below w.heap.size w w') (he : e = .returned (.tuple #[clZero, .bool false])) : ClipR w r e w' := by
  subst h; exact ⟨hb, he⟩
theorem clipR_some {w w' : World} {r : Option Cli} {e : Ending} {c : Cli} {A : Option Addr} {d : Nat} (h : r = some c) (hb : Below w.heap.size w w') (hr : RdS (fun b => w.heap.size ≤ b) w' A (c.e.flatMap Pnt.cs))
    (he : e = .returned (.tuple #[CliM.v ⟨c.m, c.ch, c.fr, c.tr, c.at_, c.ln, ⟨A, d, c.e⟩⟩, .bool true])) : ClipR w r e w' := by
  subst h; exact ⟨hb, A, d, he, hr⟩
theorem cliW_no {w : List (List UInt8)} (h : w.length < 7 ∨ w.getD 0 [] ≠ wClip ∨ rowE (w.getD 1 []) = false) : cliW w = none := by unfold cliW; rw [if_pos h]
theorem cliW_num {w : List (List UInt8)} (h : numsE ((w.drop 2).take 5) = none) : cliW w = none := by
  unfold cliW
  split
  · rfl
  · rw [h]
theorem cliW_pnt {w : List (List UInt8)} (h : pntsE (w.drop 7) = none) : cliW w = none := by
  unfold cliW
  split
  · rfl
  · split
    · rfl
    · rw [h]; rfl
theorem cliW_yes {w : List (List UInt8)} {n0 n1 n2 n3 n4 : Nat} {e : List Pnt} (h : ¬ (w.length < 7 ∨ w.getD 0 [] ≠ wClip ∨ rowE (w.getD 1 []) = false)) (h1 : numsE ((w.drop 2).take 5) = some [n0, n1, n2, n3, n4]) (h2 : pntsE (w.drop 7) = some e) :
    cliW w = some ⟨mkE (w.getD 1 []), n0, n1, n2, n3, n4, e⟩ := by
  unfold cliW; rw [if_neg h, h1]; simp only; rw [h2]; rfl
theorem splitMem (z : UInt8) : ∀ (l p : List UInt8), p ∈ splitB z l → p.length ≤ l.length
  | [], p, h => by simp [splitB] at h; subst h; simp
  | c :: r, p, h => by
    unfold splitB at h
    split at h
    · rcases List.mem_cons.1 h with h | h
      · subst h; simp
      · have := splitMem z r p h; simp; omega
    · split at h
      · simp at h; subst h; simp
      · rename_i q1 q2 hq
        rcases List.mem_cons.1 h with h | h
        · subst h
          have := splitMem z r q1 (by rw [hq]; simp)
          simp; omega
        · have := splitMem z r p (by rw [hq]; simp [h]); simp; omega
theorem splitLe (z : UInt8) (l : List UInt8) : (splitB z l).length ≤ l.length + 1 := by
  rw [split_len]; have := List.count_le_length (a := z) (l := l); omega
theorem nmTrim (l : List UInt8) : (Lib.trimS l nameCs.data.toList).isEmpty = l.all okB := by
  have := nmTail_eq (mkE l)
  unfold nmTail at this
  rw [mkE_list] at this
  exact this
end Go.Proofs.YtpiiickhfcjnmaaGreatDoor
