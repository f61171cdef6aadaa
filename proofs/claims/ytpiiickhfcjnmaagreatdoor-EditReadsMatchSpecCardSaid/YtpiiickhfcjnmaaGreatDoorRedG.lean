/- What Read keeps while it reads an edit. -/
import Derived.Test.YtpiiickhfcjnmaaGreatDoorRedE
import Derived.Test.YtpiiickhfcjnmaaGreatDoorStrZ
namespace Go.Proofs.YtpiiickhfcjnmaaGreatDoor
open Go.RowKit Go.Dw

theorem pnts_nice {B : Nat} : ∀ {ws : List (List UInt8)} {ps : List Pnt}, pntsE ws = some ps → (∀ l ∈ ws, l.length ≤ B) → ∀ p ∈ ps, (0 ≤ p.at_ ∧ p.at_ < 100000000000000) ∧ p.n.size ≤ B ∧ p.d.size ≤ B
  | [], ps, h, _ => by injection h with h; subst h; simp
  | x :: r, ps, h, hB => by
    rw [pntsE] at h
    cases hx : pntE x with
    | none => rw [hx] at h; cases h
    | some n =>
      rw [hx] at h
      cases hr : pntsE r with
      | none => rw [hr] at h; cases h
      | some ms =>
        rw [hr] at h
        injection h with h
        subst h
        intro p hp
        obtain ⟨_, j2, j3, j4⟩ := pntE_back hx
        have hxl := hB x (by simp)
        rcases List.mem_cons.1 hp with rfl | hp
        · exact ⟨j2, by omega, by omega⟩
        · exact pnts_nice hr (fun l hl => hB l (by simp [hl])) p hp
/-- numbers and strings that are not too great -/
structure ClNc (c : CliM) : Prop where
  m : c.m.size ≤ 1048576
  ch : inI64 c.ch
  fr : inI64 c.fr
  tr : inI64 c.tr
  at_ : inI64 c.at_
  ln : inI64 c.ln
  el : c.e.xs.length ≤ 1048577
  eo : ∀ p ∈ c.e.xs, PntOk p
theorem cliW_nice {l : List UInt8} {c : Cli} {A : Option Addr} {d : Nat} (h : cliW (splitB 32 l) = some c) (hl : l.length ≤ 1000000) : ClNc ⟨c.m, c.ch, c.fr, c.tr, c.at_, c.ln, ⟨A, d, c.e⟩⟩ := by
  have hm : ∀ p ∈ splitB 32 l, p.length ≤ 1000000 := fun p hp => by have := splitMem 32 l p hp; omega
  have hlen := splitLe 32 l
  unfold cliW at h
  split at h
  · cases h
  · rename_i hc
    split at h
    · cases h
    · rename_i ns hns
      cases hp : pntsE ((splitB 32 l).drop 7) with
      | none => rw [hp] at h; cases h
      | some e =>
        rw [hp] at h
        injection h with h
        subst h
        have hn := (nums_back hns).2
        have hg : ∀ k, inI64 ((ns.getD k 0 : Nat) : Int) := fun k => by
          rw [List.getD_eq_getElem?_getD]
          cases hk : ns[k]? with
          | none => simp [inI64]
          | some v =>
            have := hn v (List.mem_of_getElem? hk)
            simp only [Option.getD_some, inI64]
            omega
        refine ⟨?_, hg 0, hg 1, hg 2, hg 3, hg 4, ?_, fun p hp2 => ?_⟩
        · simp only [mkE_size]
          rw [List.getD_eq_getElem?_getD]
          cases hk : (splitB 32 l)[1]? with
          | none => simp
          | some v => have := hm v (List.mem_of_getElem? hk); simp only [Option.getD_some]; omega
        · have := pnts_len hp
          rw [List.length_drop] at this
          simp only
          omega
        · obtain ⟨a1, a2, a3⟩ := pnts_nice hp (fun x hx => hm x (List.mem_of_mem_drop hx)) p hp2
          exact ⟨by unfold inI64; omega, by omega, by omega⟩
/-- the clips' points lie in blocks of their own -/
def CliO (w : World) (g : Nat) (o : Option Nat) (L : List CliM) : Prop := ∀ c ∈ L, RdS (fun b => g + 1 ≤ b ∧ o ≠ some b) w c.e.a (c.e.xs.flatMap Pnt.cs) ∧ ClNc c
theorem rds_app2 {w w' : World} {q : Nat} {o : Option Nat} {A : Option Addr} {cs : List Value} (h : RdS (fun b => q + 1 ≤ b ∧ o ≠ some b) w A cs) (hg : w.grownBy w' o) {g : Nat} (hat : o = some g ∨ g = w.heap.size) : RdS (fun b => q + 1 ≤ b ∧ some g ≠ some b) w' A cs := by
  rcases h with h1 | ⟨b, off, h1, ⟨h0, h2⟩, h3, h4⟩
  · exact .inl h1
  · refine .inr ⟨b, off, h1, ⟨h0, ?_⟩, Nat.lt_of_lt_of_le h3 hg.size, fun j u hu => ?_⟩
    · intro hh
      injection hh with hh
      subst hh
      rcases hat with hat | hat
      · exact h2 hat
      · omega
    · rw [hg.cell_far _ h3 (fun e => h2 e.symm)]; exact h4 j u hu
/-- an edit that is being read -/
def EdI (wo wr : World) (r t : Int) (A : Option Addr) (c : Nat) (L : List CliM) : Prop :=
  Blk wr wo.heap.size 24 [.int .i64 r, .int .i64 t, .slice A L.length c] ∧ wr.ownsRow (wo.heap.size + 1) 36 7 (.slice A L.length c) L.length (L.flatMap CliM.cs) ∧ Gq wo wr ∧ CliO wr wo.heap.size (Value.slice A L.length c).ownBlock L
theorem EdI.below {wo wr wq : World} {r t : Int} {A : Option Addr} {c : Nat} {L : List CliM} (h : EdI wo wr r t A c L) (hq : Gq wr wq) : EdI wo wq r t A c L :=
  ⟨h.1.same (Same.of_below (S := fun _ => True) hq) trivial, own_belowL h.2.1 hq, Gq.trans h.2.2.1 hq, fun x hx => ⟨(h.2.2.2 x hx).1.same (Same.of_below hq), (h.2.2.2 x hx).2⟩⟩
theorem EdI.hdr {wo wr : World} {r t r' t' : Int} {A : Option Addr} {c : Nat} {L : List CliM} (h : EdI wo wr r t A c L) : EdI wo ((wr.setCell ⟨wo.heap.size, 0, none⟩ (.int .i64 r')).setCell ⟨wo.heap.size, 1, none⟩ (.int .i64 t')) r' t' A c L := by
  refine ⟨?_, ?_, Gq.set (Gq.set h.2.2.1 (Nat.le_refl _) _) (Nat.le_refl _) _, fun x hx => ⟨?_, (h.2.2.2 x hx).2⟩⟩
  · exact (h.1.set_ 0 _).set_ 1 _
  · exact ownsRow_setCell_below (ownsRow_setCell_below h.2.1 (by show wo.heap.size < _; omega) _) (by show wo.heap.size < _; omega) _
  · refine (h.2.2.2 x hx).1.same ((Same.set _ _ _ ?_).trans (Same.set _ _ _ ?_)) <;> exact fun hh => by have h1 : wo.heap.size + 1 ≤ wo.heap.size := hh.1; omega
theorem edi_snoc {wo wq w8 : World} {o : Obj} {r t : Int} {A : Option Addr} {c : Nat} {L : List CliM} {x : CliM} {g2 cap2 : Nat} (h : EdI wo wq r t A c L)
    (hx : RdS (fun b => wo.heap.size + 1 ≤ b ∧ (Value.slice A L.length c).ownBlock ≠ some b) wq x.e.a (x.e.xs.flatMap Pnt.cs)) (hn : ClNc x)
    (hown : w8.ownsRow (wo.heap.size + 1) 36 7 (.slice (some ⟨g2, 0, none⟩) (L.length + 1) cap2) (L.length + 1) (L.flatMap CliM.cs ++ x.cs)) (hg : (wq.alloc o).grownBy w8 (Value.slice A L.length c).ownBlock)
    (hat : (Value.slice A L.length c).ownBlock = some g2 ∨ g2 = wq.heap.size + 1) :
    Blk w8 wo.heap.size 24 [.int .i64 r, .int .i64 t, .slice A L.length c] ∧ EdI wo (w8.setCell ⟨wo.heap.size, 2, none⟩ (.slice (some ⟨g2, 0, none⟩) (L.length + 1) cap2)) r t (some ⟨g2, 0, none⟩) cap2 (L ++ [x]) := by
  have hlt : ∀ b, (Value.slice A L.length c).ownBlock = some b → wo.heap.size + 1 ≤ b ∧ b < wq.heap.size := h.2.1.lt
  have hA : Below wq.heap.size wq (wq.alloc o) := (Below.refl _ _).alloc (Nat.le_refl _) _
  have hblk : Blk w8 wo.heap.size 24 [.int .i64 r, .int .i64 t, .slice A L.length c] :=
    blkGrown (h.1.same (Same.of_below (S := fun _ => True) hA) trivial) hg (fun e => by have := (hlt _ e.symm).1; omega)
  have hB8 : Gq wo w8 := Below.grown (Below.alloc h.2.2.1 (Below.size h.2.2.1) o) hg (by have := Below.size h.2.2.1; simp; omega) (fun b hb => by have := (hlt b hb).1; omega)
  have hat3 : (Value.slice A L.length c).ownBlock = some g2 ∨ g2 = (wq.alloc o).heap.size := by rw [show (wq.alloc o).heap.size = wq.heap.size + 1 by simp]; exact hat
  refine ⟨hblk, ?_, ?_, Gq.set hB8 (Nat.le_refl _) _, fun y hy => ?_⟩
  · have := hblk.set_ 2 (.slice (some ⟨g2, 0, none⟩) (L.length + 1) cap2)
    rw [List.length_append]
    exact this
  · rw [List.length_append, flat_snoc]
    exact ownsRow_setCell_below hown (by show wo.heap.size < _; omega) _
  · have key : RdS (fun b => wo.heap.size + 1 ≤ b ∧ (Value.slice A L.length c).ownBlock ≠ some b) wq y.e.a (y.e.xs.flatMap Pnt.cs) ∧ ClNc y := by
      rcases List.mem_append.1 hy with hy | hy
      · exact h.2.2.2 y hy
      · rw [List.mem_singleton] at hy; subst hy; exact ⟨hx, hn⟩
    refine ⟨?_, key.2⟩
    refine RdS.same (w := w8) ?_ (Same.set w8 _ _ (fun hh => by have h1 : wo.heap.size + 1 ≤ wo.heap.size := hh.1; omega))
    exact rds_app2 (key.1.same (Same.of_below hA)) hg hat3
theorem EdI.ok {wo wr : World} {r t : Int} {A : Option Addr} {c : Nat} {L : List CliM} (h : EdI wo wr r t A c L) (hr : inI64 r) (ht : inI64 t) (hl : L.length ≤ 1048576) : EdtOk wr ⟨r, t, ⟨A, c, L⟩⟩ :=
  ⟨hr, ht, by simp only; omega, Rd.of_own h.2.1, fun x hx => by
    obtain ⟨h1, h2⟩ := h.2.2.2 x hx
    exact ⟨by have := h2.m; omega, h2.ch, h2.fr, h2.tr, h2.at_, h2.ln, by have := h2.el; omega, h1.rd, h2.eo⟩⟩
/-- what Read says -/
def RedR (w : World) (r : Edt × Nat × Int) (e : Ending) (w' : World) : Prop :=
  Below w.heap.size w w' ∧ ∃ x : EdtM, e = .returned (.tuple #[x.v, .int .i64 (r.2.1 : Int), .int .i64 r.2.2]) ∧ x.x = r.1 ∧ EdtOk w' x
theorem edtOk_zero (w : World) : EdtOk w ⟨0, 0, ⟨none, 0, []⟩⟩ := ⟨⟨by decide, by decide⟩, ⟨by decide, by decide⟩, by simp, .inl rfl, fun c hc => by simp at hc⟩
theorem redR_bad {w w' : World} {i : Nat} {f : Int} {e : Ending} {r : Edt × Nat × Int} (hr : r = (e0, i, f)) (hb : Below w.heap.size w w') (he : e = .returned (.tuple #[.agg #[.int .i64 0, .int .i64 0, .slice none 0 0], .int .i64 (i : Int), .int .i64 f])) : RedR w r e w' := by
  subst hr
  exact ⟨hb, ⟨0, 0, ⟨none, 0, []⟩⟩, he, rfl, edtOk_zero w'⟩
theorem redR_ok {w w' : World} {e : Ending} {r : Edt × Nat × Int} (x : EdtM) (hr : r = (x.x, 0, 0)) (hb : Below w.heap.size w w') (hx : EdtOk w' x) (he : e = .returned (.tuple #[x.v, .int .i64 0, .int .i64 0])) : RedR w r e w' := by
  subst hr
  exact ⟨hb, x, he, rfl, hx⟩
theorem cut10W (s : ByteArray) : cutV10 s = cutW 10 s := by
  unfold cutV10 cutW cutE
  split
  · simp only; rw [mkE_of]; rfl
  · simp only
    rw [ext_mkE, ext_mkE, List.drop_zero, List.take_of_length_le (i := s.size) (by rw [size_list]; exact Nat.le_refl _)]
/-- a line is read, or it is not -/
theorem rdG_cut {f i : Nat} {t : List UInt8} {e : Edt} (hf : t.length < f) (h : i = 1 ∨ t.length ≠ 0) :
    ((cutE 10 t).2.2 = false → rdG f t i e = (e0, i, 10)) ∧ (stepE i (cutE 10 t).1 e = none → rdG f t i e = (e0, i, 10)) ∧
    (∀ e', (cutE 10 t).2.2 = true → stepE i (cutE 10 t).1 e = some e' → rdG f t i e = rdG (f - 1) (cutE 10 t).2.1 (i + 1) e' ∧ (cutE 10 t).2.1.length < t.length) := by
  unfold cutE
  by_cases hc : t.count 10 = 0
  · rw [if_pos hc]
    exact ⟨fun _ => rdG_no hf h hc, fun _ => rdG_no hf h hc, fun _ h2 => by cases h2⟩
  · rw [if_neg hc]
    refine ⟨fun h2 => (by cases h2), fun h2 => rdG_bad hf h h2, fun e' _ h2 => ⟨rdG_go hf h hc h2, ?_⟩⟩
    obtain ⟨m, h1, h3⟩ := cut_at (z := 10) (t := t) (by omega)
    simp only [List.length_drop]
    rw [h1]; omega
theorem hdW_no {w : List (List UInt8)} (h : w.getD 0 [] ≠ wEdit ∨ numsE (w.drop 1) = none ∨ w.length ≠ 3) : hdW w = none := by
  unfold hdW
  split
  · rfl
  · rename_i hc
    rcases h with h | h | h
    · exact absurd (.inr h) hc
    · rw [h]; rfl
    · exact absurd (.inl h) hc
theorem hdW_yes {w : List (List UInt8)} {a b : Nat} (h0 : w.getD 0 [] = wEdit) (h3 : w.length = 3) (h : numsE (w.drop 1) = some [a, b]) : hdW w = some (a, b) := by
  unfold hdW
  rw [if_neg (by rintro (h | h); exact h h3; exact h h0), h]; rfl
end Go.Proofs.YtpiiickhfcjnmaaGreatDoor
