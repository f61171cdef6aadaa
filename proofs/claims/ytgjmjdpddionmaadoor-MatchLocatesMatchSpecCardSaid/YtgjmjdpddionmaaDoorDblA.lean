/- The contract of the closure of match.Doubles. -/
import Derived.Test.YtgjmjdpddionmaaDoorLocR
import Derived.Test.YtgjmjdpddionmaaDoorDblQ
import Derived.Test.YtgjmjdpddionmaaDoorDblP
namespace Go.Proofs.YtgjmjdpddionmaaDoor
open Go.RowKit Go.Dw
attribute [local go_sem ↓] Go.wp_at_zero Go.wp_at_succ

theorem Gw.alloc {a b : World} (h : Gw a b) (o : Obj) : Gw a (b.alloc o) := Below.alloc h (Below.size h) o
theorem Gw.set {a b : World} (h : Gw a b) {p : Addr} (hp : a.heap.size ≤ p.block) (v : Value) : Gw a (b.setCell p v) := Below.setCell h hp v
theorem Gw.drew {a b : World} (h : Gw a b) : Gw a b.drew := Below.drew h
/-- a call behind the making of a variable leaves that variable as it is -/
theorem call_new {n : Nat} {args : Array Value} {w : World} {v : Value} (h : ∀ W, Gw w W → Calls Tryd.prog n args W fun e w' => e = .returned v ∧ Below W.heap.size W w') (W : World) (hW : Gw w W) :
    Calls Tryd.prog n args (W.alloc (.cells #[.string ⟨#[]⟩, .int .i64 0, .int .i64 0, .int .i64 0] 31)).drew fun e w' => e = .returned v ∧ Gw w w' ∧ w'.frozen? ⟨W.heap.size, 0, none⟩ = false ∧ w'.frozen? ⟨W.heap.size, 1, none⟩ = false ∧ w'.frozen? ⟨W.heap.size, 2, none⟩ = false ∧ w'.frozen? ⟨W.heap.size, 3, none⟩ = false
      ∧ w'.cell? ⟨W.heap.size, 0, none⟩ = some (.string ⟨#[]⟩) ∧ w'.cell? ⟨W.heap.size, 1, none⟩ = some (.int .i64 0) ∧ w'.cell? ⟨W.heap.size, 2, none⟩ = some (.int .i64 0) ∧ w'.cell? ⟨W.heap.size, 3, none⟩ = some (.int .i64 0) ∧ W.heap.size < w'.heap.size := by
  refine (h _ ((hW.alloc _).drew)).mono fun e w' ⟨he, hb⟩ => ?_
  have hB : Blk w' W.heap.size 31 ht0.cs := (hb.block _ (by show W.heap.size < (W.alloc _).heap.size; simp)).trans (Blk.new W 31 ht0.cs)
  refine ⟨he, Below.trans ((hW.alloc _).drew) (hb.mono (Below.size ((hW.alloc _).drew))), hB.frozen 0, hB.frozen 1, hB.frozen 2, hB.frozen 3, ?_, ?_, ?_, ?_, hB.lt⟩
  · rw [hB.cell 0]; rfl
  · rw [hB.cell 1]; rfl
  · rw [hB.cell 2]; rfl
  · rw [hB.cell 3]; rfl
theorem call_gw {n : Nat} {args : Array Value} {w : World} {v : Value} (h : ∀ W, Gw w W → Calls Tryd.prog n args W fun e w' => e = .returned v ∧ Below W.heap.size W w') (W : World) (hW : Gw w W) : Calls Tryd.prog n args W fun e w' => e = .returned v ∧ Gw w w' :=
  (h W hW).mono fun _ _ ⟨he, hb⟩ => ⟨he, Below.trans hW (hb.mono (Below.size hW))⟩
/-- marks that a store may hold -/
def MkOk (x : Slc Mk) : Prop := ∀ k (hk : k < x.xs.length), x.xs[k].s.xs.all okM = true ∧ x.xs[k].s.xs.length ≤ 500
set_option maxRecDepth 100000 in
set_option maxHeartbeats 2000000 in
theorem alike_any (x : Slc Mk) (i k b3 b4 b5 : Nat) (least percent : Int) (w : World) (h : Sto w x) (hok : MkOk x) (hi : i < x.xs.length) (hk : k < x.xs.length) (h1 : 1 ≤ least) (hp1 : 0 ≤ percent) (hp2 : percent ≤ 100)
    (k3 : w.cell? ⟨b3, 0, none⟩ = some x.v) (k4 : w.cell? ⟨b4, 0, none⟩ = some (.int .i64 least)) (k5 : w.cell? ⟨b5, 0, none⟩ = some (.int .i64 percent)) :
    Calls Tryd.prog 29 #[.int .i64 (i : Int), .int .i64 (k : Int), .pointer (some ⟨b3, 0, none⟩), .pointer (some ⟨b4, 0, none⟩), .pointer (some ⟨b5, 0, none⟩)] w
      fun e w' => e = .returned (.bool (hOk x.xs[i].n x.xs[i].s.xs x.xs[k].s.xs least percent)) ∧ Below w.heap.size w w' := by
  have HFL := Lib.hid (hOk_flip x.xs[k].n x.xs[i].n x.xs[k].s.xs x.xs[i].s.xs percent h1)
  have HT1 : Hid (∀ W, Gw w W → Calls Tryd.prog 15 #[.agg #[.string x.xs[i].n, .slice x.xs[i].s.a x.xs[i].s.xs.length x.xs[i].s.c], .slice x.xs[k].s.a x.xs[k].s.xs.length x.xs[k].s.c, .int .i64 least, .int .i64 percent] W fun e w' => e = .returned (.tuple #[(hEnd x.xs[i].n x.xs[i].s.xs x.xs[k].s.xs least).2.v, .bool (hOk x.xs[i].n x.xs[i].s.xs x.xs[k].s.xs least percent)]) ∧ Below W.heap.size W w') := fun W hW =>
    (hit_any x.xs[i].n x.xs[i].s.a x.xs[k].s.a x.xs[i].s.c x.xs[k].s.c x.xs[i].s.xs x.xs[k].s.xs least percent W (((h.2.2 _ (List.getElem_mem hi)).2.2).below hW) (((h.2.2 _ (List.getElem_mem hk)).2.2).below hW) (hok i hi).1 (hok k hk).1 (hok i hi).2 (hok k hk).2 hp1 hp2)
  have HT2 : Hid (∀ W, Gw w W → Calls Tryd.prog 15 #[.agg #[.string x.xs[k].n, .slice x.xs[k].s.a x.xs[k].s.xs.length x.xs[k].s.c], .slice x.xs[i].s.a x.xs[i].s.xs.length x.xs[i].s.c, .int .i64 least, .int .i64 percent] W fun e w' => e = .returned (.tuple #[(hEnd x.xs[k].n x.xs[k].s.xs x.xs[i].s.xs least).2.v, .bool (hOk x.xs[i].n x.xs[i].s.xs x.xs[k].s.xs least percent)]) ∧ Below W.heap.size W w') := fun W hW => by
    refine (hit_any x.xs[k].n x.xs[k].s.a x.xs[i].s.a x.xs[k].s.c x.xs[i].s.c x.xs[k].s.xs x.xs[i].s.xs least percent W (((h.2.2 _ (List.getElem_mem hk)).2.2).below hW) (((h.2.2 _ (List.getElem_mem hi)).2.2).below hW) (hok k hk).1 (hok i hi).1 (hok k hk).2 (hok i hi).2 hp1 hp2).mono fun e W' ⟨he, hb⟩ => ⟨?_, hb⟩
    rw [he, HFL.out]
  obtain ⟨b, off, hA, hbb, hcs⟩ := h.at_ (by omega)
  obtain ⟨ci0, ci1⟩ := hcs i hi
  obtain ⟨ck0, ck1⟩ := hcs k hk
  have l3 := World.block_lt_of_cell? w _ k3
  have l4 := World.block_lt_of_cell? w _ k4
  have l5 := World.block_lt_of_cell? w _ k5
  have hln := h.1
  clear hcs h hok HFL
  obtain ⟨A, c, L⟩ := x
  simp only [Slc.v] at *
  subst hA
  generalize L[i].n = n1 at *
  generalize L[i].s.a = a1 at *
  generalize L[i].s.c = c1 at *
  generalize L[i].s.xs = xs at *
  generalize L[k].n = n2 at *
  generalize L[k].s.a = a2 at *
  generalize L[k].s.c = c2 at *
  generalize L[k].s.xs = ys at *
  obtain ⟨h1t, hh1⟩ : ∃ v, (hEnd n1 xs ys least).2 = v := ⟨_, rfl⟩
  obtain ⟨h2t, hh2⟩ : ∃ v, (hEnd n2 ys xs least).2 = v := ⟨_, rfl⟩
  obtain ⟨ok, hok⟩ : ∃ v, hOk n1 xs ys least percent = v := ⟨_, rfl⟩
  rw [hok]
  simp only [hh1, hok] at HT1
  simp only [hh2, hok] at HT2
  clear hh1 hh2 hok
  obtain ⟨p1, p2, p3, p4⟩ := h1t
  obtain ⟨q1, q2, q3, q4⟩ := h2t
  simp only [Ht.v] at HT1 HT2
  have HS : Hid (∀ W, Gw w W → W.cell? ⟨b3, 0, none⟩ = some (.slice (some ⟨b, off, none⟩) L.length c) ∧ W.cell? ⟨b4, 0, none⟩ = some (.int .i64 least) ∧ W.cell? ⟨b5, 0, none⟩ = some (.int .i64 percent)
      ∧ W.cell? ⟨b, off + i * 2, none⟩ = some (.string n1) ∧ W.cell? ⟨b, off + i * 2 + 1, none⟩ = some (.slice a1 xs.length c1) ∧ W.cell? ⟨b, off + k * 2, none⟩ = some (.string n2) ∧ W.cell? ⟨b, off + k * 2 + 1, none⟩ = some (.slice a2 ys.length c2) ∧ Gw w W) := fun W hW => by
    have e1 : ∀ j : Nat, W.cell? ⟨b, j, none⟩ = w.cell? ⟨b, j, none⟩ := fun j => Below.cell hW (by exact hbb)
    rw [e1, e1, e1, e1, Below.cell hW (by exact l3), Below.cell hW (by exact l4), Below.cell hW (by exact l5)]
    exact ⟨k3, k4, k5, ci0, ci1, ck0, ck1, hW⟩
  have HTG1 := Lib.hid (fun (W : World) (hW : Gw w W) => call_gw HT1.out W hW)
  have HTG2 := Lib.hid (fun (W : World) (hW : Gw w W) => call_gw HT2.out W hW)
  have HTA1 := Lib.hid (fun (W : World) (hW : Gw w W) => call_new HT1.out W hW)
  have HTA2 := Lib.hid (fun (W : World) (hW : Gw w W) => call_new HT2.out W hW)
  have hBD : Gw w w.drew := (Below.refl _ _).drew
  have hBR : Gw w w := Below.refl _ _
  have j0 : (0 : Int) ≤ (i : Int) := by omega
  have j1 : (i : Int) < (L.length : Int) := by have : i < L.length := hi; omega
  have j2 : (0 : Int) ≤ (k : Int) := by omega
  have j3 : (k : Int) < (L.length : Int) := by have : k < L.length := hk; omega
  clear k3 k4 k5 ci0 ci1 ck0 ck1
  go_enter Tryd.func29, Tryd.ntmps29
  go_upto_region 1 with (fail)
  go_cut [9] (fun v W => v = .bool ok ∧ Hid (Gw w W))
  case first =>
    go_region_held3 (fun W => W.cell? ⟨b3, 0, none⟩ = some (.slice (some ⟨b, off, none⟩) L.length c) ∧ W.cell? ⟨b4, 0, none⟩ = some (.int .i64 least) ∧ W.cell? ⟨b5, 0, none⟩ = some (.int .i64 percent)
      ∧ W.cell? ⟨b, off + i * 2, none⟩ = some (.string n1) ∧ W.cell? ⟨b, off + i * 2 + 1, none⟩ = some (.slice a1 xs.length c1) ∧ W.cell? ⟨b, off + k * 2, none⟩ = some (.string n2) ∧ W.cell? ⟨b, off + k * 2 + 1, none⟩ = some (.slice a2 ys.length c2) ∧ Gw w W)
      (first | exact HS.out _ hBD | exact HS.out _ hqB | (refine HS.out _ ?_; repeat (first | exact hqB | exact hBD | exact hBR | refine Gw.alloc ?_ _ | refine Gw.drew ?_ | refine Gw.set ?_ (by first | omega | (simp; done) | (simp; omega) | (have := Below.size hqB; simp; omega)) _)))
      (first | (go_at_call 15; with_reducible refine (HTA1.out _ hBR).mono ?_; rintro e wA ⟨rfl, hqB, z0, z1, z2, z3, y0, y1, y2, y3, hqz⟩) | (go_at_call 15; refine (HTG1.out _ (by first | assumption | (go_split_ands; assumption))).mono ?_; rintro e wA ⟨rfl, hqB⟩))
    all_goals
      go_wp2_with fail
      go_meet
      case rel =>
        refine ⟨rfl, ?_⟩
        show Gw _ _
        repeat (first | exact hqB | exact hBD | exact hBR | refine Gw.alloc ?_ _ | refine Gw.drew ?_ | refine Gw.set ?_ (by first | omega | (simp; done) | (simp; omega) | (have := Below.size hqB; simp; omega)) _)
  case rest =>
    obtain ⟨rfl, hgc⟩ := hcut
    have hBR : Gw w wc := hgc.out
    have hBD : Gw w wc.drew := hBR.drew
    have hszc := Below.size hBR
    clear hgc
    go_upto_region 2 with (fail)
    go_cut [11] (fun v W => v = .bool ok ∧ Hid (Gw w W))
    case first =>
      go_region_held3 (fun W => W.cell? ⟨b3, 0, none⟩ = some (.slice (some ⟨b, off, none⟩) L.length c) ∧ W.cell? ⟨b4, 0, none⟩ = some (.int .i64 least) ∧ W.cell? ⟨b5, 0, none⟩ = some (.int .i64 percent)
        ∧ W.cell? ⟨b, off + i * 2, none⟩ = some (.string n1) ∧ W.cell? ⟨b, off + i * 2 + 1, none⟩ = some (.slice a1 xs.length c1) ∧ W.cell? ⟨b, off + k * 2, none⟩ = some (.string n2) ∧ W.cell? ⟨b, off + k * 2 + 1, none⟩ = some (.slice a2 ys.length c2) ∧ Gw w W)
      (first | exact HS.out _ hBD | exact HS.out _ hqB | (refine HS.out _ ?_; repeat (first | exact hqB | exact hBD | exact hBR | refine Gw.alloc ?_ _ | refine Gw.drew ?_ | refine Gw.set ?_ (by first | omega | (simp; done) | (simp; omega) | (have := Below.size hqB; simp; omega)) _)))
        (first | (go_at_call 15; with_reducible refine (HTA2.out _ hBR).mono ?_; rintro e wA ⟨rfl, hqB, z0, z1, z2, z3, y0, y1, y2, y3, hqz⟩) | (go_at_call 15; refine (HTG2.out _ (by first | assumption | (go_split_ands; assumption))).mono ?_; rintro e wA ⟨rfl, hqB⟩))
      all_goals
        go_wp2_with fail
        go_meet
        case rel =>
          refine ⟨rfl, ?_⟩
          show Gw _ _
          repeat (first | exact hqB | exact hBD | exact hBR | refine Gw.alloc ?_ _ | refine Gw.drew ?_ | refine Gw.set ?_ (by first | omega | (simp; done) | (simp; omega) | (have := Below.size hqB; simp; omega)) _)
    case rest =>
      obtain ⟨rfl, hgd⟩ := hcut
      cases ok with
      | true =>
        go_wp2_with fail
        go_ret
        exact ⟨rfl, hgd.out⟩
      | false =>
        go_wp2_with fail
        go_ret
        exact ⟨rfl, hgd.out⟩
end Go.Proofs.YtgjmjdpddionmaaDoor
