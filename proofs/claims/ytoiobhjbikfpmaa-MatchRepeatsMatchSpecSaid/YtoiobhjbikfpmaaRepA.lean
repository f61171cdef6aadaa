/- The order of repeats as Go has it, and their sort. -/
import Derived.Test.YtoiobhjbikfpmaaRepP
import Derived.Test.YtoiobhjbikfpmaaOr
import Derived.Test.YtoiobhjbikfpmaaSortK
import Derived.Test.YtoiobhjbikfpmaaShSort
import Derived.Test.YtoiobhjbikfpmaaTab
import Derived.Shelf.SlSortCmp.NoneTotal
import Derived.Deep.RegionHeld3
import Derived.Deep.DrawnRows
namespace Go.Proofs.Ytoiobhjbikfpmaa
open Go.RowKit Go.Dw Go.Sort
attribute [local go_sem ↓] Go.wp_at_zero Go.wp_at_succ

def encRp (x : Rep) : List Value := [.int .i64 (x.a : Int), .int .i64 (x.b : Int), .int .i64 (x.n : Int)]
def cfR (x y : Rep) : Int := orL [cmpI (y.n : Int) x.n, cmpI (x.a : Int) y.a, cmpI (x.b : Int) y.b]
theorem ltOf_cfR (x y : Rep) : ltOf cfR x y = true ↔ ltR x y := by
  unfold ltOf cfR ltR keyR
  simp only [orL, orI, cmpI]
  by_cases h1 : (y.n : Int) < x.n
  · simp [h1]; omega
  · by_cases h2 : (x.n : Int) < y.n
    · simp [h1, h2]; omega
    · by_cases h3 : (x.a : Int) < y.a
      · simp [h1, h2, h3]; omega
      · by_cases h4 : (y.a : Int) < x.a
        · simp [h1, h2, h3, h4]; omega
        · by_cases h5 : (x.b : Int) < y.b
          · simp [h1, h2, h3, h4, h5]; omega
          · by_cases h6 : (y.b : Int) < x.b
            · simp [h1, h2, h3, h4, h5, h6]; omega
            · simp [h1, h2, h3, h4, h5, h6]; omega
theorem ltOf_cfR' (x y : Rep) : ltOf cfR x y = false ↔ ¬ ltR x y := by
  rw [← ltOf_cfR]; simp
theorem swoR : SWO (ltOf cfR) where
  irrefl x := (ltOf_cfR' x x).2 (ltR_irrefl x)
  trans x y z h1 h2 := by rw [ltOf_cfR] at *; exact ltR_trans x y z h1 h2
  ntrans x y z h1 h2 := by
    rw [ltOf_cfR'] at *
    by_cases e1 : x = y
    · subst e1; exact h2
    · by_cases e2 : y = z
      · subst e2; exact h1
      · intro h
        rcases ltR_total x y e1 with h3 | h3
        · exact h1 h3
        · exact h2 (ltR_trans _ _ _ h3 h)
theorem new_cell {W : World} {cs : List Value} {t : TypeId} {i b : Nat} {v : Value} (hb : b = W.heap.size) (hv : cs[i]? = some v) : (W.alloc (.cells cs.toArray t)).cell? ⟨b, i, none⟩ = some v := by
  subst hb; rw [(Blk.new W t cs).cell i, hv]
set_option maxHeartbeats 1000000 in
theorem cmpR_any (a1 b1 n1 a2 b2 n2 : Int) (w : World) :
    Calls Try.prog 16 #[.agg #[.int .i64 a1, .int .i64 b1, .int .i64 n1], .agg #[.int .i64 a2, .int .i64 b2, .int .i64 n2]] w fun e w' => e = .returned (.int .i64 (orL [cmpI n2 n1, cmpI a1 a2, cmpI b1 b2])) ∧ Grw w w' := by
  obtain ⟨r, hr⟩ : ∃ r, orL [cmpI n2 n1, cmpI a1 a2, cmpI b1 b2] = r := ⟨_, rfl⟩
  have HO : Hid (∀ (W : World) (b : Nat), W.cell? ⟨b, 0, none⟩ = some (.int .i64 (cmpI n2 n1)) → W.cell? ⟨b, 1, none⟩ = some (.int .i64 (cmpI a1 a2)) → W.cell? ⟨b, 2, none⟩ = some (.int .i64 (cmpI b1 b2)) →
      Calls Try.prog 17 #[.slice (some ⟨b, 0, none⟩) 3 3] W fun e w' => e = .returned (.int .i64 r) ∧ W = w') := fun W b h0 h1 h2 => by
    rw [← hr]
    refine or_any b 0 3 [cmpI n2 n1, cmpI a1 a2, cmpI b1 b2] W (by simp) fun j hj => ?_
    simp only [List.length_cons, List.length_nil] at hj
    rcases (by omega : j = 0 ∨ j = 1 ∨ j = 2) with rfl | rfl | rfl
    · exact h0
    · exact h1
    · exact h2
  have HR := Lib.hid hr
  clear hr
  go_enter Try.func16, Try.ntmps16
  go_wp2
  go_region_held3 (fun W => W.cell? ⟨w.heap.size, 0, none⟩ = some (.int .i64 a1) ∧ W.cell? ⟨w.heap.size, 1, none⟩ = some (.int .i64 b1) ∧ W.cell? ⟨w.heap.size, 2, none⟩ = some (.int .i64 n1) ∧ W.cell? ⟨w.heap.size + 1, 0, none⟩ = some (.int .i64 a2) ∧ W.cell? ⟨w.heap.size + 1, 1, none⟩ = some (.int .i64 b2) ∧ W.cell? ⟨w.heap.size + 1, 2, none⟩ = some (.int .i64 n2))
    (first | assumption | go_keep)
    (first | (go_at_call 18; refine (cmp_any _ _ _).mono ?_; rintro e w' ⟨rfl, rfl⟩) | (go_at_call 17; refine (HO.out _ _ (by simp; exact new_cell (cs := [_, _, _]) (by simp) rfl) (by simp; exact new_cell (cs := [_, _, _]) (by simp) rfl) (by simp; exact new_cell (cs := [_, _, _]) (by simp) rfl)).mono ?_; rintro e w' ⟨rfl, rfl⟩))
  all_goals
    go_wp2
    go_ret
    refine ⟨?_, ?_⟩
    · rw [HR.out]; rfl
    · exact ((((Grw.refl _).alloc _).alloc _).alloc _).drew
theorem cmpLaysR (g off size : Nat) (w : World) : CmpLays Try.prog 16 #[] encRp 3 cfR g off size w :=
  fun _ _ _ _ x y => cmpR_any x.a x.b x.n y.a y.b y.n _
def SrtR (w : World) (B : Nat) (A : Option Addr) (l : List Rep) (e : Ending) (w' : World) : Prop := e = .returned (.tuple #[]) ∧ Srt (ltOf cfR) encRp w B A l w'
theorem sortR_any (B base : Nat) (A : Option Addr) (n c : Nat) (l : List Rep) (w : World) (hB : B ≤ base) (hown : w.ownsRow base 29 3 (.slice A n c) n (l.flatMap encRp)) (hn : l.length = n) (hm : n < 4611686018427387904) :
    Calls Try.prog 15 #[.slice A n c, .func (.func 16) #[] #[]] w (SrtR w B A l) := by
  have eg : ∀ args w, (callFunc 16 args).run Try.prog w = .ok (.enter 16 args) w := enters_of Try.func16 (by kernel_rfl) rfl
  by_cases h0 : n = 0
  · subst h0
    have : l = [] := List.eq_nil_of_length_eq_zero hn
    subst this
    exact (AnyF.slices_SortFunc_none Try.sortRp A c _ w).mono fun e w' ⟨h1, h2⟩ => ⟨h1, [], List.Perm.refl _, by simp, .inl rfl, by rw [h2]; exact Below.refl _ _⟩
  · rcases hown.2 with ⟨h1, h2⟩ | ⟨g, cap, cur, hv, hb, hg, _⟩
    · exact absurd h2 h0
    · injection hv with e1 e2 e3
      subst e1
      have hH := holdsK_of_own (enc := encRp) (fun _ => rfl) hown hn
      have hgs : g < w.heap.size := (Array.getElem?_eq_some_iff.1 hg).1
      have hs : l.toArray.size = n := by simpa using hn
      have hcon := AnyQ.slices_SortFunc Try.sortRp 3 Try.isAgg29 Try.sizeOf29 encRp (fun _ => rfl) (fun x v hv => by simp [encRp] at hv; rcases hv with rfl | rfl | rfl <;> rfl) cfR swoR 16 #[] g 0 c l.toArray w eg (cmpLaysR g 0 _ w) hH hgs (by omega)
      rw [hs] at hcon
      refine hcon.mono fun e w' ⟨h1, d', m, os, hp, hs2, hw⟩ => ⟨h1, ?_⟩
      rw [hw]
      exact srt_of (fun _ => rfl) hgs (Nat.le_trans hB hb) hH (by rw [hs]; exact hp) (by rw [hs]; exact hs2)
end Go.Proofs.Ytoiobhjbikfpmaa
