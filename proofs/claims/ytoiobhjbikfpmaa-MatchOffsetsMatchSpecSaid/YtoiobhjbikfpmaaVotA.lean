/- The order of votes as Go has it, and their sort. -/
import Derived.Test.YtoiobhjbikfpmaaVotP
import Derived.Test.YtoiobhjbikfpmaaOr
import Derived.Test.YtoiobhjbikfpmaaSortK
import Derived.Test.YtoiobhjbikfpmaaShSort
import Derived.Test.YtoiobhjbikfpmaaTab
import Derived.Shelf.SlSortCmp.NoneTotal
import Derived.Deep.RegionHeld3
import Derived.Deep.DrawnRows
namespace Go.Proofs.Ytoiobhjbikfpmaa
open Go.RowKit Go.Dw Go.Sort
attribute [local go_sem ↓] Go.wp_at_zero Go.wp_at_succ

def encVt (x : Vot) : List Value := [.int .i64 x.d, .int .i64 (x.n : Int)]
def cfV (x y : Vot) : Int := orL [cmpI (y.n : Int) x.n, cmpI x.d y.d]
theorem ltOf_cfV (x y : Vot) : ltOf cfV x y = true ↔ ltV x y := by
  unfold ltOf cfV ltV
  simp only [orL, orI, cmpI]
  by_cases h1 : (y.n : Int) < x.n
  · simp [h1]; omega
  · by_cases h2 : (x.n : Int) < y.n
    · simp [h1, h2]; omega
    · by_cases h3 : x.d < y.d
      · simp [h1, h2, h3]; omega
      · by_cases h4 : y.d < x.d
        · simp [h1, h2, h3, h4]; omega
        · simp [h1, h2, h3, h4]; omega
theorem ltOf_cfV' (x y : Vot) : ltOf cfV x y = false ↔ ¬ ltV x y := by
  rw [← ltOf_cfV]; simp
theorem swoV : SWO (ltOf cfV) where
  irrefl x := (ltOf_cfV' x x).2 (ltV_irrefl x)
  trans x y z h1 h2 := by rw [ltOf_cfV] at *; exact ltV_trans x y z h1 h2
  ntrans x y z h1 h2 := by rw [ltOf_cfV'] at *; unfold ltV at *; omega
set_option maxHeartbeats 1000000 in
theorem cmpV_any (a1 n1 a2 n2 : Int) (w : World) :
    Calls Try.prog 27 #[.agg #[.int .i64 a1, .int .i64 n1], .agg #[.int .i64 a2, .int .i64 n2]] w fun e w' => e = .returned (.int .i64 (orL [cmpI n2 n1, cmpI a1 a2])) ∧ Grw w w' := by
  obtain ⟨r, hr⟩ : ∃ r, orL [cmpI n2 n1, cmpI a1 a2] = r := ⟨_, rfl⟩
  have HO : Hid (∀ (W : World) (b : Nat), W.cell? ⟨b, 0, none⟩ = some (.int .i64 (cmpI n2 n1)) → W.cell? ⟨b, 1, none⟩ = some (.int .i64 (cmpI a1 a2)) →
      Calls Try.prog 17 #[.slice (some ⟨b, 0, none⟩) 2 2] W fun e w' => e = .returned (.int .i64 r) ∧ W = w') := fun W b h0 h1 => by
    rw [← hr]
    refine or_any b 0 2 [cmpI n2 n1, cmpI a1 a2] W (by simp) fun j hj => ?_
    simp only [List.length_cons, List.length_nil] at hj
    rcases (by omega : j = 0 ∨ j = 1) with rfl | rfl
    · exact h0
    · exact h1
  have HR := Lib.hid hr
  clear hr
  go_enter Try.func27, Try.ntmps27
  go_wp2
  go_region_held3 (fun W => W.cell? ⟨w.heap.size, 0, none⟩ = some (.int .i64 a1) ∧ W.cell? ⟨w.heap.size, 1, none⟩ = some (.int .i64 n1) ∧ W.cell? ⟨w.heap.size + 1, 0, none⟩ = some (.int .i64 a2) ∧ W.cell? ⟨w.heap.size + 1, 1, none⟩ = some (.int .i64 n2))
    (first | assumption | go_keep)
    (first | (go_at_call 18; refine (cmp_any _ _ _).mono ?_; rintro e w' ⟨rfl, rfl⟩) | (go_at_call 17; refine (HO.out _ _ (by simp; exact new_cell (cs := [_, _]) (by simp) rfl) (by simp; exact new_cell (cs := [_, _]) (by simp) rfl)).mono ?_; rintro e w' ⟨rfl, rfl⟩))
  all_goals
    go_wp2
    go_ret
    refine ⟨?_, ?_⟩
    · rw [HR.out]; rfl
    · exact ((((Grw.refl _).alloc _).alloc _).alloc _).drew
theorem cmpLaysV (g off size : Nat) (w : World) : CmpLays Try.prog 27 #[] encVt 2 cfV g off size w :=
  fun _ _ _ _ x y => cmpV_any x.d x.n y.d y.n _
def SrtV (w : World) (B : Nat) (A : Option Addr) (l : List Vot) (e : Ending) (w' : World) : Prop := e = .returned (.tuple #[]) ∧ Srt (ltOf cfV) encVt w B A l w'
theorem sortV_any (B base : Nat) (A : Option Addr) (n c : Nat) (l : List Vot) (w : World) (hB : B ≤ base) (hown : w.ownsRow base 39 2 (.slice A n c) n (l.flatMap encVt)) (hn : l.length = n) (hm : n < 4611686018427387904) :
    Calls Try.prog 26 #[.slice A n c, .func (.func 27) #[] #[]] w (SrtV w B A l) := by
  have eg : ∀ args w, (callFunc 27 args).run Try.prog w = .ok (.enter 27 args) w := enters_of Try.func27 (by kernel_rfl) rfl
  by_cases h0 : n = 0
  · subst h0
    have : l = [] := List.eq_nil_of_length_eq_zero hn
    subst this
    exact (AnyF.slices_SortFunc_none Try.sortVt A c _ w).mono fun e w' ⟨h1, h2⟩ => ⟨h1, [], List.Perm.refl _, by simp, .inl rfl, by rw [h2]; exact Below.refl _ _⟩
  · rcases hown.2 with ⟨h1, h2⟩ | ⟨g, cap, cur, hv, hb, hg, _⟩
    · exact absurd h2 h0
    · injection hv with e1 e2 e3
      subst e1
      have hH := holdsK_of_own (enc := encVt) (fun _ => rfl) hown hn
      have hgs : g < w.heap.size := (Array.getElem?_eq_some_iff.1 hg).1
      have hs : l.toArray.size = n := by simpa using hn
      have hcon := AnyQ.slices_SortFunc Try.sortVt 2 Try.isAgg39 Try.sizeOf39 encVt (fun _ => rfl) (fun x v hv => by simp [encVt] at hv; rcases hv with rfl | rfl <;> rfl) cfV swoV 27 #[] g 0 c l.toArray w eg (cmpLaysV g 0 _ w) hH hgs (by omega)
      rw [hs] at hcon
      refine hcon.mono fun e w' ⟨h1, d', m, os, hp, hs2, hw⟩ => ⟨h1, ?_⟩
      rw [hw]
      exact srt_of (fun _ => rfl) hgs (Nat.le_trans hB hb) hH (by rw [hs]; exact hp) (by rw [hs]; exact hs2)
end Go.Proofs.Ytoiobhjbikfpmaa
