/- The contract of slices.Clone at []api.Vote. -/
import Derived.Test.YtoiobhjbikfpmaaBase
import Derived.Lib.SliceRun
import Derived.Test.YtoiobhjbikfpmaaProg
namespace Go.Proofs.Ytoiobhjbikfpmaa
open Go.RowKit Go.Dw

theorem info_clVt : (Try.prog.info? 39).map (fun i => (i.zero, i.size, i.bytes)) = some (some (.agg #[.int .i64 0, .int .i64 0]), 2, 16) := by kernel_rfl
set_option maxHeartbeats 2000000 in
theorem clone_Vt (A : Option Addr) (n c : Nat) (cs : List Value) (w : World) (h : Rd w A cs) (hl : cs.length = n * 2) (h1 : ∀ u ∈ cs, u.oneCell' = true) (hbig : n * 16 ≤ 140737488355328) :
    Calls Try.prog 28 #[.slice A n c] w fun e w' => ∃ A' c', e = .returned (.slice A' n c') ∧ Rd w' A' cs ∧ Below w.heap.size w w' := by
  have q22 : ∀ (w : World) (a : Option Addr) (n c n' c' : Nat), (binOp .eql 34 (.slice a n c) (.slice none n' c')).run Try.prog w = .ok (.bool a.isNone) w := fun w a n c n' c' => Lib.run_eql_slice_nil w _ _ a n c n' c' Try.underlying34
  cases A with
  | none =>
    have hn : n = 0 ∧ cs = [] := by
      rcases h with h | ⟨b, off, h, _⟩
      · subst h
        simp only [List.length_nil] at hl
        exact ⟨by omega, rfl⟩
      · cases h
    obtain ⟨rfl, rfl⟩ := hn
    go_enter Try.func28, Try.ntmps28
    go_wp2
    go_ret
    exact ⟨none, 0, rfl, .inl rfl, Below.refl _ _⟩
  | some ad =>
    obtain ⟨i0, hi, hz0, hz1, hz2⟩ := info_parts info_clVt
    have u22 : ∀ w, Sem.run Try.prog (underlying 34) w = .ok (TypeDesc.slice 39) w := run_underlying Try.underlying34
    have HA : Hid (∀ j u, cs[j]? = some u → (w.alloc (.cells #[] 39)).cell? (ad.add j) = some u) := by
      intro j u hu
      rcases h with h | ⟨b, off, h, hb, hc⟩
      · subst h; simp at hu
      · injection h with h
        subst h
        have hadd : (⟨b, off, none⟩ : Addr).add j = ⟨b, off + j, none⟩ := by unfold Addr.add; split <;> simp_all
        rw [hadd]
        exact Lib.cell?_alloc_some _ (hc j u hu)
    have HL := Lib.hid hl
    clear h hl
    go_enter Try.func28, Try.ntmps28
    go_wp2_with (at_builtin; refine wpList_append_own _ rfl _ _ 34 rfl w.heap.size 39 i0 _ 2 16 Try.underlying34 hi hz0 hz1 hz2 rfl (by decide) _ _ _ rfl (World.ownsRow_made w #[] 0 (Nat.le_refl _) (Nat.zero_le _) rfl) ad n c cs rfl HL.out HA.out h1 (by unfold maxLen; omega) (by omega) (by simp) ?_)
    intro v' w1 hown hgrow hnil
    go_wp2
    go_ret
    obtain ⟨A', c', rfl⟩ := slice_of_own hown
    refine ⟨A', c', rfl, ?_, ?_⟩
    · exact Rd.of_own hown
    · exact ((Below.refl _ w).alloc (Nat.le_refl _) _).grown hgrow (by simp) (by intro k hk; simp [Value.ownBlock] at hk; omega)
end Go.Proofs.Ytoiobhjbikfpmaa
