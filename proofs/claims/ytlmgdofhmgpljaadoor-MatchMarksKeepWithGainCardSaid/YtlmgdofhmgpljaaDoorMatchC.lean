/- The contract of match.Text. -/
import Derived.Test.YtlmgdofhmgpljaaDoorMatchB
import Derived.Test.YtlmgdofhmgpljaaDoorMatchP
import Derived.StillTailTactics
import Derived.Deep.RegionHeld3
namespace Go.Proofs.YtlmgdofhmgpljaaDoor
open Go.RowKit Go.Dw


def hx (n : Int) : UInt8 := hexB.getD n.toNat 0
def two (m : Int) : List UInt8 := [hx (m / 16), hx (m % 16)]
def txt (xs : List Int) : List UInt8 := xs.flatMap two
theorem info_u8 : (Tryd.prog.info? 5).map (fun i => (i.zero, i.size, i.bytes)) = some (some (.int .u8 0), 1, 1) := by kernel_rfl

theorem run_hex (w : World) (i : Int) (h0 : 0 ≤ i) (h1 : i < 16) :
    Sem.run Tryd.prog (Instr.index 9 (.string ⟨#[48, 49, 50, 51, 52, 53, 54, 55, 56, 57, 97, 98, 99, 100, 101, 102]⟩) (.int .i64 i)) w = .ok (.int .u8 (hx i).toNat) w := by
  obtain ⟨n, rfl⟩ := Int.eq_ofNat_of_zero_le h0
  have hn : n < 16 := by omega
  go_simp
  unfold hx hexB
  match n, hn with
  | 0, _ | 1, _ | 2, _ | 3, _ | 4, _ | 5, _ | 6, _ | 7, _ | 8, _ | 9, _ | 10, _ | 11, _ | 12, _ | 13, _ | 14, _ | 15, _ => rfl
theorem and15 (n : Int) : bits .and .i64 n 15 = n % 16 := by
  have h15 : (BitVec.ofInt 64 15).toNat = 2 ^ 4 - 1 := by decide
  have key : (BitVec.ofInt 64 n &&& BitVec.ofInt 64 15).toNat = (n % ((2 ^ 64 : Nat) : Int)).toNat % 2 ^ 4 := by
    rw [BitVec.toNat_and, BitVec.toNat_ofInt, h15, Nat.and_two_pow_sub_one_eq_mod]
  show IntKind.i64.wrap ((BitVec.ofInt 64 n &&& BitVec.ofInt 64 15).toNat : Nat) = n % 16
  rw [key, IntKind.wrap_i64]
  omega

theorem two_oneCell (m : Int) : ∀ u ∈ bc (two m), u.oneCell' = true := by simp [bc, two, Value.oneCell']
theorem txt_length (xs : List Int) : (txt xs).length = 2 * xs.length := by
  induction xs with
  | nil => rfl
  | cons x t ih =>
    have : txt (x :: t) = two x ++ txt t := by simp [txt]
    rw [this, List.length_append, ih]; simp [two]; omega
theorem txt_succ (xs : List Int) (k : Nat) (h : k < xs.length) : txt (xs.take (k + 1)) = txt (xs.take k) ++ two xs[k] := by
  unfold txt; rw [List.take_succ_eq_append_getElem h, List.flatMap_append]; simp

set_option maxHeartbeats 400000 in
theorem text_ok (A : Option Addr) (c : Nat) (xs : List Int) (w : World) (h : Rd w A (ic xs)) (hn : xs.length ≤ 9223372036854775807) (hl : ¬ 500 < xs.length) (ha : xs.all okM = true) :
    Calls Tryd.prog 11 #[.slice A xs.length c] w fun e w' => e = .returned (.tuple #[.string ⟨(txt xs).toArray⟩, .int .i64 0]) ∧ Below w.heap.size w w' := by
  obtain ⟨i0, hi0, hz0, hz1, hz2⟩ := info_parts info_u8
  have HA := Lib.hid ha
  clear ha
  have hb0 : Below w.heap.size w (w.alloc (.cells #[.slice A xs.length c] 25)) := (Below.refl _ _).alloc (Nat.le_refl _) _
  go_enter Tryd.func11, Tryd.ntmps11
  go_wp2_with fail
  refine (checkMarks_any (some ⟨w.heap.size, 0, none⟩) 1 [⟨A, c, xs⟩] _ ?_ (by simp) ?_).mono ?_
  · refine .inr ⟨_, _, rfl, by simp, ?_⟩
    intro j u hu
    cases j with
    | zero => simp at hu; subst hu; simp [Sl.v]
    | succ j => simp at hu
  · intro s hs
    simp at hs
    subst hs
    exact ⟨h.below hb0, hn⟩
  have Hb0 := Lib.hid hb0
  clear hb0
  have h0 : Hid (chks [⟨A, c, xs⟩] = 0) := chks_ok (by intro s hs; simp at hs; subst hs; exact chk_ok hl HA.out)
  rintro e w' ⟨rfl, rfl⟩
  rw [h0.out]
  go_wp2_with fail
  go_loopw [5, 16] (fun v i wr => ∃ k : Nat, k ≤ xs.length ∧ i = .int .i64 k ∧ wr.ownsRow w.heap.size 5 1 v (txt (xs.take k)).length (bc (txt (xs.take k))) ∧ Below w.heap.size w wr) (fun _ i _ => xs.length - (intOf i).toNat)
  case atStart => exact ⟨0, Nat.zero_le _, rfl, World.ownsRow_nil _ _ _ _, Hb0.out⟩
  case round =>
    obtain ⟨k, hk, rfl, hown, hbel⟩ := hrel
    by_cases hlt : k < xs.length
    · obtain ⟨b, off, rfl, hb, hc⟩ := h.at_ (by simp [ic_length]; omega)
      have hck := hc k _ (ic_at xs k hlt)
      rw [← hbel.cell (by exact hb)] at hck
      have hm := okM_t (List.all_eq_true.1 HA.out _ (List.getElem_mem hlt))
      obtain ⟨hm1, hm2⟩ := hm
      have HT := Lib.hid (txt_succ xs k hlt)
      have hlen : (txt (xs.take k)).length ≤ 1000 := by rw [txt_length, List.length_take]; omega
      have hsz := hbel.size
      generalize xs[k] = m at *
      have hand := and15 m
      have hi1 := fun W => run_hex W (m / 16) (by omega) (by omega)
      have hi2 := fun W => run_hex W (m % 16) (by omega) (by omega)
      clear hc
      go_wp2_with fail
      go_region_held3 (fun w' => True) (trivial) ((refine step_append_lies _ (by rfl) _ _ _ (by rfl) w.heap.size 5 i0 _ 1 1 Tryd.underlying55 hi0 hz0 hz1 hz2 rfl (by omega) _ _ _ (by rfl) ((hown.alloc _).drew) ⟨wr.heap.size, 0, none⟩ 2 2 (bc (two m)) (by rfl) (by rfl) (World.news_of_block (cs := (bc (two m)).toArray) (t := 5) (fr := (0, 0)) (heap_alloc_new wr _)) (two_oneCell m) (by omega) (by unfold maxLen; omega) (by omega) (by simp; omega) (wr.heap.size + 1) (by simp) ?_; intro gg cap w1 hown1 hgrow hat hlt1))
      all_goals
        have hb2 := below_app hbel hsz hown hgrow
        go_wp2_with fail
        go_roundw
        case rel => exact ⟨k + 1, by omega, by go_num, owns_eq hown1 (by rw [HT.out]; simp [two]) (by rw [HT.out, bc_append]), hb2⟩
        case measure => simp [intOf]; omega
    · have hfull : xs.take k = xs := List.take_of_length_le (by omega)
      rw [hfull] at hown
      have hcv := run_string_own (P := Tryd.prog) wr 55 9 5 _ _ _ Tryd.underlying55 Tryd.underlying5 Tryd.underlying9 hown
      go_wp2_with fail
      go_ret2
      exact ⟨rfl, hbel⟩
end Go.Proofs.YtlmgdofhmgpljaaDoor
