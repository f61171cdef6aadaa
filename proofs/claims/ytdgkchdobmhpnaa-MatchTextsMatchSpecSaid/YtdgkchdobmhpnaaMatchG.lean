/- The contract of the reference's Read. -/
import Derived.Test.YtdgkchdobmhpnaaMatchE
import Derived.Deep.RegionHeld3
namespace Go.Proofs.Ytdgkchdobmhpnaa
open Go.RowKit Go.Dw

theorem bget2 (s : ByteArray) (k : Nat) (h : k < s.size) : s.data.toList.getD k 0 = s[k] := (bget s k h).symm
set_option maxHeartbeats 1000000 in
theorem rread_any (s : ByteArray) (w : World) (hn : s.size ≤ 9223372036854775807) :
    Calls Try.prog 13 #[.string s] w (RdRes w (rdd s.data.toList)) := by
  obtain ⟨i0, hi0, hz0, hz1, hz2⟩ := info_parts info_int
  have hsl := blen s
  have HSL := Lib.hid hsl
  clear hsl
  by_cases hl : 1000 < s.size
  · go_enter Try.func13, Try.ntmps13
    go_wp2
    go_ret3
    exact ⟨none, 0, by rw [rdd_big (by rw [HSL.out]; exact hl)]; rfl, .inl (by rw [rdd_big (by rw [HSL.out]; exact hl)]; rfl), Below.refl _ _⟩
  · go_enter Try.func13, Try.ntmps13
    go_wp2
    go_loop [13] (fun i => ∃ (k : Nat), k ≤ s.size ∧ i = .int .i64 k ∧ Hid (∀ j (h : j < k) (h2 : j < s.data.toList.length), 0 ≤ dg s.data.toList[j])) (fun i => s.size - (intOf i).toNat)
    case atStart => exact ⟨0, Nat.zero_le _, rfl, by intro j h; omega⟩
    case round =>
      obtain ⟨k, hk, rfl, hall⟩ := hrel
      by_cases hlt : k < s.size
      · have hr := dg_range s[k]
        have hkl : k < s.data.toList.length := by rw [HSL.out]; exact hlt
        by_cases hd : dg s[k] < 0
        · go_wp2_with (go_at_call 32; refine (digit_any _ _).mono ?_; rintro e w' ⟨rfl, rfl⟩)
          go_ret3
          have hres : rdd s.data.toList = ([], (k : Int), 10) := rdd_bad (by rw [HSL.out]; exact hl) hkl hd (fun j hj => hall.out j hj _)
          exact ⟨none, 0, by rw [hres]; rfl, .inl (by rw [hres]; rfl), Below.refl _ _⟩
        · have Hall2 : Hid (∀ j (h : j < k + 1) (h2 : j < s.data.toList.length), 0 ≤ dg s.data.toList[j]) := by
            intro j hj h2
            by_cases hjk : j = k
            · subst hjk; show 0 ≤ dg s[j]; omega
            · exact hall.out j (by omega) h2
          go_wp2_with (go_at_call 32; refine (digit_any _ _).mono ?_; rintro e w' ⟨rfl, rfl⟩)
          go_round
          case rel => exact ⟨k + 1, by omega, by go_num, Hall2⟩
          case measure => simp [intOf]; omega
      · obtain rfl : k = s.size := by omega
        have hres := rdd_ok (by rw [HSL.out]; exact hl) (fun j hj => hall.out j (by rw [← HSL.out]; exact hj) hj)
        rw [HSL.out] at hres
        have HR := Lib.hid hres
        clear hres
        by_cases hpar : s.size % 2 = 1
        · have hp : ((s.size : Int) % 2 == 1) = true := by simp; omega
          have Hpar := Lib.hid hpar
          clear hpar
          go_wp2
          go_ret3
          have h3 := HR.out
          rw [if_pos Hpar.out] at h3
          exact ⟨none, 0, by rw [h3]; rfl, .inl (by rw [h3]; rfl), Below.refl _ _⟩
        · have hp : ((s.size : Int) % 2 == 1) = false := by simp; omega
          have Hpar := Lib.hid hpar
          clear hpar
          go_wp2
          go_loopw [6, 7] (fun v i wr => ∃ (k : Nat), k ≤ s.size ∧ Hid (k % 2 = 0) ∧ i = .int .i64 k ∧ wr.ownsRow w.heap.size 3 1 v (prs (s.data.toList.take k)).length (ic (prs (s.data.toList.take k))) ∧ Below w.heap.size w wr) (fun _ i _ => s.size - (intOf i).toNat)
          case atStart => exact ⟨0, Nat.zero_le _, rfl, rfl, World.ownsRow_nil _ _ _ _, Below.refl _ _⟩
          case round =>
            obtain ⟨k, hk, hke, rfl, hown, hbel⟩ := hrel
            by_cases hlt : k < s.size
            · have hlt1 : k + 1 < s.size := by have := hke.out; have := Hpar.out; omega
              have hr := dg_range s[k]
              have hr1 := dg_range s[k + 1]
              have h0k := hall.out k hlt (by rw [HSL.out]; exact hlt)
              have HT : Hid (prs (s.data.toList.take (k + 2)) = prs (s.data.toList.take k) ++ [16 * dg s[k] + dg s[k + 1]]) := by
                have h1 := prs_take_odd s.data.toList (k + 1) (by rw [HSL.out]; exact hlt1) (by have := hke.out; omega)
                rw [prs_take_even s.data.toList k (by rw [HSL.out]; exact hlt) hke.out] at h1
                show _ = _
                rw [h1, Nat.add_sub_cancel, bget2 s k hlt]; rfl
              have hlen := prs_len (s.data.toList.take k)
              have hlen2 : (prs (s.data.toList.take k)).length ≤ 1000 := by rw [List.length_take] at hlen; omega
              have hsz := hbel.size
              have hi1 : (0 : Int) ≤ (k : Int) := by omega
              have hi2 : (k : Int) < (s.size : Int) := by omega
              have hi3 : (k : Int) + 1 < (s.size : Int) := by omega
              have hx1 := run_at s k k rfl hlt
              have hx2 := run_at s (k + 1) (k + 1) (by omega) hlt1
              clear hlen
              go_wp2_with fail
              have hwr : IntKind.i64.wrap ((k : Int) + 1) = (k : Int) + 1 := IntWalk.i64_in _ (by omega)
              have hwr2 : IntKind.i64.wrap (16 * dg s[k]) = 16 * dg s[k] := IntWalk.i64_in _ (by omega)
              have hwr3 : IntKind.i64.wrap (16 * dg s[k] + dg s[k + 1]) = 16 * dg s[k] + dg s[k + 1] := IntWalk.i64_in _ (by omega)
              go_region_held3 (fun w' => True) (trivial) (first
                | (refine step_append_lies _ (by rfl) _ _ _ (by rfl) w.heap.size 3 i0 _ 1 8 Try.underlying22 hi0 hz0 hz1 hz2 rfl (by omega) _ _ _ (by rfl) ((hown.alloc _).drew) ⟨wr.heap.size, 0, none⟩ 1 1 [.int .i64 (16 * dg s[k] + dg s[k + 1])] (by rfl) (by rfl) (World.news_of_block (cs := #[.int .i64 (16 * dg s[k] + dg s[k + 1])]) (t := 3) (fr := (0, 0)) (heap_alloc_new wr _)) (by simp [Value.oneCell']) (by omega) (by unfold maxLen; omega) (by omega) (by simp; omega) (wr.heap.size + 1) (by simp) ?_; intro gg cap w1 hown1 hgrow hat hlt1)
                | (go_at_call 32; refine (digit_any _ _).mono ?_; rintro e w' ⟨rfl, rfl⟩))
              all_goals
                have hb2 := below_app hbel hsz hown hgrow
                clear hwr hwr2 hwr3
                go_wp2_with fail
                go_roundw
                case rel => exact ⟨k + 2, by omega, by have := hke.out; show _ = _; omega, by go_num, owns_eq hown1 (by rw [HT.out]; simp) (by rw [HT.out, ic_append]; rfl), hb2⟩
                case measure => simp [intOf]; omega
            · obtain rfl : k = s.size := by omega
              have hfull : s.data.toList.take s.size = s.data.toList := List.take_of_length_le (by rw [HSL.out]; omega)
              rw [hfull] at hown
              clear hfull
              go_wp2
              go_ret3
              have h3 := HR.out
              rw [if_neg Hpar.out] at h3
              obtain ⟨A, c, rfl⟩ := slice_of_own hown
              exact ⟨A, c, by rw [h3]; rfl, by rw [h3]; exact Rd.of_own hown, hbel⟩
end Go.Proofs.Ytdgkchdobmhpnaa
