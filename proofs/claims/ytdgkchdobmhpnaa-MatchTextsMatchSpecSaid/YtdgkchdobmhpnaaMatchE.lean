/- The contract of match.Read. -/
import Derived.Test.YtdgkchdobmhpnaaMatchD
namespace Go.Proofs.Ytdgkchdobmhpnaa
open Go.RowKit Go.Dw

theorem info_int : (Try.prog.info? 3).map (fun i => (i.zero, i.size, i.bytes)) = some (some (.int .i64 0), 1, 8) := by kernel_rfl
/-- marks, a place and a fault are returned; old memory is as it was -/
def RdRes (w : World) (r : List Int × Int × Int) (e : Ending) (w' : World) : Prop :=
  ∃ A c, e = .returned (.tuple #[.slice A r.1.length c, .int .i64 r.2.1, .int .i64 r.2.2]) ∧ Rd w' A (ic r.1) ∧ Below w.heap.size w w'

theorem ic_append (a b : List Int) : ic (a ++ b) = ic a ++ ic b := by simp [ic]

set_option maxHeartbeats 1000000 in
theorem read_any (s : ByteArray) (w : World) (hn : s.size ≤ 9223372036854775807) :
    Calls Try.prog 11 #[.string s] w (RdRes w (rdd s.data.toList)) := by
  obtain ⟨i0, hi0, hz0, hz1, hz2⟩ := info_parts info_int
  have hsl := blen s
  have HSL := Lib.hid hsl
  clear hsl
  by_cases hl : 1000 < s.size
  · go_enter Try.func11, Try.ntmps11
    go_wp2
    go_ret3
    exact ⟨none, 0, by rw [rdd_big (by rw [HSL.out]; exact hl)]; rfl, .inl (by rw [rdd_big (by rw [HSL.out]; exact hl)]; rfl), Below.refl _ _⟩
  · go_enter Try.func11, Try.ntmps11
    go_wp2
    go_loopw [5, 6, 14] (fun v h i wr => ∃ (k : Nat) (hv : Int), k ≤ s.size ∧ i = .int .i64 k ∧ h = .int .i64 hv ∧ 0 ≤ hv ∧ hv ≤ 15 ∧ Hid (k % 2 = 1 → hv = dg (s.data.toList.getD (k - 1) 0)) ∧
       Hid (∀ j (h : j < k) (h2 : j < s.data.toList.length), 0 ≤ dg s.data.toList[j]) ∧ wr.ownsRow w.heap.size 3 1 v (prs (s.data.toList.take k)).length (ic (prs (s.data.toList.take k))) ∧ Below w.heap.size w wr) (fun _ _ i _ => s.size - (intOf i).toNat)
    case atStart => exact ⟨0, 0, Nat.zero_le _, rfl, rfl, by omega, by omega, by intro h; omega, by intro j h; omega, World.ownsRow_nil _ _ _ _, Below.refl _ _⟩
    case round =>
      obtain ⟨k, hv, hk, rfl, rfl, hv0, hv1, hhi, hall, hown, hbel⟩ := hrel
      by_cases hlt : k < s.size
      · have hr := dg_range s[k]
        have hkl : k < s.data.toList.length := by rw [HSL.out]; exact hlt
        by_cases hd : dg s[k] < 0
        · go_wp2_with (go_at_call 31; refine (index_hex _ _).mono ?_; rintro e w' ⟨rfl, rfl⟩)
          go_ret3
          have hres : rdd s.data.toList = ([], (k : Int), 10) := rdd_bad (by rw [HSL.out]; exact hl) hkl hd (fun j hj => hall.out j hj _)
          exact ⟨none, 0, by rw [hres]; rfl, .inl (by rw [hres]; rfl), hbel⟩
        · have Hall2 : Hid (∀ j (h : j < k + 1) (h2 : j < s.data.toList.length), 0 ≤ dg s.data.toList[j]) := by
            intro j hj h2
            by_cases hjk : j = k
            · subst hjk; show 0 ≤ dg s[j]; omega
            · exact hall.out j (by omega) h2
          by_cases hpar : k % 2 = 0
          · have hp : ((k : Int) % 2 == 0) = true := by simp; omega
            have HT := Lib.hid (prs_take_even s.data.toList k hkl hpar)
            have Hpar := Lib.hid hpar
            clear hpar
            go_wp2_with (go_at_call 31; refine (index_hex _ _).mono ?_; rintro e w' ⟨rfl, rfl⟩)
            go_roundw
            case rel => exact ⟨k + 1, dg s[k], by omega, by go_num, rfl, by omega, by omega, by intro _; rw [bget s k hlt], Hall2, by rw [HT.out]; exact hown, hbel⟩
            case measure => simp [intOf]; omega
          · have hp : ((k : Int) % 2 == 0) = false := by simp; omega
            have HT := Lib.hid (prs_take_odd s.data.toList k hkl (by omega))
            have hlen := prs_len (s.data.toList.take k)
            have hlen2 : (prs (s.data.toList.take k)).length ≤ 1000 := by rw [List.length_take] at hlen; omega
            have Hhv := Lib.hid (hhi.out (by omega))
            have Hpar := Lib.hid hpar
            have hsz := hbel.size
            clear hpar hlen
            go_wp2_with (first
              | (go_at_call 31; refine (index_hex _ _).mono ?_; rintro e w' ⟨rfl, rfl⟩)
              | (at_builtin; refine wpList_append_own _ rfl _ _ 22 rfl w.heap.size 3 i0 (.int .i64 0) 1 8 Try.underlying22 hi0 hz0 hz1 hz2 rfl (by decide) _ _ _ rfl (hown.alloc _) ⟨wr.heap.size, 0, none⟩ 1 1 [.int .i64 (16 * hv + dg s[k])] rfl rfl (World.news_of_block (cs := #[.int .i64 (16 * hv + dg s[k])]) (t := 3) (fr := (0, 0)) (heap_alloc_new wr _)) (by simp [Value.oneCell']) (by unfold maxLen; omega) (by omega) (by simp; omega) ?_; intro v1 w1 hown1 hgrow1 _))
            have hb2 := below_app' hbel hsz hown hgrow1
            go_wp2_with fail
            go_roundw
            case rel => exact ⟨k + 1, hv, by omega, by go_num, rfl, by omega, by omega, by intro h; have := Hpar.out; omega, Hall2, owns_eq hown1 (by rw [HT.out]; simp) (by rw [HT.out, ic_append, ← Hhv.out]; rfl), hb2⟩
            case measure => simp [intOf]; omega
      · obtain rfl : k = s.size := by omega
        have hfull : s.data.toList.take s.size = s.data.toList := List.take_of_length_le (by rw [HSL.out]; omega)
        rw [hfull] at hown
        have hres := rdd_ok (by rw [HSL.out]; exact hl) (fun j hj => hall.out j (by rw [← HSL.out]; exact hj) hj)
        rw [HSL.out] at hres
        have HR := Lib.hid hres
        clear hres hfull
        by_cases hpar : s.size % 2 = 1
        · have hp : (0 : Int) < (s.size : Int) % 2 := by omega
          have Hpar := Lib.hid hpar
          clear hpar
          go_wp2
          go_ret3
          have h3 := HR.out
          rw [if_pos Hpar.out] at h3
          exact ⟨none, 0, by rw [h3]; rfl, .inl (by rw [h3]; rfl), hbel⟩
        · have hp : ¬ (0 : Int) < (s.size : Int) % 2 := by omega
          have Hpar := Lib.hid hpar
          clear hpar
          go_wp2
          go_ret3
          have h3 := HR.out
          rw [if_neg Hpar.out] at h3
          obtain ⟨A, c, rfl⟩ := slice_of_own hown
          exact ⟨A, c, by rw [h3]; rfl, by rw [h3]; exact Rd.of_own hown, hbel⟩
end Go.Proofs.Ytdgkchdobmhpnaa
