/- The walk of MatchFindsWhatIsCut. -/
import Derived.Test.YtdfoehifklngoaaDoorLocC
import Derived.Test.YtdfoehifklngoaaDoorHitQ
import Derived.Test.YtdfoehifklngoaaDoorBelow
import Derived.Test.YtdfoehifklngoaaDoorMatchH
import Derived.Test.YtdfoehifklngoaaDoorEqInts
import Derived.Test.YtdfoehifklngoaaDoorDecMatch
namespace Go.Proofs.YtdfoehifklngoaaDoor
open Go.RowKit Go.Dw

theorem ic_cut (xs : List Int) (f n j : Nat) (u : Value) (h : (ic (cut xs f n))[j]? = some u) : (ic xs)[f + j]? = some u := by
  unfold ic cut at *
  rw [List.getElem?_map] at *
  by_cases hj : j < n
  · rwa [List.getElem?_take_of_lt hj, List.getElem?_drop] at h
  · rw [List.getElem?_eq_none (by simp; omega)] at h; simp at h
theorem rd_cut {w : World} {b off : Nat} {xs : List Int} (hb : b < w.heap.size) (h : ∀ j u, (ic xs)[j]? = some u → w.cell? ⟨b, off + j, none⟩ = some u) (f n : Nat) : Rd w (some ⟨b, off + f, none⟩) (ic (cut xs f n)) :=
  .inr ⟨b, off + f, rfl, hb, fun j u hu => by rw [Nat.add_assoc]; exact h _ _ (ic_cut xs f n j u hu)⟩
theorem chk_cut {xs : List Int} {f n : Nat} (h : f + n ≤ xs.length) (hl : ¬ 500 < xs.length) (hx : xs.all okM = true) : chk (cut xs f n) = 0 :=
  chk_ok (by rw [cut_len h]; omega) (List.all_eq_true.2 fun x hx2 => List.all_eq_true.1 hx x (List.mem_of_mem_drop (List.mem_of_mem_take hx2)))
set_option maxRecDepth 100000 in
set_option maxHeartbeats 2000000 in
theorem finds_walk (A : Option Addr) (c : Nat) (xs : List Int) (from_ n_ : Int) (w : World) (h : Rd w A (ic xs)) (hn : xs.length ≤ 9223372036854775807) (hc : xs.length ≤ c) :
    Calls Tryd.prog 3 #[.slice A xs.length c, .int .i64 from_, .int .i64 n_] w fun e w' => e = .returned (.bool true) ∧ Below w.heap.size w w' := by
  have HCK := Lib.hid (checkM_any A c xs w h hn)
  have HAW := Lib.hid (fun W => awake4 W)
  have HRD := Lib.hid h
  by_cases hz : chk xs = 0
  case neg =>
    have hzb : (chk xs != 0) = true := by simpa using hz
    clear hz h
    go_enter Tryd.func3, Tryd.ntmps3
    go_wp2_with fail
    refine HCK.out.mono ?_
    rintro e w1 ⟨rfl, rfl⟩
    go_wp2_with fail
    refine (HAW.out _).mono ?_
    rintro e w1 ⟨rfl, hb⟩
    have HB := Lib.hid hb
    clear hb
    go_wp2_with fail
    go_ret
    exact ⟨rfl, HB.out⟩
  have hz2 := chk_zero hz
  have HZ := Lib.hid hz
  have hzb : (chk xs != 0) = false := by simpa using hz
  obtain ⟨hxl, hxs⟩ := hz2
  have HXS := Lib.hid hxs
  clear hz hxs
  by_cases hl0 : xs.length = 0
  case pos =>
    have hlb : ((xs.length : Int) == 0) = true := by simpa using hl0
    have hlb' : (xs.length == 0) = true := by simpa using hl0
    clear h hl0
    go_enter Tryd.func3, Tryd.ntmps3
    go_wp2_with fail
    refine HCK.out.mono ?_
    rintro e w1 ⟨rfl, rfl⟩
    go_wp2_with fail
    refine (HAW.out _).mono ?_
    rintro e w1 ⟨rfl, hb⟩
    have HB := Lib.hid hb
    clear hb
    go_wp2_with fail
    go_ret
    exact ⟨rfl, HB.out⟩
  have hlb : ((xs.length : Int) == 0) = false := by simpa using hl0
  have hlb' : (xs.length == 0) = false := by simpa using hl0
  obtain ⟨b, off, rfl, hbz, hcell⟩ := h.at_ (by simp [ic_length]; omega)
  have HCE := Lib.hid hcell
  have hl1 : 1 ≤ xs.length := by omega
  clear hcell hl0
  go_enter Tryd.func3, Tryd.ntmps3
  go_wp2_with fail
  refine HCK.out.mono ?_
  rintro e w1 ⟨rfl, rfl⟩
  go_wp2_with fail
  refine (belowN_any from_ xs.length _ hl1 (by omega)).mono ?_
  rintro e w1 ⟨f, hf, rfl, rfl⟩
  have hsub : (xs.length : Int) - (f : Int) = ((xs.length - f : Nat) : Int) := by omega
  go_wp2_with fail
  refine (belowN_any n_ (xs.length - f) _ (by omega) (by omega)).mono ?_
  rintro e w1 ⟨gq, hgq, rfl, rfl⟩
  obtain ⟨n, hne⟩ : ∃ n : Nat, gq + 1 = n := ⟨_, rfl⟩
  have hn1 : (1 : Int) + (gq : Int) = (n : Int) := by omega
  have hfn : f + n ≤ xs.length := by omega
  have hi1 : (0 : Int) ≤ (f : Int) := by omega
  have hi2 : (f : Int) ≤ (f : Int) + (n : Int) := by omega
  have hi3 : (f : Int) + (n : Int) ≤ (c : Int) := by omega
  have HG := Lib.hid (And.intro hgq hne)
  clear hgq hne hsub
  go_wp2_with fail
  obtain ⟨a, ha1, ha2, hE, hO, hcut⟩ := found_end (nm := ⟨#[97]⟩) hfn (by omega) HXS.out
  have hl := cut_len hfn
  have hla := cut_len ha2
  have HL := locate1_any (some ⟨b, off, none⟩) (some ⟨b, off + f, none⟩) w.heap.size c 1 (c - f) xs (cut xs f n) n (w.alloc (.cells #[.string ⟨#[97]⟩, .slice (some ⟨b, off, none⟩) xs.length c] 31)) (new_cell (cs := [_, _]) rfl rfl) (new_cell (cs := [_, _]) rfl rfl) (HRD.out.below ((Below.refl _ _).alloc (Nat.le_refl _) _)) ((rd_cut hbz HCE.out f n).below ((Below.refl _ _).alloc (Nat.le_refl _) _)) HZ.out (chk_cut hfn hxl HXS.out) (by omega) (by omega) hO
  rw [hE, hl] at HL
  have HEQ := Lib.hid (fun (W : World) (hW : Below w.heap.size w W) => equal_any (some ⟨b, off + a, none⟩) (some ⟨b, off + f, none⟩) (c - a) (c - f) (cut xs a n) (cut xs f n) W ((rd_cut hbz HCE.out a n).below hW) ((rd_cut hbz HCE.out f n).below hW) (by omega))
  rw [hcut, hl] at HEQ
  refine HL.mono ?_
  rintro e w1 ⟨A2, cap, rfl, hr, hbl⟩
  have hB : Below w.heap.size w w1 := ((Below.refl _ _).alloc (Nat.le_refl _) _).trans (hbl.mono (by simp))
  obtain ⟨b2, o2, rfl, hb2, hcell⟩ := hr.at_ (by simp [Ht.cs])
  have c1 : w1.cell? ⟨b2, o2 + 1, none⟩ = some (.int .i64 (a : Int)) := hcell 1 _ rfl
  have c2 : w1.cell? ⟨b2, o2 + 2, none⟩ = some (.int .i64 0) := hcell 2 _ rfl
  have c3 : w1.cell? ⟨b2, o2 + 3, none⟩ = some (.int .i64 (8 * (n : Int))) := hcell 3 _ rfl
  have HB := Lib.hid hB
  have hb3 : ((8 * (n : Int)) != 8 * (n : Int)) = false := by simp
  clear hB hbl hr hcell HL hcut hl hla hE hO
  go_wp2_with fail
  refine (HAW.out _).mono ?_
  rintro e w2 ⟨rfl, hb4⟩
  have d1 : w2.cell? ⟨b2, o2 + 1, none⟩ = some (.int .i64 (a : Int)) := by rw [hb4.cell (by exact hb2)]; exact c1
  have HB2 := Lib.hid (HB.out.trans (hb4.mono HB.out.size))
  have hi4 : (0 : Int) ≤ (a : Int) := by omega
  have hi5 : (a : Int) ≤ (a : Int) + (n : Int) := by omega
  have hi6 : (a : Int) + (n : Int) ≤ (c : Int) := by omega
  have hi7 : decide (a ≤ f) = true := by simpa using ha1
  clear hb4 c1 c2 c3 hb3
  go_wp2_with fail
  have HQ := HEQ.out _ HB2.out
  refine HQ.mono ?_
  rintro e w3 ⟨rfl, nn, rfl⟩
  have HB3 := Lib.hid (below_drewN HB2.out nn)
  go_wp2_with fail
  go_ret
  exact ⟨by simp, HB3.out⟩
theorem finds_law (x0 : Slc Int) (x1 x2 : Int) (W : World) (ok0 : (x0.xs.length ≤ maxLen ∧ Rd W x0.a (x0.xs.flatMap fun n => [Value.int .i64 n]) ∧ ∀ n ∈ x0.xs, inI64 n) ∧ x0.xs.length ≤ x0.c ∧ x0.c ≤ maxLen) (_ : inI64 x1) (_ : inI64 x2) :
    Calls Tryd.prog 3 #[x0.v, .int .i64 x1, .int .i64 x2] W fun e w' => e = .returned (.bool true) ∧ Below W.heap.size W w' := by
  obtain ⟨⟨h1, h2, _⟩, h3, _⟩ := ok0
  rw [ic_flat] at h2
  exact finds_walk x0.a x0.c x0.xs x1 x2 W h2 (by unfold maxLen at h1; omega) h3
end Go.Proofs.YtdfoehifklngoaaDoor
