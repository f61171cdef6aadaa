/- The contract of match.Locate at one name, where there is a hit. -/
import Derived.Test.YtdfoehifklngoaaDoorLocB
import Derived.Test.YtdfoehifklngoaaDoorHit
import Derived.Test.YtdfoehifklngoaaDoorSort1
namespace Go.Proofs.YtdfoehifklngoaaDoor
open Go.RowKit Go.Dw

theorem info_hit : (Tryd.prog.info? 34).map (fun i => (i.zero, i.size, i.bytes)) = some (some (.agg #[.string ⟨#[]⟩, .int .i64 0, .int .i64 0, .int .i64 0]), 4, 40) := by kernel_rfl
theorem own_belowL {B : Nat} {e : TypeId} {k : Nat} {v : Value} {n : Nat} {xs : List Value} {w w' : World} (h : w.ownsRow B e k v n xs) (hb : Below w.heap.size w w') : w'.ownsRow B e k v n xs :=
  h.kept (row := none) ⟨hb.os, hb.tape, hb.output, hb.size, fun j hj _ => hb.block j hj⟩ (by cases hv : v.ownBlock <;> simp)
theorem below_appL {B e size n : Nat} {w wr w1 : World} {o o2 : Obj} {v : Value} {xs : List Value} (hbel : Below B w wr) (hsz : B ≤ wr.heap.size)
    (hown : wr.ownsRow B e size v n xs) (hg : ((wr.alloc o).alloc o2).grownBy w1 v.ownBlock) : Below B w w1 :=
  ((hbel.alloc hsz o).alloc (by simp; omega) o2).grown hg (by simp; omega) (fun k hk => (hown.lt k hk).1)

def Loc1 (w : World) (h : Ht) (e : Ending) (w' : World) : Prop :=
  ∃ A2 cap, e = .returned (.tuple #[.slice A2 1 cap, .int .i64 0]) ∧ Rd w' A2 h.cs ∧ Below w.heap.size w w'
set_option maxRecDepth 100000 in
set_option maxHeartbeats 2000000 in
theorem locate1_any (A B : Option Addr) (g c c2 cb : Nat) (xs ys : List Int) (least : Int) (w : World) (h0 : w.cell? ⟨g, 0, none⟩ = some (.string ⟨#[97]⟩)) (h1 : w.cell? ⟨g, 1, none⟩ = some (.slice A xs.length c))
    (ha : Rd w A (ic xs)) (hb : Rd w B (ic ys)) (hx : chk xs = 0) (hy : chk ys = 0) (hl1 : 1 ≤ least) (hl2 : least ≤ 500) (hok : hOk ⟨#[97]⟩ xs ys least 100 = true) :
    Calls Tryd.prog 7 #[.slice (some ⟨g, 0, none⟩) 1 c2, .slice B ys.length cb, .int .i64 least, .int .i64 100] w (Loc1 w (hEnd ⟨#[97]⟩ xs ys least).2) := by
  obtain ⟨hxl, hxs⟩ := chk_zero hx
  obtain ⟨hyl, hys⟩ := chk_zero hy
  have hg := World.block_lt_of_cell? w _ h0
  simp only at hg
  have hf0 : fdF least 100 = 0 := by unfold fdF; rw [if_pos (by omega)]
  have HST := Lib.hid (store1_any A g c c2 xs w h0 h1 ha (by omega) hx)
  have HCF := Lib.hid (fun W => checkFind_any least 100 W)
  rw [hf0] at HCF
  have HHT := Lib.hid (fun (W : World) (hW : Below w.heap.size w W) => hit_any ⟨#[97]⟩ A B c cb xs ys least 100 W (ha.below hW) (hb.below hW) hxs hys (by omega) (by omega) (by omega) (by omega))
  rw [hok] at HHT
  have HCM := Lib.hid (fun (W : World) (G : Nat) (hW : Below w.heap.size w W) (h : W.cell? ⟨G, 0, none⟩ = some (.slice B ys.length cb)) => checkMarks1 B G cb 1 ys W h (hb.below hW) (by omega))
  rw [hy] at HCM
  have HS1 := Lib.hid (fun A n c f W => sort1_any A n c f W)
  have H0 := Lib.hid h0
  have H1 := Lib.hid h1
  generalize (hEnd ⟨#[97]⟩ xs ys least).2 = ht at *
  obtain ⟨hn, ho, hbb, hc⟩ := ht
  simp only [Ht.v] at HHT
  obtain ⟨ii, hii, hzi0, hzi1, hzi2⟩ := info_parts info_hit
  have HII := Lib.hid (And.intro hii (And.intro hzi0 (And.intro hzi1 hzi2)))
  clear hii hzi0 hzi1 hzi2 ha hb hx hy hok hf0 hxs hys h0 h1
  go_enter Tryd.func7, Tryd.ntmps7
  go_wp2_with fail
  refine HST.out.mono ?_
  rintro e w1 ⟨rfl, hb1⟩
  have hB1 : Below w.heap.size w (w1.alloc (.cells #[.slice B ys.length cb] 22)) := hb1.alloc hb1.size _
  have hc1 : (w1.alloc (.cells #[.slice B ys.length cb] 22)).cell? ⟨w1.heap.size, 0, none⟩ = some (.slice B ys.length cb) := new_cell (cs := [_]) rfl rfl
  have HB1 := Lib.hid hB1
  have HC1 := Lib.hid hc1
  clear hb1 hB1 hc1
  go_wp2_with fail
  refine (HCM.out _ _ HB1.out HC1.out).mono ?_
  rintro e w2 ⟨rfl, rfl⟩
  generalize w1.alloc (.cells #[.slice B ys.length cb] 22) = w2 at *
  go_wp2_with fail
  refine (HCF.out _).mono ?_
  rintro e w3 ⟨rfl, rfl⟩
  go_wp2_with fail
  go_loopw [13, 37] (fun v iv wr => ∃ k : Nat, k ≤ 1 ∧ iv = .int .i64 (k : Int) ∧ Below w.heap.size w wr ∧ wr.ownsRow w2.heap.size 34 4 v k (if k = 0 then [] else [.string hn, .int .i64 ho, .int .i64 hbb, .int .i64 hc]) ∧ w2.heap.size ≤ wr.heap.size) (fun _ iv _ => 1 - (intOf iv).toNat)
  case atStart => exact ⟨0, by omega, rfl, HB1.out, ⟨rfl, .inl ⟨rfl, rfl⟩⟩, Nat.le_refl _⟩
  case round =>
    obtain ⟨k, hk, rfl, hB, hown, hsz⟩ := hrel
    have HB := Lib.hid hB
    have HOWN := Lib.hid hown
    have hsz0 := hB.size
    clear hB hown
    rcases (by omega : k = 0 ∨ k = 1) with rfl | rfl
    · have c0 : wr.cell? ⟨g, 0, none⟩ = some (.string ⟨#[97]⟩) := by rw [HB.out.cell (by exact hg)]; exact H0.out
      have c1 : wr.cell? ⟨g, 1, none⟩ = some (.slice A xs.length c) := by rw [HB.out.cell (by exact hg)]; exact H1.out
      have HB2 : Hid (Below w.heap.size w (wr.alloc (.cells #[.string ⟨#[97]⟩, .slice A xs.length c] 31))) := HB.out.alloc HB.out.size _
      go_wp2_with fail
      refine (HHT.out _ HB2.out).mono ?_
      rintro e w4 ⟨rfl, hb4⟩
      have hB4 : Below w.heap.size w w4 := HB2.out.trans (hb4.mono (by simp; omega))
      have hown4 := own_belowL HOWN.out (((Below.refl _ _).alloc (Nat.le_refl _) (.cells #[.string ⟨#[97]⟩, .slice A xs.length c] 31)).trans (hb4.mono (by simp)))
      have hsz4 : w2.heap.size ≤ w4.heap.size := by have := hb4.size; simp at this; omega
      have hsz5 : w.heap.size ≤ w4.heap.size := hB4.size
      obtain ⟨hii, hzi0, hzi1, hzi2⟩ := HII.out
      clear hb4 c0 c1
      go_wp2_with (at_builtin; refine wpList_append_own _ rfl _ _ 27 rfl w2.heap.size 34 ii _ 4 40 Tryd.underlying27 hii hzi0 hzi1 hzi2 rfl (by decide) _ _ _ rfl ((hown4.alloc _).alloc _) ⟨w4.heap.size + 1, 0, none⟩ 1 1 [.string hn, .int .i64 ho, .int .i64 hbb, .int .i64 hc] (by rfl) (by rfl) (World.news_of_block (cs := #[.string hn, .int .i64 ho, .int .i64 hbb, .int .i64 hc]) (t := 34) (fr := (0, 0)) (by simpa using heap_alloc_new (w4.alloc _) _)) (by simp [Value.oneCell']) (by unfold maxLen; omega) (by omega) (by simp; omega) ?_; intro v1 w5 hown5 hgrow5 _)
      have hB5 := Below.grown ((hB4.alloc hsz5 _).alloc (by simp; omega) _) hgrow5 (by simp; omega) (fun k hk => Nat.le_trans HB1.out.size (hown4.lt k hk).1)
      have hs5 := hgrow5.size
      simp at hs5
      go_roundw
      case rel => exact ⟨1, by omega, by go_num, hB5, by simpa using hown5, by omega⟩
      case measure => simp [intOf]
    · obtain ⟨A2, cap, rfl⟩ := slice_of_own HOWN.out
      have HRD := Lib.hid (Rd.of_own HOWN.out)
      go_wp2_with fail
      refine (HS1.out _ _ _ _ _ (by omega)).mono ?_
      rintro e w5 ⟨rfl, rfl⟩
      go_wp2_with fail
      go_ret2
      exact ⟨A2, cap, rfl, HRD.out, HB.out⟩
end Go.Proofs.YtdfoehifklngoaaDoor
