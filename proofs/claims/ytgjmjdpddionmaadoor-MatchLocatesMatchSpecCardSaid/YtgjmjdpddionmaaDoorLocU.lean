/- The contract of match.Locate. -/
import Derived.Test.YtgjmjdpddionmaaDoorLocT
import Derived.Test.YtgjmjdpddionmaaDoorHit
namespace Go.Proofs.YtgjmjdpddionmaaDoor
open Go.RowKit Go.Dw Go.Sort
attribute [local go_sem ↓] Go.wp_at_zero Go.wp_at_succ

theorem info_hit : (Tryd.prog.info? 31).map (fun i => (i.zero, i.size, i.bytes)) = some (some (.agg #[.string ⟨#[]⟩, .int .i64 0, .int .i64 0, .int .i64 0]), 4, 40) := by kernel_rfl
/-- hits and a fault -/
def HtsPost (w : World) (r : List Ht × Int) (e : Ending) (w' : World) : Prop :=
  ∃ A c, e = .returned (.tuple #[.slice A r.1.length c, .int .i64 r.2]) ∧ Rd w' A (r.1.flatMap Ht.cs) ∧ Below w.heap.size w w'
theorem htsPost_none {w w' : World} {f : Int} {r : List Ht × Int} (hr : r = ([], f)) (hb : Below w.heap.size w w') : HtsPost w r (.returned (.tuple #[.slice none 0 0, .int .i64 f])) w' := by
  subst hr; exact ⟨none, 0, rfl, .inl rfl, hb⟩
theorem htsPost_some {w w' : World} {l : List Ht} {n : Nat} {A : Option Addr} {c : Nat} {r : List Ht × Int} (hr : r = (l, 0)) (hn : n = l.length) (hrd : Rd w' A (l.flatMap Ht.cs)) (hb : Below w.heap.size w w') : HtsPost w r (.returned (.tuple #[.slice A n c, .int .i64 0])) w' := by
  subst hr hn; exact ⟨A, c, rfl, hrd, hb⟩
theorem fdF_zero {least percent : Int} (h : fdF least percent = 0) : 1 ≤ least ∧ least ≤ 500 ∧ 0 ≤ percent ∧ percent ≤ 100 := by
  unfold fdF at h; split at h
  · assumption
  · omega
theorem mkp_at (L : List Mk) (k : Nat) (h : k < L.length) : (L.map Mk.p).getD k dP = (L[k].n, L[k].s.xs) := by
  rw [List.getD_eq_getElem?_getD, List.getElem?_map, List.getElem?_eq_getElem h]; rfl
/-- the sort answers as the hits put in one after the other -/
theorem locSort {L : List (ByteArray × List Int)} {want : List Int} {least percent : Int} (h1 : 1 ≤ least) (h : want.length ≤ 500) (hs : stoF L = 0) {V d : List Hs} (hV : V.map Subtype.val = hitsN L want least percent L.length)
    (hp : d.Perm V) (hd : d.Pairwise (fun x y => ltOf cfH y x = false)) : d.map Subtype.val = insAll geH [] (hitsN L want least percent L.length) := by
  have hpw := hitsN_pw (percent := percent) h1 h (stoF_zero hs).2.2 L.length (Nat.le_refl _)
  rw [← hV, List.pairwise_map] at hpw
  rw [sorted_isH hpw hp (hd.imp fun {x y} h => (ltOf_cfH' y x).1 h), insAll_map, hV]
  rfl
set_option maxHeartbeats 4000000 in
theorem locate_any (x : Slc Mk) (B : Option Addr) (cb : Nat) (want : List Int) (least percent : Int) (w : World) (h : Sto w x) (hb : Rd w B (ic want)) (hn : want.length ≤ 9223372036854775807) :
    Calls Tryd.prog 4 #[x.v, .slice B want.length cb, .int .i64 least, .int .i64 percent] w (HtsPost w (locF (x.xs.map Mk.p) want least percent)) := by
  have HST := Lib.hid (store_any x w h)
  by_cases hz1 : stoF (x.xs.map Mk.p) = 0
  case neg =>
    have HR : Hid (locF (x.xs.map Mk.p) want least percent = ([], stoF (x.xs.map Mk.p))) := by show _ = _; unfold locF; rw [if_pos hz1]
    have hzb : (stoF (x.xs.map Mk.p) != 0) = true := by simpa using hz1
    clear hz1
    simp only [Slc.v] at *
    go_enter Tryd.func4, Tryd.ntmps4
    go_wp2_with fail
    refine HST.out.mono ?_
    rintro e w1 ⟨rfl, hb1⟩
    have HB1 := Lib.hid hb1
    clear hb1
    go_wp2_with fail
    go_ret2
    exact htsPost_none HR.out HB1.out
  have HZ1 := Lib.hid hz1
  rw [hz1] at HST
  have HRB := Lib.hid hb
  have HCM := Lib.hid (fun (W : World) (G : Nat) (hW : Below w.heap.size w W) (h : W.cell? ⟨G, 0, none⟩ = some (.slice B want.length cb)) => checkMarks1 B G cb 1 want W h (hb.below hW) hn)
  by_cases hz2 : chk want = 0
  case neg =>
    have HR : Hid (locF (x.xs.map Mk.p) want least percent = ([], chk want)) := by show _ = _; unfold locF; rw [if_neg (fun hh => hh hz1), if_pos hz2]
    have hzb : (chk want != 0) = true := by simpa using hz2
    clear hz1 hz2 hb
    simp only [Slc.v] at *
    go_enter Tryd.func4, Tryd.ntmps4
    go_wp2_with fail
    refine HST.out.mono ?_
    rintro e w1 ⟨rfl, hb1⟩
    have HB1 : Hid (Below w.heap.size w (w1.alloc (.cells #[.slice B want.length cb] 23))) := hb1.alloc hb1.size _
    clear hb1
    go_wp2_with fail
    refine (HCM.out _ _ HB1.out (new_cell (cs := [_]) rfl rfl)).mono ?_
    rintro e w2 ⟨rfl, rfl⟩
    go_wp2_with fail
    go_ret2
    exact htsPost_none HR.out HB1.out
  have HZ2 := Lib.hid hz2
  rw [hz2] at HCM
  have HCF := Lib.hid (fun W => checkFind_any least percent W)
  by_cases hz3 : fdF least percent = 0
  case neg =>
    have HR : Hid (locF (x.xs.map Mk.p) want least percent = ([], fdF least percent)) := by show _ = _; unfold locF; rw [if_neg (fun hh => hh hz1), if_neg (fun hh => hh hz2), if_pos hz3]
    have hzb : (fdF least percent != 0) = true := by simpa using hz3
    clear hz1 hz2 hz3 hb
    simp only [Slc.v] at *
    go_enter Tryd.func4, Tryd.ntmps4
    go_wp2_with fail
    refine HST.out.mono ?_
    rintro e w1 ⟨rfl, hb1⟩
    have HB1 : Hid (Below w.heap.size w (w1.alloc (.cells #[.slice B want.length cb] 23))) := hb1.alloc hb1.size _
    clear hb1
    go_wp2_with fail
    refine (HCM.out _ _ HB1.out (new_cell (cs := [_]) rfl rfl)).mono ?_
    rintro e w2 ⟨rfl, rfl⟩
    go_wp2_with fail
    refine (HCF.out _).mono ?_
    rintro e w3 ⟨rfl, rfl⟩
    go_wp2_with fail
    go_ret2
    exact htsPost_none HR.out HB1.out
  rw [hz3] at HCF
  obtain ⟨g1, g2, g3, g4⟩ := fdF_zero hz3
  obtain ⟨hwl0, hws⟩ := chk_zero hz2
  have hwl : want.length ≤ 500 := by omega
  obtain ⟨hLl, hLc, hLs⟩ := stoF_zero hz1
  rw [List.length_map] at hLl
  have HR : Hid (locF (x.xs.map Mk.p) want least percent = (insAll geH [] (hitsN (x.xs.map Mk.p) want least percent (x.xs.map Mk.p).length), 0)) := by show _ = _; unfold locF; rw [if_neg (fun hh => hh hz1), if_neg (fun hh => hh hz2), if_neg (fun hh => hh hz3)]
  rw [List.length_map] at HR
  have HGD := Lib.hid (hitsN_good (L := x.xs.map Mk.p) (percent := percent) g1 hwl)
  have HSRT := Lib.hid (fun (V d : List Hs) => @locSort (x.xs.map Mk.p) want least percent g1 hwl hz1 V d)
  rw [List.length_map] at HSRT
  have HX := Lib.hid h
  have HHIT : Hid (∀ (k : Nat) (hk : k < x.xs.length) (W : World), Below w.heap.size w W → Calls Tryd.prog 15 #[.agg #[.string x.xs[k].n, .slice x.xs[k].s.a x.xs[k].s.xs.length x.xs[k].s.c], .slice B want.length cb, .int .i64 least, .int .i64 percent] W fun e w' => e = .returned (.tuple #[(hEnd x.xs[k].n x.xs[k].s.xs want least).2.v, .bool (hOk x.xs[k].n x.xs[k].s.xs want least percent)]) ∧ Below W.heap.size W w') := fun k hk W hW => by
    have hck := hLc k (by simpa using hk)
    rw [mkp_at _ _ hk] at hck
    obtain ⟨q1, q2⟩ := chk_zero hck
    exact hit_any x.xs[k].n x.xs[k].s.a B x.xs[k].s.c cb x.xs[k].s.xs want least percent W (((h.2.2 _ (List.getElem_mem hk)).2.2).below hW) (hb.below hW) q2 hws (by show x.xs[k].s.xs.length ≤ 500; simp only at q1; omega) hwl g3 g4
  have HHN : Hid (∀ k (hk : k < x.xs.length), hitsN (x.xs.map Mk.p) want least percent (k + 1) = if hOk x.xs[k].n x.xs[k].s.xs want least percent = true then hitsN (x.xs.map Mk.p) want least percent k ++ [(hEnd x.xs[k].n x.xs[k].s.xs want least).2] else hitsN (x.xs.map Mk.p) want least percent k) := fun k hk => by
    rw [hitsN, mkp_at _ _ hk]
  have HLN := Lib.hid (fun k => hitsN_len (L := x.xs.map Mk.p) (want := want) (least := least) (percent := percent) k)
  obtain ⟨F, hF⟩ : ∃ F, hitsN (x.xs.map Mk.p) want least percent = F := ⟨_, rfl⟩
  have HF0 : Hid (F 0 = []) := by show _ = _; rw [← hF]; rfl
  rw [hF] at HR HGD HSRT
  simp only [hF] at HHN HLN
  obtain ⟨ii, hii, hzi0, hzi1, hzi2⟩ := info_parts info_hit
  have HII := Lib.hid (And.intro hii (And.intro hzi0 (And.intro hzi1 hzi2)))
  clear hii hzi0 hzi1 hzi2 hb hz1 hz2 hz3 hLc hLs hF h
  obtain ⟨A, c, L⟩ := x
  simp only [Slc.v] at *
  go_enter Tryd.func4, Tryd.ntmps4
  go_wp2_with fail
  refine HST.out.mono ?_
  rintro e w1 ⟨rfl, hb1⟩
  have hB1 : Below w.heap.size w (w1.alloc (.cells #[.slice B want.length cb] 23)) := hb1.alloc hb1.size _
  have hc1 : (w1.alloc (.cells #[.slice B want.length cb] 23)).cell? ⟨w1.heap.size, 0, none⟩ = some (.slice B want.length cb) := new_cell (cs := [_]) rfl rfl
  have HB1 := Lib.hid hB1
  have HC1 := Lib.hid hc1
  clear hb1 hB1 hc1
  go_wp2_with fail
  refine (HCM.out _ _ HB1.out HC1.out).mono ?_
  rintro e w2 ⟨rfl, rfl⟩
  generalize w1.alloc (.cells #[.slice B want.length cb] 23) = w2 at *
  go_wp2_with fail
  refine (HCF.out _).mono ?_
  rintro e w3 ⟨rfl, rfl⟩
  go_wp2_with fail
  go_loopw [13, 37] (fun v iv wr => ∃ k m : Nat, k ≤ L.length ∧ iv = .int .i64 (k : Int) ∧ m ≤ 50 ∧ Hid (m = (F k).length) ∧ Hid (Below w2.heap.size w2 wr) ∧ Hid (wr.ownsRow w2.heap.size 31 4 v m ((F k).flatMap Ht.cs))) (fun _ iv _ => L.length - (intOf iv).toNat)
  case atStart => exact ⟨0, 0, by omega, rfl, by omega, by rw [HF0.out]; rfl, Below.refl _ _, by rw [HF0.out]; exact ⟨rfl, .inl ⟨rfl, rfl⟩⟩⟩
  case round =>
    obtain ⟨k, m, hk, rfl, hm50, HM, HB, HOWN⟩ := hrel
    obtain ⟨A3, c3, rfl⟩ := slice_of_own HOWN.out
    have HBW := Lib.hid (HB1.out.trans (HB.out.mono HB1.out.size))
    by_cases hlt : k < L.length
    case neg =>
      have hke : k = L.length := by omega
      have hd1 : decide (k < L.length) = false := by simpa using hlt
      obtain ⟨V, hV⟩ := lift_hits (fun y hy => (HGD.out L.length y hy).1)
      have hVl : V.length = m := by rw [HM.out, hke, ← hV]; simp
      have HSS := Lib.hid (sortH_any w2.heap.size w2.heap.size A3 m c3 V wr (Nat.le_refl _) (by rw [flat_val, hV, ← hke]; exact HOWN.out) hVl (by omega))
      have HVV := Lib.hid hV
      have HVL := Lib.hid hVl
      clear hke hV hVl
      go_wp2_with fail
      refine HSS.out.mono ?_
      rintro e w5 ⟨rfl, d, hp, hd, hrd, hb5⟩
      have HRES := Lib.hid (HSRT.out _ _ HVV.out hp hd)
      have HRD : Hid (Rd w5 A3 ((insAll geH [] (F L.length)).flatMap Ht.cs)) := by show Rd _ _ _; rw [← HRES.out, ← flat_val]; exact hrd
      have HLEN : Hid (m = (insAll geH [] (F L.length)).length) := by show _ = _; rw [← HRES.out, List.length_map, hp.length_eq, HVL.out]
      have HB5 := Lib.hid (HB1.out.trans ((HB.out.trans hb5).mono HB1.out.size))
      clear hp hd hrd hb5
      go_wp2_with fail
      go_ret2
      exact htsPost_some HR.out HLEN.out HRD.out HB5.out
    have hd1 : decide (k < L.length) = true := by simpa using hlt
    obtain ⟨b, off, hA, hbb, hcs⟩ := HX.out.at_ (by show 0 < L.length; omega)
    obtain rfl : A = some ⟨b, off, none⟩ := hA
    have c0 : wr.cell? ⟨b, off + k * 2, none⟩ = some (.string L[k].n) := by rw [HBW.out.cell (by exact hbb)]; exact (hcs k hlt).1
    have c1 : wr.cell? ⟨b, off + k * 2 + 1, none⟩ = some (.slice L[k].s.a L[k].s.xs.length L[k].s.c) := by rw [HBW.out.cell (by exact hbb)]; exact (hcs k hlt).2
    have HHT := Lib.hid (HHIT.out k hlt)
    have HNX := Lib.hid (HHN.out k hlt)
    have hml := HLN.out k
    clear hcs
    generalize L[k].n = nm at *
    generalize L[k].s.a = a2 at *
    generalize L[k].s.c = cc2 at *
    generalize L[k].s.xs = xs at *
    obtain ⟨ht, hht⟩ : ∃ ht, (hEnd nm xs want least).2 = ht := ⟨_, rfl⟩
    obtain ⟨ok, hok⟩ : ∃ ok, hOk nm xs want least percent = ok := ⟨_, rfl⟩
    rw [hht, hok] at HNX
    simp only [hht, hok] at HHT
    clear hht hok
    obtain ⟨tn, to, tb, tc⟩ := ht
    simp only [Ht.v] at HHT
    have HB2 : Hid (Below w.heap.size w (wr.alloc (.cells #[.string nm, .slice a2 xs.length cc2] 41))) := HBW.out.alloc HBW.out.size _
    have hszr : w2.heap.size ≤ wr.heap.size := HB.out.size
    go_wp2_with fail
    refine (HHT.out _ HB2.out).mono ?_
    rintro e w4 ⟨rfl, hb4⟩
    have hpw : Below wr.heap.size wr w4 := ((Below.refl _ _).alloc (Nat.le_refl _) (.cells #[.string nm, .slice a2 xs.length cc2] 41)).trans (hb4.mono (by simp))
    have HB4 : Hid (Below w2.heap.size w2 w4) := HB.out.trans (hpw.mono hszr)
    have HO4 := Lib.hid (own_belowL HOWN.out hpw)
    have hsz4 : w2.heap.size ≤ w4.heap.size := HB4.out.size
    clear hb4 hpw c0 c1
    cases ok
    · rw [if_neg (by decide)] at HNX
      go_wp2_with fail
      go_roundw
      case rel => exact ⟨k + 1, m, by omega, by go_num, hm50, by rw [HNX.out]; exact HM.out, HB4.out.alloc hsz4 _, by rw [HNX.out]; exact HO4.out.alloc _⟩
      case measure => simp [intOf]; omega
    · rw [if_pos rfl] at HNX
      have hm1 : m + 1 ≤ 50 := by
        have h1 := HLN.out (k + 1)
        rw [HNX.out, List.length_append, ← HM.out] at h1
        simp at h1; omega
      go_wp2_with (at_builtin; refine wpList_append_own _ rfl _ _ 24 rfl w2.heap.size 31 ii _ 4 40 Tryd.underlying24 HII.out.1 HII.out.2.1 HII.out.2.2.1 HII.out.2.2.2 rfl (by decide) _ _ _ rfl ((HO4.out.alloc _).alloc _) ⟨w4.heap.size + 1, 0, none⟩ 1 1 [.string tn, .int .i64 to, .int .i64 tb, .int .i64 tc] (by rfl) (by rfl) (World.news_of_block (cs := #[.string tn, .int .i64 to, .int .i64 tb, .int .i64 tc]) (t := 31) (fr := (0, 0)) (by simpa using heap_alloc_new (w4.alloc _) _)) (by simp [Value.oneCell']) (by unfold maxLen; omega) (by omega) (by simp; omega) ?_; intro v1 w5 hown5 hgrow5 _)
      have hB5 : Hid (Below w2.heap.size w2 w5) := ((HB4.out.alloc hsz4 _).alloc (by simp; omega) _).grown hgrow5 (by simp; omega) (fun g hg => (HO4.out.lt g hg).1)
      have hO5 : Hid (w5.ownsRow w2.heap.size 31 4 v1 (m + 1) ((F (k + 1)).flatMap Ht.cs)) := by
        show World.ownsRow _ _ _ _ _ _ _
        rw [HNX.out, flat_snoc]
        exact hown5
      clear hown5 hgrow5
      go_wp2_with fail
      go_roundw
      case rel => exact ⟨k + 1, m + 1, by omega, by go_num, hm1, by rw [HNX.out, List.length_append, ← HM.out]; rfl, hB5, hO5⟩
      case measure => simp [intOf]; omega
end Go.Proofs.YtgjmjdpddionmaaDoor
