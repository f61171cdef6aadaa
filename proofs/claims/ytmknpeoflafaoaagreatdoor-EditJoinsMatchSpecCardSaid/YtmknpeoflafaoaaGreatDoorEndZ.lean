/- Several texts laid into one: The contract of deadwaxlaw3's awake; The tables out of a row's list; Generated (gen/joins.py): the walk of EditJoinsMatchSpec; -/
import Derived.Test.YtmknpeoflafaoaaGreatDoorTxtA
import Derived.Test.YtmknpeoflafaoaaGreatDoorBase
import Derived.Lib.LaidTab
import Derived.Test.YtmknpeoflafaoaaGreatDoorJnZ
import Derived.Test.YtmknpeoflafaoaaGreatDoorSamZ
import Derived.Test.YtmknpeoflafaoaaGreatDoorEdtZ
/- The contract of deadwaxlaw3's awake. -/
namespace Go.Proofs.YtmknpeoflafaoaaGreatDoor
open Go.RowKit Go.Dw

theorem dig1 (n : Nat) (h : n < 10) : Lib.itoa (n : Int) = [UInt8.ofNat (48 + n)] := by
  unfold Lib.itoa
  rw [if_neg (by omega), Int.toNat_natCast, Lib.decDigits, dif_pos h]
theorem txt23 : txtF isNm 1000000 ⟨2, 3, []⟩ = ([101, 100, 105, 116, 32, 50, 32, 51, 10], 0) := by
  have h0 : ediF isNm 1000000 ⟨2, 3, []⟩ = 0 := by
    unfold ediF
    rw [if_neg (by simp), if_neg (by simp)]
    rfl
  have h1 : ediT ⟨2, 3, []⟩ = [101, 100, 105, 116, 32, 50, 32, 51, 10] := by
    have a := dig1 2 (by omega)
    have b := dig1 3 (by omega)
    have a2 : Lib.itoa 2 = [50] := a
    have b2 : Lib.itoa 3 = [51] := b
    simp [ediT, a2, b2]
  rw [txtF_ok h0 (by rw [h1]; simp), h1]
theorem ok23 (w : World) : EdtOk w ⟨2, 3, ⟨none, 0, []⟩⟩ := ⟨⟨by decide, by decide⟩, ⟨by decide, by decide⟩, by simp, .inl rfl, fun c hc => by simp at hc⟩
set_option maxHeartbeats 1000000 in
theorem awake3 (w : World) (hp : HasPow w) : Calls Tryz.prog 9 #[] w fun e w' => e = .returned (.bool true) ∧ Below w.heap.size w w' := by
  have HT : Hid (Calls Tryz.prog 22 #[.agg #[.int .i64 2, .int .i64 3, .slice none 0 0]] w fun e w' => e = .returned (.tuple #[.string ⟨#[101, 100, 105, 116, 32, 50, 32, 51, 10]⟩, .int .i64 0]) ∧ Below w.heap.size w w') := by
    have := text_e ⟨2, 3, ⟨none, 0, []⟩⟩ w (ok23 w) hp
    have e1 : EdtM.x ⟨2, 3, ⟨none, 0, []⟩⟩ = ⟨2, 3, []⟩ := rfl
    rw [e1] at this
    unfold TxtR at this
    rw [txt23] at this
    exact this
  have e2 : ((⟨#[101, 100, 105, 116, 32, 50, 32, 51, 10]⟩ : ByteArray).toList == [101, 100, 105, 116, 32, 50, 32, 51, 10]) = true := by
    rw [ByteArray.toList_eq]; rfl
  generalize (⟨#[101, 100, 105, 116, 32, 50, 32, 51, 10]⟩ : ByteArray) = s at HT e2
  go_enter Tryz.func9, Tryz.ntmps9
  go_wp2_with fail
  refine HT.out.mono ?_
  rintro e w1 ⟨rfl, hb1⟩
  have HB1 := Lib.hid hb1
  clear hb1
  go_wp2_with fail
  go_ret
  exact ⟨rfl, HB1.out⟩
end Go.Proofs.YtmknpeoflafaoaaGreatDoor
/- The tables out of a row's list. -/
namespace Go.Proofs.YtmknpeoflafaoaaGreatDoor
open Go.RowKit Go.Dw

theorem laid_tail {P : Program} {w : World} {n : String} {d : DataW Unit} {r : List (String × DataW Unit)} {ps : List MemPlace} (h : DataW.LaidVars P w ((n, d) :: r) ps) : ∃ qs, DataW.LaidVars P w r qs := by
  obtain ⟨_, _, _, _, _, q, _, _, _, _, h, _⟩ := h
  exact ⟨q, h⟩
theorem tab_head {P : Program} {W : World} {name : String} {k : IntKind} {zs : List Int} {rest : List (String × DataW Unit)} {g : Nat} {t e : TypeId} {n : Nat} {ps : List MemPlace}
    (hg : P.globalNamed name = some g) (hty : (P.globals[g]?).map (·.type) = some t) (ht : P.underlying t = some (.array n e)) (he : P.underlying e = some (.int k)) (hce : P.cellsOf e = 1) (hct : P.cellsOf t = n)
    (h : DataW.LaidVars P W ((name, Lib.tabData k zs) :: rest) ps) : Lib.TabIs P W name k zs := by
  obtain ⟨g', t', cs, fuel, p, q, hg', ht', hvar, hd, _, _⟩ := h
  obtain rfl := Option.some.inj (hg.symm.trans hg')
  obtain rfl := Option.some.inj (hty.symm.trans ht')
  unfold Lib.TabIs
  rw [hvar, ← Lib.cells_of_tab ht he hce hct hd]
end Go.Proofs.YtmknpeoflafaoaaGreatDoor
/- Generated (gen/joins.py): the walk of EditJoinsMatchSpec. -/
namespace Go.Proofs.YtmknpeoflafaoaaGreatDoor
open Go.RowKit Go.Dw

theorem mkE_len {nm : ByteArray → Bool} {mx : Int} {e : Edt} : (mkE nm mx e).1.cs.length ≤ 300 := by
  unfold mkE
  split
  · simp [e0]
  · rename_i h; exact (ediF_ok (by simpa using h)).l
theorem joinE_len {nm : ByteArray → Bool} {mx n : Int} {a b : Edt} : (joinE nm mx a b n).1.cs.length ≤ 300 := by
  unfold joinE
  split
  · simp [e0]
  · split
    · simp [e0]
    · exact mkE_len
theorem mixE_len {nm : ByteArray → Bool} {mx : Int} {a b : Edt} : (mixE nm mx a b).1.cs.length ≤ 300 := by
  unfold mixE
  split
  · simp [e0]
  · exact mkE_len
/-- two results of one edit are equal by the law's equal -/
theorem equal_ediR (r : Edt) (hs : Srt r.cs) (hl : r.cs.length ≤ 300) (x y : EdtM) (hx : x.x = r) (hy : y.x = r) (W : World) (kx : EdtOk W x) (ky : EdtOk W y) :
    Calls Tryz.prog 8 #[x.v, y.v] W fun e w' => e = .returned (.bool true) ∧ Gq W w' := by
  have h1 : y.x.cs.length ≤ 300 := by rw [hy]; exact hl
  have h2 : y.cs.xs.length ≤ 300 := by simpa [EdtM.x] using h1
  exact equal_any x y (by rw [hx, hy]) (by rw [hx]; exact hs) W kx ky (by omega)
set_option maxRecDepth 100000 in
set_option maxHeartbeats 16000000 in
theorem joins_law (a b : EdtM) (n : Int) (w : World) (ha : EdtOk w a) (hb : EdtOk w b) (_hn : inI64 n) (hp : HasPow w) :
    Calls Tryz.prog 3 #[a.v, b.v, .int .i64 n] w fun e w' => e = .returned (.bool true) ∧ Below w.heap.size w w' := by
  obtain ⟨RJ, hRJ⟩ : ∃ r, joinE isNm 1000000 a.x b.x n = r := ⟨_, rfl⟩
  obtain ⟨RM, hRM⟩ : ∃ r, mixE isNm 1000000 a.x b.x = r := ⟨_, rfl⟩
  have HSJ : Hid (Srt RJ.1.cs ∧ RJ.1.cs.length ≤ 300) := by rw [← hRJ]; exact ⟨joinE_srt, joinE_len⟩
  have HSM : Hid (Srt RM.1.cs ∧ RM.1.cs.length ≤ 300) := by rw [← hRM]; exact ⟨mixE_srt, mixE_len⟩
  have H1 : Hid (∀ W, Gq w W → Calls Tryz.prog 4 #[a.v, b.v, .int .i64 n] W (EdiR RJ W)) := fun W hW => by rw [← hRJ]; exact join_any a b n W (ha.below hW) (hb.below hW)
  have H2 : Hid (∀ W, Gq w W → Calls Tryz.prog 5 #[a.v, b.v, .int .i64 n] W (EdiR RJ W)) := fun W hW => by rw [← hRJ]; exact joinR_any a b n W (ha.below hW) (hb.below hW) (hp.below hW)
  have H3 : Hid (∀ W, Gq w W → Calls Tryz.prog 6 #[a.v, b.v] W (EdiR RM W)) := fun W hW => by rw [← hRM]; exact mix_any a b W (ha.below hW) (hb.below hW)
  have H4 : Hid (∀ W, Gq w W → Calls Tryz.prog 7 #[a.v, b.v] W (EdiR RM W)) := fun W hW => by rw [← hRM]; exact mixR_any a b W (ha.below hW) (hb.below hW) (hp.below hW)
  have HAW : Hid (∀ W, Gq w W → Calls Tryz.prog 9 #[] W fun e w' => e = .returned (.bool true) ∧ Gq W w') := fun W hW => awake3 W (hp.below hW)
  clear hRJ hRM ha hb hp
  obtain ⟨Jx, Jf⟩ := RJ
  obtain ⟨Mx, Mf⟩ := RM
  obtain ⟨ar, at_, ⟨aA, ad, as_⟩⟩ := a
  obtain ⟨br, bt, ⟨bA, bd, bs⟩⟩ := b
  simp only [EdtM.v, Slc.v] at H1 H2 H3 H4 ⊢
  obtain ⟨an, han⟩ : ∃ an : Nat, as_.length = an := ⟨_, rfl⟩
  obtain ⟨bn, hbn⟩ : ∃ bn : Nat, bs.length = bn := ⟨_, rfl⟩
  rw [han, hbn] at H1 H2 H3 H4 ⊢
  clear han hbn
  obtain ⟨wa, hwa⟩ : ∃ wa, wa = w.alloc (.cells #[.int .i64 ar, .int .i64 at_, .slice aA an ad] 24) := ⟨_, rfl⟩
  obtain ⟨w1, hw1⟩ : ∃ w1, w1 = wa.alloc (.cells #[.int .i64 br, .int .i64 bt, .slice bA bn bd] 24) := ⟨_, rfl⟩
  have hza : wa.heap.size = w.heap.size + 1 := by rw [hwa]; simp
  have hga : Gq w wa := by rw [hwa]; exact (Gq.refl _).alloc _
  have hgb : Gq wa w1 := by rw [hw1]; exact (Gq.refl _).alloc _
  have HG1 : Hid (Gq w w1) := hga.trans hgb
  have HKA : Hid (Blk w1 w.heap.size 24 [.int .i64 ar, .int .i64 at_, .slice aA an ad]) := by
    refine blkq (?_ : Blk wa w.heap.size _ _) hgb; rw [hwa]; exact Blk.new w _ _
  have HKB : Hid (Blk w1 (w.heap.size + 1) 24 [.int .i64 br, .int .i64 bt, .slice bA bn bd]) := by
    rw [hw1, ← hza]; exact Blk.new wa _ _
  have HCE : Hid (∀ W, Gq w1 W → W.cell? ⟨w.heap.size, 0, none⟩ = some (.int .i64 ar) ∧ W.cell? ⟨w.heap.size, 1, none⟩ = some (.int .i64 at_) ∧ W.cell? ⟨w.heap.size, 2, none⟩ = some (.slice aA an ad) ∧ W.cell? ⟨w.heap.size + 1, 0, none⟩ = some (.int .i64 br) ∧ W.cell? ⟨w.heap.size + 1, 1, none⟩ = some (.int .i64 bt) ∧ W.cell? ⟨w.heap.size + 1, 2, none⟩ = some (.slice bA bn bd)) := fun W hW => by
    have k1 := blkq HKA.out hW
    have k2 := blkq HKB.out hW
    exact ⟨k1.cell 0, k1.cell 1, k1.cell 2, k2.cell 0, k2.cell 1, k2.cell 2⟩
  have HCO : Hid (∀ W W' g (r t : Int) A m c, Blk W g 24 [.int .i64 r, .int .i64 t, .slice A m c] → Gq W W' → W'.cell? ⟨g, 0, none⟩ = some (.int .i64 r) ∧ W'.cell? ⟨g, 1, none⟩ = some (.int .i64 t) ∧ W'.cell? ⟨g, 2, none⟩ = some (.slice A m c)) := fun W W' g r t A m c h hg => by
    have k := blkq h hg
    exact ⟨k.cell 0, k.cell 1, k.cell 2⟩
  rw [hwa] at hw1
  have HW1 := Lib.hid hw1
  obtain ⟨c0, c1, c2, c3, c4, c5⟩ := HCE.out w1 (Gq.refl _)
  have HC1 := Lib.hid (H1.out w1 HG1.out)
  clear hwa hw1 hza hga hgb H1
  go_enter Tryz.func3, Tryz.ntmps3
  go_upto_region 1 with (fail)
  rw [← HW1.out]
  go_wp2_with fail
  refine HC1.out.mono ?_
  rintro e u1 ⟨hb, x, rfl, hx1, hxo⟩
  have HXx : Hid (x.x = Jx) := hx1
  have HOx := Lib.hid hxo
  obtain ⟨x', hx'⟩ : ∃ z, x = z := ⟨_, rfl⟩
  have HVx : Hid (x'.v = x.v) := by show _ = _; rw [hx']
  have HXx' : Hid (x'.x = Jx) := by rw [← hx']; exact HXx.out
  have HOx' : Hid (EdtOk u1 x') := by rw [← hx']; exact HOx.out
  clear hx' hx1 hxo HXx HOx
  obtain ⟨xr, xt, ⟨xA, xd, xs⟩⟩ := x
  replace HVx : Hid (x'.v = .agg #[.int .i64 xr, .int .i64 xt, .slice xA xs.length xd]) := HVx
  simp only [EdtM.v, Slc.v]
  obtain ⟨xn, hxn⟩ : ∃ n : Nat, xs.length = n := ⟨_, rfl⟩
  rw [hxn] at HVx ⊢
  clear hxn
  obtain ⟨w3, hw⟩ : ∃ W, W = u1.alloc (.cells #[.int .i64 xr, .int .i64 xt, .slice xA xn xd] 24) := ⟨_, rfl⟩
  have HBx : Hid (Gq w1 u1) := hb
  have HNx : Hid (Gq u1 w3) := by rw [hw]; exact (Gq.refl _).alloc _
  have HKx : Hid (Blk w3 u1.heap.size 24 [.int .i64 xr, .int .i64 xt, .slice xA xn xd]) := by rw [hw]; exact Blk.new u1 _ _
  have HG2 : Hid (Gq w1 w3) := (HBx.out.trans HNx.out)
  have HW2 := Lib.hid hw
  clear hb hw c0 c1 c2 c3 c4 c5 HC1
  obtain ⟨c0, c1, c2, c3, c4, c5⟩ := HCE.out w3 HG2.out
  have HC2 := Lib.hid (H2.out w3 (HG1.out.trans HG2.out))
  clear H2
  go_upto_region 2 with (fail)
  rw [← HW2.out]
  go_wp2_with fail
  refine HC2.out.mono ?_
  rintro e u2 ⟨hb, y, rfl, hx1, hxo⟩
  have HXy : Hid (y.x = Jx) := hx1
  have HOy := Lib.hid hxo
  obtain ⟨y', hy'⟩ : ∃ z, y = z := ⟨_, rfl⟩
  have HVy : Hid (y'.v = y.v) := by show _ = _; rw [hy']
  have HXy' : Hid (y'.x = Jx) := by rw [← hy']; exact HXy.out
  have HOy' : Hid (EdtOk u2 y') := by rw [← hy']; exact HOy.out
  clear hy' hx1 hxo HXy HOy
  obtain ⟨yr, yt, ⟨yA, yd, ys⟩⟩ := y
  replace HVy : Hid (y'.v = .agg #[.int .i64 yr, .int .i64 yt, .slice yA ys.length yd]) := HVy
  simp only [EdtM.v, Slc.v]
  obtain ⟨yn, hyn⟩ : ∃ n : Nat, ys.length = n := ⟨_, rfl⟩
  rw [hyn] at HVy ⊢
  clear hyn
  obtain ⟨w5, hw⟩ : ∃ W, W = u2.alloc (.cells #[.int .i64 yr, .int .i64 yt, .slice yA yn yd] 24) := ⟨_, rfl⟩
  have HBy : Hid (Gq w3 u2) := hb
  have HNy : Hid (Gq u2 w5) := by rw [hw]; exact (Gq.refl _).alloc _
  have HKy : Hid (Blk w5 u2.heap.size 24 [.int .i64 yr, .int .i64 yt, .slice yA yn yd]) := by rw [hw]; exact Blk.new u2 _ _
  have HG3 : Hid (Gq w1 w5) := HG2.out.trans (HBy.out.trans HNy.out)
  have HW3 := Lib.hid hw
  clear hb hw c0 c1 c2 c3 c4 c5 HC2
  obtain ⟨c0, c1, c2, c3, c4, c5⟩ := HCE.out w5 HG3.out
  have HC3 := Lib.hid (H3.out w5 (HG1.out.trans HG3.out))
  clear H3
  go_upto_region 3 with (fail)
  rw [← HW3.out]
  go_wp2_with fail
  refine HC3.out.mono ?_
  rintro e u3 ⟨hb, p, rfl, hx1, hxo⟩
  have HXp : Hid (p.x = Mx) := hx1
  have HOp := Lib.hid hxo
  obtain ⟨p', hp'⟩ : ∃ z, p = z := ⟨_, rfl⟩
  have HVp : Hid (p'.v = p.v) := by show _ = _; rw [hp']
  have HXp' : Hid (p'.x = Mx) := by rw [← hp']; exact HXp.out
  have HOp' : Hid (EdtOk u3 p') := by rw [← hp']; exact HOp.out
  clear hp' hx1 hxo HXp HOp
  obtain ⟨pr, pt, ⟨pA, pd, ps⟩⟩ := p
  replace HVp : Hid (p'.v = .agg #[.int .i64 pr, .int .i64 pt, .slice pA ps.length pd]) := HVp
  simp only [EdtM.v, Slc.v]
  obtain ⟨pn, hpn⟩ : ∃ n : Nat, ps.length = n := ⟨_, rfl⟩
  rw [hpn] at HVp ⊢
  clear hpn
  obtain ⟨w7, hw⟩ : ∃ W, W = u3.alloc (.cells #[.int .i64 pr, .int .i64 pt, .slice pA pn pd] 24) := ⟨_, rfl⟩
  have HBp : Hid (Gq w5 u3) := hb
  have HNp : Hid (Gq u3 w7) := by rw [hw]; exact (Gq.refl _).alloc _
  have HKp : Hid (Blk w7 u3.heap.size 24 [.int .i64 pr, .int .i64 pt, .slice pA pn pd]) := by rw [hw]; exact Blk.new u3 _ _
  have HG4 : Hid (Gq w1 w7) := HG3.out.trans (HBp.out.trans HNp.out)
  have HW4 := Lib.hid hw
  clear hb hw c0 c1 c2 c3 c4 c5 HC3
  obtain ⟨c0, c1, c2, c3, c4, c5⟩ := HCE.out w7 HG4.out
  have HC4 := Lib.hid (H4.out w7 (HG1.out.trans HG4.out))
  clear H4
  go_upto_region 4 with (fail)
  rw [← HW4.out]
  go_wp2_with fail
  refine HC4.out.mono ?_
  rintro e u4 ⟨hb, q, rfl, hx1, hxo⟩
  have HXq : Hid (q.x = Mx) := hx1
  have HOq := Lib.hid hxo
  obtain ⟨q', hq'⟩ : ∃ z, q = z := ⟨_, rfl⟩
  have HVq : Hid (q'.v = q.v) := by show _ = _; rw [hq']
  have HXq' : Hid (q'.x = Mx) := by rw [← hq']; exact HXq.out
  have HOq' : Hid (EdtOk u4 q') := by rw [← hq']; exact HOq.out
  clear hq' hx1 hxo HXq HOq
  obtain ⟨qr, qt, ⟨qA, qd, qs⟩⟩ := q
  replace HVq : Hid (q'.v = .agg #[.int .i64 qr, .int .i64 qt, .slice qA qs.length qd]) := HVq
  simp only [EdtM.v, Slc.v]
  obtain ⟨qn, hqn⟩ : ∃ n : Nat, qs.length = n := ⟨_, rfl⟩
  rw [hqn] at HVq ⊢
  clear hqn
  obtain ⟨w9, hw⟩ : ∃ W, W = u4.alloc (.cells #[.int .i64 qr, .int .i64 qt, .slice qA qn qd] 24) := ⟨_, rfl⟩
  have HBq : Hid (Gq w7 u4) := hb
  have HNq : Hid (Gq u4 w9) := by rw [hw]; exact (Gq.refl _).alloc _
  have HKq : Hid (Blk w9 u4.heap.size 24 [.int .i64 qr, .int .i64 qt, .slice qA qn qd]) := by rw [hw]; exact Blk.new u4 _ _
  have HG5 : Hid (Gq w1 w9) := HG4.out.trans (HBq.out.trans HNq.out)
  have HW5 := Lib.hid hw
  clear hb hw c0 c1 c2 c3 c4 c5 HC4
  go_upto_region 5 with (fail)
  rw [← HW5.out]
  have HEJ : Hid (∀ W, Gq w9 W → Calls Tryz.prog 8 #[.agg #[.int .i64 xr, .int .i64 xt, .slice xA xn xd], .agg #[.int .i64 yr, .int .i64 yt, .slice yA yn yd]] W fun e w' => e = .returned (.bool true) ∧ Gq w9 w') := fun W hW => by
    have h := equal_ediR Jx HSJ.out.1 HSJ.out.2 x' y' HXx'.out HXy'.out W (HOx'.out.below ((HNx.out.trans (((HBy.out.trans HNy.out).trans (HBp.out.trans HNp.out)).trans (HBq.out.trans HNq.out))).trans hW)) (HOy'.out.below ((HNy.out.trans ((HBp.out.trans HNp.out).trans (HBq.out.trans HNq.out))).trans hW))
    rw [HVx.out, HVy.out] at h
    exact h.mono fun _ _ h => ⟨h.1, hW.trans h.2⟩
  have HEM : Hid (∀ W, Gq w9 W → Calls Tryz.prog 8 #[.agg #[.int .i64 pr, .int .i64 pt, .slice pA pn pd], .agg #[.int .i64 qr, .int .i64 qt, .slice qA qn qd]] W fun e w' => e = .returned (.bool true) ∧ Gq w9 w') := fun W hW => by
    have h := equal_ediR Mx HSM.out.1 HSM.out.2 p' q' HXp'.out HXq'.out W (HOp'.out.below ((HNp.out.trans (HBq.out.trans HNq.out)).trans hW)) (HOq'.out.below ((HNq.out).trans hW))
    rw [HVp.out, HVq.out] at h
    exact h.mono fun _ _ h => ⟨h.1, hW.trans h.2⟩
  obtain ⟨xk0, xk1, xk2⟩ := HCO.out _ w9 _ _ _ _ _ _ HKx.out ((((HBy.out.trans HNy.out).trans (HBp.out.trans HNp.out)).trans (HBq.out.trans HNq.out)).trans (Gq.refl _))
  obtain ⟨yk0, yk1, yk2⟩ := HCO.out _ w9 _ _ _ _ _ _ HKy.out (((HBp.out.trans HNp.out).trans (HBq.out.trans HNq.out)).trans (Gq.refl _))
  have hjj : (Jf == Jf) = true := by simp
  have hmm : (Mf == Mf) = true := by simp
  have HE1 := Lib.hid (HEJ.out w9 (Gq.refl _))
  clear HEJ
  go_wp2_with fail
  refine HE1.out.mono ?_
  rintro e v1 ⟨rfl, hv1⟩
  have HV1 : Hid (Gq w9 v1) := hv1
  have HE2 := Lib.hid (HEM.out v1 HV1.out)
  obtain ⟨pk0, pk1, pk2⟩ := HCO.out _ v1 _ _ _ _ _ _ HKp.out ((HBq.out.trans HNq.out).trans HV1.out)
  obtain ⟨qk0, qk1, qk2⟩ := HCO.out _ v1 _ _ _ _ _ _ HKq.out ((Gq.refl _).trans HV1.out)
  clear hv1 HE1 HEM xk0 xk1 xk2 yk0 yk1 yk2
  go_wp2_with fail
  refine HE2.out.mono ?_
  rintro e v2 ⟨rfl, hv2⟩
  have HV2 : Hid (Gq w v2) := HG1.out.trans (HG5.out.trans hv2)
  have HE3 := Lib.hid (HAW.out v2 HV2.out)
  clear hv2 HE2 pk0 pk1 pk2 qk0 qk1 qk2
  go_wp2_with fail
  refine HE3.out.mono ?_
  rintro e v3 ⟨rfl, hv3⟩
  have HV3 : Hid (Gq w v3) := HV2.out.trans hv3
  clear hv3
  go_wp2_with fail
  go_ret
  exact ⟨rfl, HV3.out⟩
end Go.Proofs.YtmknpeoflafaoaaGreatDoor
