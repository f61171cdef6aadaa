/- Several texts laid into one: The contract of deadwaxlaw3's awake; The tables out of a row's list; The walk of EditHeardMatchesSpec; -/
import Derived.Test.YtmknpeoflafaoabGreatDoorTxtA
import Derived.Test.YtmknpeoflafaoabGreatDoorBase
import Derived.Lib.LaidTab
import Derived.Test.YtmknpeoflafaoabGreatDoorHeaA
import Derived.Test.YtmknpeoflafaoabGreatDoorHerH
import Derived.Test.YtmknpeoflafaoabGreatDoorHeaZ
import Derived.Test.YtmknpeoflafaoabGreatDoorEdtZ
/- The contract of deadwaxlaw3's awake. -/
namespace Go.Proofs.YtmknpeoflafaoabGreatDoor
open Go.RowKit Go.Dw

theorem dig1 (n : Nat) (h : n < 10) : Lib.itoa (n : Int) = [UInt8.ofNat (48 + n)] := by
  unfold Lib.itoa
  rw [if_neg (by omega), Int.toNat_natCast, Lib.decDigits, dif_pos h]
theorem txt23 : txtF isNm 1000000 ⟨2, 3, []⟩ = ([101, 100, 105, 116, 32, 50, 32, 51, 10], 0) := by
  have h0 : ediF isNm 1000000 ⟨2, 3, []⟩ = 0 := by
    unfold ediF
    rw [if_neg (by simp), if_neg (by simp)]
    rfl
  have h1 : ediT ⟨2, 3, []⟩ = [101, 100, 105, 116, 32, 50, 32, 51, 10] := by
    have a := dig1 2 (by omega)
    have b := dig1 3 (by omega)
    have a2 : Lib.itoa 2 = [50] := a
    have b2 : Lib.itoa 3 = [51] := b
    simp [ediT, a2, b2]
  rw [txtF_ok h0 (by rw [h1]; simp), h1]
theorem ok23 (w : World) : EdtOk w ⟨2, 3, ⟨none, 0, []⟩⟩ := ⟨⟨by decide, by decide⟩, ⟨by decide, by decide⟩, by simp, .inl rfl, fun c hc => by simp at hc⟩
set_option maxHeartbeats 1000000 in
theorem awake3 (w : World) (hp : HasPow w) : Calls Tryz.prog 7 #[] w fun e w' => e = .returned (.bool true) ∧ Below w.heap.size w w' := by
  have HT : Hid (Calls Tryz.prog 22 #[.agg #[.int .i64 2, .int .i64 3, .slice none 0 0]] w fun e w' => e = .returned (.tuple #[.string ⟨#[101, 100, 105, 116, 32, 50, 32, 51, 10]⟩, .int .i64 0]) ∧ Below w.heap.size w w') := by
    have := text_e ⟨2, 3, ⟨none, 0, []⟩⟩ w (ok23 w) hp
    have e1 : EdtM.x ⟨2, 3, ⟨none, 0, []⟩⟩ = ⟨2, 3, []⟩ := rfl
    rw [e1] at this
    unfold TxtR at this
    rw [txt23] at this
    exact this
  have e2 : ((⟨#[101, 100, 105, 116, 32, 50, 32, 51, 10]⟩ : ByteArray).toList == [101, 100, 105, 116, 32, 50, 32, 51, 10]) = true := by
    rw [ByteArray.toList_eq]; rfl
  generalize (⟨#[101, 100, 105, 116, 32, 50, 32, 51, 10]⟩ : ByteArray) = s at HT e2
  go_enter Tryz.func7, Tryz.ntmps7
  go_wp2_with fail
  refine HT.out.mono ?_
  rintro e w1 ⟨rfl, hb1⟩
  have HB1 := Lib.hid hb1
  clear hb1
  go_wp2_with fail
  go_ret
  exact ⟨rfl, HB1.out⟩
end Go.Proofs.YtmknpeoflafaoabGreatDoor
/- The tables out of a row's list. -/
namespace Go.Proofs.YtmknpeoflafaoabGreatDoor
open Go.RowKit Go.Dw

theorem laid_tail {P : Program} {w : World} {n : String} {d : DataW Unit} {r : List (String × DataW Unit)} {ps : List MemPlace} (h : DataW.LaidVars P w ((n, d) :: r) ps) : ∃ qs, DataW.LaidVars P w r qs := by
  obtain ⟨_, _, _, _, _, q, _, _, _, _, h, _⟩ := h
  exact ⟨q, h⟩
theorem tab_head {P : Program} {W : World} {name : String} {k : IntKind} {zs : List Int} {rest : List (String × DataW Unit)} {g : Nat} {t e : TypeId} {n : Nat} {ps : List MemPlace}
    (hg : P.globalNamed name = some g) (hty : (P.globals[g]?).map (·.type) = some t) (ht : P.underlying t = some (.array n e)) (he : P.underlying e = some (.int k)) (hce : P.cellsOf e = 1) (hct : P.cellsOf t = n)
    (h : DataW.LaidVars P W ((name, Lib.tabData k zs) :: rest) ps) : Lib.TabIs P W name k zs := by
  obtain ⟨g', t', cs, fuel, p, q, hg', ht', hvar, hd, _, _⟩ := h
  obtain rfl := Option.some.inj (hg.symm.trans hg')
  obtain rfl := Option.some.inj (hty.symm.trans ht')
  unfold Lib.TabIs
  rw [hvar, ← Lib.cells_of_tab ht he hce hct hd]
end Go.Proofs.YtmknpeoflafaoabGreatDoor
/- The walk of EditHeardMatchesSpec. -/
namespace Go.Proofs.YtmknpeoflafaoabGreatDoor
open Go.RowKit Go.Dw

theorem heaF_len (nm : ByteArray → Bool) (mx : Int) (e : Edt) (tr at_ : Int) : (heaF nm mx e tr at_).1.length ≤ e.cs.length := by
  unfold heaF
  split
  · simp
  · split
    · simp
    · exact Nat.le_trans (List.length_filter_le _ _) (hrdL_len tr at_ e.cs)
set_option maxRecDepth 100000 in
set_option maxHeartbeats 8000000 in
theorem hea_law (x : EdtM) (tr at_ : Int) (w : World) (h : EdtOk w x) (_ht : inI64 tr) (_ha : inI64 at_) (hp : HasPow w) :
    Calls Tryz.prog 3 #[x.v, .int .i64 tr, .int .i64 at_] w fun e w' => e = .returned (.bool true) ∧ Below w.heap.size w w' := by
  obtain ⟨r, hr⟩ : ∃ r, heaF isNm 1000000 x.x tr at_ = r := ⟨_, rfl⟩
  have HRL : Hid (r.1.length ≤ 9223372036854775807) := by
    show _ ≤ _
    rw [← hr]
    have h1 := heaF_len isNm 1000000 x.x tr at_
    have h2 := h.cl
    have h3 : x.x.cs.length = x.cs.xs.length := by show (x.cs.xs.map CliM.x).length = _; rw [List.length_map]
    omega
  have HPA : Hid (∀ W, Gq w W → Calls Tryz.prog 4 #[x.v, .int .i64 tr, .int .i64 at_] W (HeaR r W)) := fun W hW => by
    rw [← hr]; exact heard_any x tr at_ W (h.below hW)
  have HRA : Hid (∀ W, Gq w W → Calls Tryz.prog 5 #[x.v, .int .i64 tr, .int .i64 at_] W (HeaR r W)) := fun W hW => by
    rw [← hr]; exact heardH_any x tr at_ W (h.below hW) (hp.below hW)
  have HAW : Hid (∀ W, Gq w W → Calls Tryz.prog 7 #[] W fun e w' => e = .returned (.bool true) ∧ Gq W w') := fun W hW => awake3 W (hp.below hW)
  clear hr h hp
  obtain ⟨l, f⟩ := r
  unfold HeaR at HPA HRA
  simp only at HPA HRA HRL
  obtain ⟨L, hL⟩ : ∃ L, l.map grnOf = L := ⟨_, rfl⟩
  have hll : l.length = L.length := by rw [← hL, List.length_map]
  rw [hL, hll] at HPA HRA
  rw [hll] at HRL
  clear hL hll
  obtain ⟨xr, xt, ⟨xA, xd, xs⟩⟩ := x
  simp only [EdtM.v, Slc.v] at HPA HRA ⊢
  obtain ⟨xn, hxn⟩ : ∃ xn : Nat, xs.length = xn := ⟨_, rfl⟩
  rw [hxn] at HPA HRA ⊢
  clear hxn
  obtain ⟨w1, hw1⟩ : ∃ w1, w1 = w.alloc (.cells #[.int .i64 xr, .int .i64 xt, .slice xA xn xd] 24) := ⟨_, rfl⟩
  have HG1 : Hid (Gq w w1) := by rw [hw1]; exact (Gq.refl _).alloc _
  have HKE : Hid (Blk w1 w.heap.size 24 [.int .i64 xr, .int .i64 xt, .slice xA xn xd]) := by rw [hw1]; exact Blk.new w _ _
  have HCE : Hid (∀ W, Gq w1 W → W.cell? ⟨w.heap.size, 0, none⟩ = some (.int .i64 xr) ∧ W.cell? ⟨w.heap.size, 1, none⟩ = some (.int .i64 xt) ∧ W.cell? ⟨w.heap.size, 2, none⟩ = some (.slice xA xn xd)) := fun W hW => by
    have k1 := blk_gq HKE.out hW
    exact ⟨k1.cell 0, k1.cell 1, k1.cell 2⟩
  obtain ⟨c0, c1, c2⟩ := HCE.out w1 (Gq.refl _)
  have H1 := Lib.hid (HPA.out w1 HG1.out)
  have HW1 := Lib.hid hw1
  clear hw1 HPA
  go_enter Tryz.func3, Tryz.ntmps3
  go_upto_region 1 with (fail)
  rw [← HW1.out]
  go_wp2_with fail
  refine H1.out.mono ?_
  rintro e w2 ⟨A, c, rfl, hrd, hb⟩
  have HG2 : Hid (Gq w1 w2) := hb
  have HRD := Lib.hid hrd
  have H2 := Lib.hid (HRA.out w2 (HG1.out.trans HG2.out))
  obtain ⟨d0, d1, d2⟩ := HCE.out w2 HG2.out
  clear hrd hb c0 c1 c2 H1 HRA
  go_wp2_with fail
  refine H2.out.mono ?_
  rintro e w3 ⟨B, d, rfl, hrd, hb⟩
  have HG3 : Hid (Gq w2 w3) := hb
  have HG : Hid (Gq w w3) := HG1.out.trans (HG2.out.trans HG3.out)
  have HEQ := Lib.hid (sameGr_any A B c d L w3 (HRD.out.below HG3.out) hrd HRL.out)
  have hff : (f == f) = true := by simp
  clear hrd hb d0 d1 d2 H2
  go_wp2_with fail
  refine HEQ.out.mono ?_
  rintro e w4 ⟨rfl, n, rfl⟩
  have HG4 : Hid (Gq w (w3.drewN n)) := HG.out.trans ⟨rfl, rfl, rfl, Nat.le_refl _, fun _ _ => rfl⟩
  have H5 := Lib.hid (HAW.out _ HG4.out)
  clear HEQ
  go_wp2_with fail
  refine H5.out.mono ?_
  rintro e w5 ⟨rfl, hb6⟩
  have HG6 : Hid (Gq w w5) := HG4.out.trans hb6
  clear hb6
  go_wp2_with fail
  go_ret
  exact ⟨rfl, HG6.out⟩
end Go.Proofs.YtmknpeoflafaoabGreatDoor
