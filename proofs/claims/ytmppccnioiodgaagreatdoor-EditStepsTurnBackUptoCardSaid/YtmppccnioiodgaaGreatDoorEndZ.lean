/- Several texts laid into one: The contract of deadwaxlaw3's awake; The tables out of a row's list; -/
import Derived.Test.YtmppccnioiodgaaGreatDoorTxtA
import Derived.Test.YtmppccnioiodgaaGreatDoorBase
import Derived.Lib.LaidTab
/- The contract of deadwaxlaw3's awake. -/
namespace Go.Proofs.YtmppccnioiodgaaGreatDoor
open Go.RowKit Go.Dw

theorem dig1 (n : Nat) (h : n < 10) : Lib.itoa (n : Int) = [UInt8.ofNat (48 + n)] := by
  unfold Lib.itoa
  rw [if_neg (by omega), Int.toNat_natCast, Lib.decDigits, dif_pos h]
theorem txt23 : txtF isNm 1000000 ⟨2, 3, []⟩ = ([101, 100, 105, 116, 32, 50, 32, 51, 10], 0) := by
  have h0 : ediF isNm 1000000 ⟨2, 3, []⟩ = 0 := by
    unfold ediF
    rw [if_neg (by simp), if_neg (by simp)]
    rfl
  have h1 : ediT ⟨2, 3, []⟩ = [101, 100, 105, 116, 32, 50, 32, 51, 10] := by
    have a := dig1 2 (by omega)
    have b := dig1 3 (by omega)
    have a2 : Lib.itoa 2 = [50] := a
    have b2 : Lib.itoa 3 = [51] := b
    simp [ediT, a2, b2]
  rw [txtF_ok h0 (by rw [h1]; simp), h1]
theorem ok23 (w : World) : EdtOk w ⟨2, 3, ⟨none, 0, []⟩⟩ := ⟨⟨by decide, by decide⟩, ⟨by decide, by decide⟩, by simp, .inl rfl, fun c hc => by simp at hc⟩
set_option maxHeartbeats 1000000 in
theorem awake3 (w : World) (hp : HasPow w) : Calls Tryz.prog 5 #[] w fun e w' => e = .returned (.bool true) ∧ Below w.heap.size w w' := by
  have HT : Hid (Calls Tryz.prog 12 #[.agg #[.int .i64 2, .int .i64 3, .slice none 0 0]] w fun e w' => e = .returned (.tuple #[.string ⟨#[101, 100, 105, 116, 32, 50, 32, 51, 10]⟩, .int .i64 0]) ∧ Below w.heap.size w w') := by
    have := text_e ⟨2, 3, ⟨none, 0, []⟩⟩ w (ok23 w) hp
    have e1 : EdtM.x ⟨2, 3, ⟨none, 0, []⟩⟩ = ⟨2, 3, []⟩ := rfl
    rw [e1] at this
    unfold TxtR at this
    rw [txt23] at this
    exact this
  have e2 : ((⟨#[101, 100, 105, 116, 32, 50, 32, 51, 10]⟩ : ByteArray).toList == [101, 100, 105, 116, 32, 50, 32, 51, 10]) = true := by
    rw [ByteArray.toList_eq]; rfl
  generalize (⟨#[101, 100, 105, 116, 32, 50, 32, 51, 10]⟩ : ByteArray) = s at HT e2
  go_enter Tryz.func5, Tryz.ntmps5
  go_wp2_with fail
  refine HT.out.mono ?_
  rintro e w1 ⟨rfl, hb1⟩
  have HB1 := Lib.hid hb1
  clear hb1
  go_wp2_with fail
  go_ret
  exact ⟨rfl, HB1.out⟩
end Go.Proofs.YtmppccnioiodgaaGreatDoor
/- The tables out of a row's list. -/
namespace Go.Proofs.YtmppccnioiodgaaGreatDoor
open Go.RowKit Go.Dw

theorem laid_tail {P : Program} {w : World} {n : String} {d : DataW Unit} {r : List (String × DataW Unit)} {ps : List MemPlace} (h : DataW.LaidVars P w ((n, d) :: r) ps) : ∃ qs, DataW.LaidVars P w r qs := by
  obtain ⟨_, _, _, _, _, q, _, _, _, _, h, _⟩ := h
  exact ⟨q, h⟩
theorem tab_head {P : Program} {W : World} {name : String} {k : IntKind} {zs : List Int} {rest : List (String × DataW Unit)} {g : Nat} {t e : TypeId} {n : Nat} {ps : List MemPlace}
    (hg : P.globalNamed name = some g) (hty : (P.globals[g]?).map (·.type) = some t) (ht : P.underlying t = some (.array n e)) (he : P.underlying e = some (.int k)) (hce : P.cellsOf e = 1) (hct : P.cellsOf t = n)
    (h : DataW.LaidVars P W ((name, Lib.tabData k zs) :: rest) ps) : Lib.TabIs P W name k zs := by
  obtain ⟨g', t', cs, fuel, p, q, hg', ht', hvar, hd, _, _⟩ := h
  obtain rfl := Option.some.inj (hg.symm.trans hg')
  obtain rfl := Option.some.inj (hty.symm.trans ht')
  unfold Lib.TabIs
  rw [hvar, ← Lib.cells_of_tab ht he hce hct hd]
end Go.Proofs.YtmppccnioiodgaaGreatDoor
