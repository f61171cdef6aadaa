/- The walk of CreditTextsMatchSpec. -/
import Derived.Test.YtckakleiaccffaaDoorTxR
import Derived.Test.YtckakleiaccffaaDoorRdB
import Derived.Test.YtckakleiaccffaaDoorEqCr
import Derived.Test.YtckakleiaccffaaDoorAgrG
import Derived.Test.YtckakleiaccffaaDoorMax
import Derived.Test.YtckakleiaccffaaDoorDecCr
import Derived.Lib.LaidTab
namespace Go.Proofs.YtckakleiaccffaaDoor
open Go.RowKit Go.Dw

def CrC (w : World) (c : Crd) : Prop := CrOk w c ∧ c.s.xs.length ≤ c.s.c
theorem decStrsC {H : Type} {enc : TypeId × Value → H} {w : World} :
    Dec enc Tryd.prog w 36 (fun l : Slc ByteArray => [l.v]) (fun l => (l.xs.length ≤ maxLen ∧ Rd w l.a (l.xs.flatMap fun s => [Value.string s]) ∧ ∀ s ∈ l.xs, s.size ≤ maxLen) ∧ l.xs.length ≤ l.c ∧ l.c ≤ maxLen) :=
  Dec.sliceC 1 Tryd.underlying36 (by kernel_rfl) (fun _ => rfl) (by omega) (Dec.string Tryd.underlying9)
theorem decCreditsC {H : Type} {enc : TypeId × Value → H} {w : World} :
    Dec enc Tryd.prog w 22 (fun l : Slc Crd => [l.v]) (fun l => l.xs.length ≤ maxLen ∧ Rd w l.a (l.xs.flatMap Crd.cs) ∧ ∀ c ∈ l.xs, CrC w c) :=
  Dec.slice 5 Tryd.underlying22 (by kernel_rfl) (fun _ => rfl) (by omega)
    ((Dec.struct (tot := 5) (fl := [(9, 0, 1), (9, 1, 1), (9, 2, 1), (36, 3, 1), (3, 4, 1)]) Tryd.underlying38 (by kernel_rfl) (by kernel_rfl)
      (DecS.cons (Dec.string Tryd.underlying9) (DecS.cons (Dec.string Tryd.underlying9) (DecS.cons (Dec.string Tryd.underlying9) (DecS.cons decStrsC (DecS.cons (tot := 0) (Dec.int Tryd.underlying3) DecS.nil)))))).map
      (fun p => (⟨p.1, p.2.1, p.2.2.1, p.2.2.2.1, p.2.2.2.2.1⟩ : Crd)) (fun _ => rfl) (fun p h => by
        obtain ⟨h1, h2, h3, ⟨⟨h4, h5, h6⟩, h8, _⟩, h7, _⟩ := h
        rw [sb_flat] at h5
        exact ⟨⟨by simpa [maxLen] using h1, by simpa [maxLen] using h2, by simpa [maxLen] using h3, by simpa [maxLen] using h4, h5, fun s hs => by simpa [maxLen] using h6 s hs, h7⟩, h8⟩))
/-- the table out of the row's list -/
theorem laid_tail {P : Program} {w : World} {n : String} {d : DataW Unit} {r : List (String × DataW Unit)} {ps : List MemPlace} (h : DataW.LaidVars P w ((n, d) :: r) ps) : ∃ qs, DataW.LaidVars P w r qs := by
  obtain ⟨_, _, _, _, _, q, _, _, _, _, h, _⟩ := h
  exact ⟨q, h⟩
theorem tab_head {P : Program} {W : World} {name : String} {k : IntKind} {zs : List Int} {rest : List (String × DataW Unit)} {g : Nat} {t e : TypeId} {n : Nat} {ps : List MemPlace}
    (hg : P.globalNamed name = some g) (hty : (P.globals[g]?).map (·.type) = some t) (ht : P.underlying t = some (.array n e)) (he : P.underlying e = some (.int k)) (hce : P.cellsOf e = 1) (hct : P.cellsOf t = n)
    (h : DataW.LaidVars P W ((name, Lib.tabData k zs) :: rest) ps) : Lib.TabIs P W name k zs := by
  obtain ⟨g', t', cs, fuel, p, q, hg', ht', hvar, hd, _, _⟩ := h
  obtain rfl := Option.some.inj (hg.symm.trans hg')
  obtain rfl := Option.some.inj (hty.symm.trans ht')
  unfold Lib.TabIs
  rw [hvar, ← Lib.cells_of_tab ht he hce hct hd]
set_option maxRecDepth 100000 in
set_option maxHeartbeats 1000000 in
theorem texts_law (x : Slc Crd) (w : World) (h : x.xs.length ≤ maxLen ∧ Rd w x.a (x.xs.flatMap Crd.cs) ∧ ∀ c ∈ x.xs, CrC w c) (hm : HasMax w) (hp : HasPow w) :
    Calls Tryd.prog 3 #[x.v] w fun e w' => e = .returned (.bool true) ∧ Below w.heap.size w w' := by
  have hx : Crs w x := ⟨by simpa [maxLen] using h.1, h.2.1, fun c hc => (h.2.2 c hc).1⟩
  have hcap : ∀ c ∈ x.xs, c.s.xs.length ≤ c.s.c := fun c hc => (h.2.2 c hc).2
  have H1 := Lib.hid (text_any x w hx hcap hm hp)
  have H2 := Lib.hid (fun (W : World) (hW : Below w.heap.size w W) => textR_any x W (hx.below hW) hcap (hm.below hW) (hp.below hW))
  have H3 := Lib.hid (fun (s : ByteArray) (W : World) (hW : Below w.heap.size w W) => read_any s W (hm.below hW))
  have HX := Lib.hid hx
  obtain ⟨T, hT⟩ : ∃ T, textF (x.xs.map Crd.x) = T := ⟨_, rfl⟩
  rw [hT] at H1
  simp only [hT] at H2
  have HBK : Hid (∀ (_ : T.2 = 0) (_ : T.1.length ≤ 300000), readF T.1 = (x.xs.map Crd.x, 0, 0)) := fun h1 h2 => by
    rw [← hT] at h1 h2 ⊢
    unfold textF at h1 h2 ⊢
    by_cases hz : crsF (x.xs.map Crd.x) = 0
    · rw [if_neg (by simpa using hz)] at h2 ⊢
      exact text_back hz h2
    · rw [if_pos hz] at h1; exact absurd h1 hz
  obtain ⟨s, hs⟩ : ∃ s, mkB T.1 = s := ⟨_, rfl⟩
  have HSZ : Hid (s.size = T.1.length) := by show _ = _; rw [← hs, mkB_size]
  have HSL : Hid (s.data.toList = T.1) := by show _ = _; rw [← hs]; simp [mkB]
  rw [hs] at H1
  simp only [hs] at H2
  obtain ⟨f, hf⟩ : ∃ f, T.2 = f := ⟨_, rfl⟩
  rw [hf] at H1 HBK
  simp only [hf] at H2
  obtain ⟨A, c, L⟩ := x
  clear h hx hcap hm hp hT hs hf
  have e1 : (f != f) = false := by simp
  have e2 : (s.toList == s.toList) = true := by simp
  have e3 : (s.toList != s.toList) = false := by simp
  simp only [Slc.v] at *
  go_enter Tryd.func3, Tryd.ntmps3
  go_wp2_with fail
  refine H1.out.mono ?_
  rintro e w1 ⟨rfl, hb1⟩
  have HB1 := Lib.hid hb1
  clear hb1
  go_wp2_with fail
  refine (H2.out _ HB1.out).mono ?_
  rintro e w2 ⟨rfl, hb2⟩
  have HB2 := Lib.hid (HB1.out.trans (hb2.mono HB1.out.size))
  clear hb2
  go_wp2_with fail
  refine (awake5 _).mono ?_
  rintro e w3 ⟨rfl, hb3⟩
  have HB3 := Lib.hid (HB2.out.trans (hb3.mono HB2.out.size))
  clear hb3
  by_cases hz : f = 0
  case neg =>
    have hzb : (f != 0) = true := by simpa using hz
    clear hz
    go_wp2_with fail
    go_ret
    exact ⟨rfl, HB3.out⟩
  subst hz
  by_cases hbig : 300000 < s.size
  · go_wp2_with fail
    go_ret
    exact ⟨rfl, HB3.out⟩
  have HRD : Hid (readF s.data.toList = (L.map Crd.x, 0, 0)) := by
    show _ = _
    rw [HSL.out]; exact HBK.out (by first | rfl | trivial) (by have := HSZ.out; omega)
  have H4 := Lib.hid (H3.out s w3 HB3.out)
  rw [HRD.out] at H4
  go_wp2_with fail
  refine H4.out.mono ?_
  rintro e w4 ⟨hb4, A4, c4, L4, rfl, hx4, hl4, hc4⟩
  have HB4 := Lib.hid (HB3.out.trans (hb4.mono HB3.out.size))
  have HE := Lib.hid (sameCr_any A A4 c c4 L L4 w4 hx4.symm (HX.out.below HB4.out) hc4)
  clear hb4 hx4 hc4
  go_wp2_with fail
  refine HE.out.mono ?_
  rintro e w5 ⟨rfl, hb5⟩
  have HB5 := Lib.hid (HB4.out.trans (hb5.mono HB4.out.size))
  clear hb5
  go_wp2_with fail
  go_ret
  exact ⟨rfl, HB5.out⟩
end Go.Proofs.YtckakleiaccffaaDoor
