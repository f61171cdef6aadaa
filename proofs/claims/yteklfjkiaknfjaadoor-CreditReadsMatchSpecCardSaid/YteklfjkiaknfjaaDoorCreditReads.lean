/- The walk of CreditReadsMatchSpec. -/
import Derived.Test.YteklfjkiaknfjaaDoorRdC
import Derived.Test.YteklfjkiaknfjaaDoorEqCr
import Derived.Test.YteklfjkiaknfjaaDoorAgrG
import Derived.Test.YteklfjkiaknfjaaDoorMax
namespace Go.Proofs.YteklfjkiaknfjaaDoor
open Go.RowKit Go.Dw

set_option maxRecDepth 100000 in
set_option maxHeartbeats 1000000 in
theorem reads_law (s : ByteArray) (w : World) (_ : s.size ≤ maxLen) (hm : HasMax w) :
    Calls Tryd.prog 3 #[.string s] w fun e w' => e = .returned (.bool true) ∧ Below w.heap.size w w' := by
  have H1 := Lib.hid (read_any s w hm)
  have H2 := Lib.hid (fun (W : World) (hW : Below w.heap.size w W) => readR_any s W (hm.below hW))
  generalize readF s.data.toList = r at *
  obtain ⟨l, i, f⟩ := r
  have e1 : (f == f) = true := by simp
  have e2 : ((i : Int) == (i : Int)) = true := by simp
  clear hm
  go_enter Tryd.func3, Tryd.ntmps3
  go_wp2_with fail
  refine H1.out.mono ?_
  rintro e w1 ⟨hb1, A1, c1, L1, rfl, hx1, hl1, hc1⟩
  have HB1 := Lib.hid hb1
  have HC1 := Lib.hid hc1
  have HX1 := Lib.hid hx1
  clear hb1 hx1 hc1
  go_wp2_with fail
  refine (H2.out _ HB1.out).mono ?_
  rintro e w2 ⟨hb2, A2, c2, L2, rfl, hx2, hl2, hc2⟩
  have HB2 := Lib.hid (HB1.out.trans (hb2.mono HB1.out.size))
  have HE := Lib.hid (sameCr_any A1 A2 c1 c2 L1 L2 w2 (HX1.out.trans hx2.symm) (HC1.out.below hb2) hc2)
  clear hb2 hx2 hc2 HC1
  go_wp2_with fail
  refine HE.out.mono ?_
  rintro e w3 ⟨rfl, hb3⟩
  have HB3 := Lib.hid (HB2.out.trans (hb3.mono HB2.out.size))
  clear hb3
  go_wp2_with fail
  refine (awake5 _).mono ?_
  rintro e w4 ⟨rfl, hb4⟩
  have HB4 := Lib.hid (HB3.out.trans (hb4.mono HB3.out.size))
  clear hb4
  go_wp2_with fail
  go_ret
  exact ⟨rfl, HB4.out⟩
end Go.Proofs.YteklfjkiaknfjaaDoor
