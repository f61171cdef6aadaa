/- Several texts laid into one: The contract of edit.end; The contract of the reference's end; Where the clips of right edits end; -/
import Derived.Test.YtmknpeoflafaoaaGreatDoorEdtZ
import Derived.Test.YtmknpeoflafaoaaGreatDoorNumB
import Derived.Test.YtmknpeoflafaoaaGreatDoorProg
import Derived.Deep.CutRange
import Derived.Deep.RegionHeld3
import Derived.Test.YtmknpeoflafaoaaGreatDoorPlnA
import Derived.Test.YtmknpeoflafaoaaGreatDoorPlnF
/- The contract of edit.end. -/
namespace Go.Proofs.YtmknpeoflafaoaaGreatDoor
open Go.RowKit Go.Dw

/-- clips that lie within an edit -/
def EndOk (L : List CliM) : Prop := ∀ c ∈ L, 0 ≤ c.at_ ∧ c.at_ ≤ 100000 ∧ 0 ≤ c.ln ∧ c.ln ≤ 100000
theorem endF_snoc (l : List Cli) (c : Cli) : endF (l ++ [c]) = max (endF l) (c.at_ + c.ln) := by simp [endF]
theorem endF_bd : ∀ (L : List CliM), EndOk L → 0 ≤ endF (L.map CliM.x) ∧ endF (L.map CliM.x) ≤ 200000 := by
  intro L h
  have key : ∀ (k : Nat), 0 ≤ endF ((L.take k).map CliM.x) ∧ endF ((L.take k).map CliM.x) ≤ 200000 := by
    intro k
    induction k with
    | zero => simp [endF]
    | succ k ih =>
      by_cases hk : k < L.length
      · rw [List.take_succ_eq_append_getElem hk, List.map_append, List.map_cons, List.map_nil, endF_snoc]
        have := h _ (List.getElem_mem hk)
        simp only [CliM.x]
        omega
      · rw [List.take_of_length_le (by omega)]
        rw [List.take_of_length_le (by omega)] at ih
        exact ih
  have := key L.length
  rwa [List.take_length] at this
set_option maxRecDepth 100000 in
set_option maxHeartbeats 2000000 in
theorem end_any (A : Option Addr) (c : Nat) (L : List CliM) (w : World) (h : Rd w A (L.flatMap CliM.cs)) (hn : L.length ≤ 9223372036854775807) (ho : EndOk L) :
    Calls Tryz.prog 11 #[.slice A L.length c] w fun e w' => e = .returned (.int .i64 (endF (L.map CliM.x))) ∧ Below w.heap.size w w' := by
  have HR := Lib.hid h
  have HO := Lib.hid ho
  clear h ho
  go_enter Tryz.func11, Tryz.ntmps11
  go_wp2_with fail
  go_loopw [3, 8] (fun nv kv wr => ∃ (k : Nat) (n : Int), k ≤ L.length ∧ kv = .int .i64 (k : Int) ∧ nv = .int .i64 n ∧ Hid (n = endF ((L.take k).map CliM.x)) ∧ Hid (Gq w wr)) (fun _ kv _ => L.length - (intOf kv).toNat)
  case atStart => exact ⟨0, 0, Nat.zero_le _, rfl, rfl, by show (0 : Int) = _; simp [endF], Gq.refl _⟩
  case round =>
    obtain ⟨k, n, hk, rfl, rfl, HN, HG⟩ := hrel
    by_cases hlt : k < L.length
    case neg =>
      have hd : decide (k < L.length) = false := by simpa using hlt
      have HE : Hid (n = endF (L.map CliM.x)) := by
        show _ = _
        have := HN.out
        rwa [List.take_of_length_le (by omega)] at this
      go_wp2_with fail
      go_ret
      exact ⟨ret_int HE.out, HG.out⟩
    have hd : decide (k < L.length) = true := by simpa using hlt
    obtain ⟨b, off, rfl, hb, hc⟩ := cli_at (HR.out.below HG.out) (by omega)
    obtain ⟨d0, d1, d2, d3, d4, d5, d6⟩ := hc k hlt
    have HNX : Hid (endF ((L.take (k + 1)).map CliM.x) = max n (L[k].at_ + L[k].ln)) := by
      show _ = _
      rw [List.take_succ_eq_append_getElem hlt, List.map_append, List.map_cons, List.map_nil, endF_snoc, ← HN.out]; rfl
    have ho := HO.out _ (List.getElem_mem hlt)
    have hnb : 0 ≤ n ∧ n ≤ 200000 := by
      rw [HN.out]
      exact endF_bd _ (fun c hc => HO.out c (List.mem_of_mem_take hc))
    clear hc
    generalize L[k] = x at *
    obtain ⟨xm, xc, xf, xt, xa, xl, ⟨eA, ec, ee⟩⟩ := x
    simp only at d0 d1 d2 d3 d4 d5 d6 ho HNX
    obtain ⟨a0, a1, l0, l1⟩ := ho
    obtain ⟨s, hs⟩ : ∃ s, xa + xl = s := ⟨_, rfl⟩
    have W1 : IntKind.i64.wrap (xa + xl) = s := by rw [hs]; exact IntWalk.i64_in _ (by omega)
    rw [hs] at HNX
    have HGA : Hid (∀ o, Gq w (wr.alloc o)) := fun o => Gq.alloc HG.out o
    clear hs
    go_wp2_with fail
    go_roundw
    case rel => exact ⟨k + 1, _, by omega, by go_num, rfl, by rw [HNX.out]; show _ = _; first | rfl | (split <;> omega), HGA.out _⟩
    case measure => simp [intOf]; omega
end Go.Proofs.YtmknpeoflafaoaaGreatDoor
/- The contract of the reference's end. -/
namespace Go.Proofs.YtmknpeoflafaoaaGreatDoor
open Go.RowKit Go.Dw

set_option maxRecDepth 100000 in
set_option maxHeartbeats 2000000 in
theorem endR_any (e : EdtM) (w : World) (h : EdtOk w e) (ho : EndOk e.cs.xs) :
    Calls Tryz.prog 17 #[e.v] w fun en w' => en = .returned (.int .i64 (endF e.x.cs)) ∧ Below w.heap.size w w' := by
  obtain ⟨er, et, ⟨A, c, L⟩⟩ := e
  have hn : L.length ≤ 9223372036854775807 := h.cl
  have HX : Hid ((EdtM.x ⟨er, et, ⟨A, c, L⟩⟩).cs = L.map CliM.x) := rfl
  rw [HX.out]
  unfold EdtM.v
  simp only [Slc.v]
  obtain ⟨w0, hw0⟩ : ∃ w0, w0 = w.alloc (.cells #[.int .i64 er, .int .i64 et, .slice A L.length c] 24) := ⟨_, rfl⟩
  have HB0 : Hid (Below w.heap.size w w0) := by rw [hw0]; exact (Below.refl _ _).alloc (Nat.le_refl _) _
  have HK : Hid (Blk w0 w.heap.size 24 [.int .i64 er, .int .i64 et, .slice A L.length c]) := by rw [hw0]; exact Blk.new w _ _
  have b2 : w0.cell? ⟨w.heap.size, 2, none⟩ = some (.slice A L.length c) := HK.out.cell 2
  have HR : Hid (Rd w0 A (L.flatMap CliM.cs)) := h.cr.below HB0.out
  have HO : Hid (EndOk L) := ho
  have HW0 := Lib.hid hw0
  clear h ho hw0 HX
  go_enter Tryz.func17, Tryz.ntmps17
  go_upto_region 1 with (fail)
  rw [← HW0.out]
  go_wp2_with fail
  go_loopw [3, 4] (fun nv kv wr => ∃ (k : Nat) (n : Int), k ≤ L.length ∧ kv = .int .i64 (k : Int) ∧ nv = .int .i64 n ∧ Hid (n = endF ((L.take k).map CliM.x)) ∧ ∃ q, wr = w0.drewN q) (fun _ kv _ => L.length - (intOf kv).toNat)
  case atStart => exact ⟨0, 0, Nat.zero_le _, rfl, rfl, by show (0 : Int) = _; simp [endF], 0, rfl⟩
  case round =>
    obtain ⟨k, n, hk, rfl, rfl, HN, q, rfl⟩ := hrel
    by_cases hlt : k < L.length
    case neg =>
      have hd : decide (k < L.length) = false := by simpa using hlt
      have HE : Hid (n = endF (L.map CliM.x)) := by
        show _ = _
        have := HN.out
        rwa [List.take_of_length_le (by omega)] at this
      go_wp2_with fail
      go_ret
      exact ⟨ret_int HE.out, below_drewN HB0.out _⟩
    have hd : decide (k < L.length) = true := by simpa using hlt
    obtain ⟨b, off, rfl, hb, hc⟩ := cli_at HR.out (by omega)
    obtain ⟨_, _, _, _, d4, d5, _⟩ := hc k hlt
    have HNX : Hid (endF ((L.take (k + 1)).map CliM.x) = max n (L[k].at_ + L[k].ln)) := by
      show _ = _
      rw [List.take_succ_eq_append_getElem hlt, List.map_append, List.map_cons, List.map_nil, endF_snoc, ← HN.out]; rfl
    have ho := HO.out _ (List.getElem_mem hlt)
    have hnb : 0 ≤ n ∧ n ≤ 200000 := by
      rw [HN.out]
      exact endF_bd _ (fun c hc => HO.out c (List.mem_of_mem_take hc))
    clear hc
    generalize L[k].at_ = xa at *
    generalize L[k].ln = xl at *
    obtain ⟨a0, a1, l0, l1⟩ := ho
    obtain ⟨s, hs⟩ : ∃ s, xa + xl = s := ⟨_, rfl⟩
    have W1 : IntKind.i64.wrap (xa + xl) = s := by rw [hs]; exact IntWalk.i64_in _ (by omega)
    rw [hs] at HNX
    have j0 : (0 : Int) ≤ (k : Int) := by omega
    have j1 : (k : Int) < (L.length : Int) := by omega
    clear hs
    go_wp2_with fail
    go_quiet (fail)
    go_wp2_with fail
    go_roundw
    case rel => exact ⟨k + 1, _, by omega, by go_num, rfl, by rw [HNX.out]; show _ = _; first | rfl | (split <;> omega), _, rfl⟩
    case measure => simp [intOf]; omega
end Go.Proofs.YtmknpeoflafaoaaGreatDoor
/- Where the clips of right edits end. -/
namespace Go.Proofs.YtmknpeoflafaoaaGreatDoor
open Go.RowKit Go.Dw

theorem endOk_of {e : EdtM} (h : ediF isNm 1000000 e.x = 0) : EndOk e.cs.xs := fun c hc => by
  have := ((ediF_ok h).c c.x (List.mem_map_of_mem hc)).r
  obtain ⟨_, _, _, ⟨a1, a2⟩, ⟨a3, a4⟩, _⟩ := this
  simp only [CliM.x] at a1 a2 a3 a4
  omega
end Go.Proofs.YtmknpeoflafaoaaGreatDoor
