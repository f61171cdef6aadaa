/- The contract of edit.end. -/
import Derived.Test.YtjcdifchcmldfaaGreatDoorEdtM
import Derived.Test.YtjcdifchcmldfaaGreatDoorNumB
import Derived.Test.YtjcdifchcmldfaaGreatDoorProg
namespace Go.Proofs.YtjcdifchcmldfaaGreatDoor
open Go.RowKit Go.Dw

/-- clips that lie within an edit -/
def EndOk (L : List CliM) : Prop := ∀ c ∈ L, 0 ≤ c.at_ ∧ c.at_ ≤ 100000 ∧ 0 ≤ c.ln ∧ c.ln ≤ 100000
theorem endF_snoc (l : List Cli) (c : Cli) : endF (l ++ [c]) = max (endF l) (c.at_ + c.ln) := by simp [endF]
theorem endF_bd : ∀ (L : List CliM), EndOk L → 0 ≤ endF (L.map CliM.x) ∧ endF (L.map CliM.x) ≤ 200000 := by
  intro L h
  have key : ∀ (k : Nat), 0 ≤ endF ((L.take k).map CliM.x) ∧ endF ((L.take k).map CliM.x) ≤ 200000 := by
    intro k
    induction k with
    | zero => simp [endF]
    | succ k ih =>
      by_cases hk : k < L.length
      · rw [List.take_succ_eq_append_getElem hk, List.map_append, List.map_cons, List.map_nil, endF_snoc]
        have := h _ (List.getElem_mem hk)
        simp only [CliM.x]
        omega
      · rw [List.take_of_length_le (by omega)]
        rw [List.take_of_length_le (by omega)] at ih
        exact ih
  have := key L.length
  rwa [List.take_length] at this
set_option maxRecDepth 100000 in
set_option maxHeartbeats 2000000 in
theorem end_any (A : Option Addr) (c : Nat) (L : List CliM) (w : World) (h : Rd w A (L.flatMap CliM.cs)) (hn : L.length ≤ 9223372036854775807) (ho : EndOk L) :
    Calls Tryz.prog 13 #[.slice A L.length c] w fun e w' => e = .returned (.int .i64 (endF (L.map CliM.x))) ∧ Below w.heap.size w w' := by
  have HR := Lib.hid h
  have HO := Lib.hid ho
  clear h ho
  go_enter Tryz.func13, Tryz.ntmps13
  go_wp2_with fail
  go_loopw [3, 8] (fun nv kv wr => ∃ (k : Nat) (n : Int), k ≤ L.length ∧ kv = .int .i64 (k : Int) ∧ nv = .int .i64 n ∧ Hid (n = endF ((L.take k).map CliM.x)) ∧ Hid (Gq w wr)) (fun _ kv _ => L.length - (intOf kv).toNat)
  case atStart => exact ⟨0, 0, Nat.zero_le _, rfl, rfl, by show (0 : Int) = _; simp [endF], Gq.refl _⟩
  case round =>
    obtain ⟨k, n, hk, rfl, rfl, HN, HG⟩ := hrel
    by_cases hlt : k < L.length
    case neg =>
      have hd : decide (k < L.length) = false := by simpa using hlt
      have HE : Hid (n = endF (L.map CliM.x)) := by
        show _ = _
        have := HN.out
        rwa [List.take_of_length_le (by omega)] at this
      go_wp2_with fail
      go_ret
      exact ⟨ret_int HE.out, HG.out⟩
    have hd : decide (k < L.length) = true := by simpa using hlt
    obtain ⟨b, off, rfl, hb, hc⟩ := cli_at (HR.out.below HG.out) (by omega)
    obtain ⟨d0, d1, d2, d3, d4, d5, d6⟩ := hc k hlt
    have HNX : Hid (endF ((L.take (k + 1)).map CliM.x) = max n (L[k].at_ + L[k].ln)) := by
      show _ = _
      rw [List.take_succ_eq_append_getElem hlt, List.map_append, List.map_cons, List.map_nil, endF_snoc, ← HN.out]; rfl
    have ho := HO.out _ (List.getElem_mem hlt)
    have hnb : 0 ≤ n ∧ n ≤ 200000 := by
      rw [HN.out]
      exact endF_bd _ (fun c hc => HO.out c (List.mem_of_mem_take hc))
    clear hc
    generalize L[k] = x at *
    obtain ⟨xm, xc, xf, xt, xa, xl, ⟨eA, ec, ee⟩⟩ := x
    simp only at d0 d1 d2 d3 d4 d5 d6 ho HNX
    obtain ⟨a0, a1, l0, l1⟩ := ho
    obtain ⟨s, hs⟩ : ∃ s, xa + xl = s := ⟨_, rfl⟩
    have W1 : IntKind.i64.wrap (xa + xl) = s := by rw [hs]; exact IntWalk.i64_in _ (by omega)
    rw [hs] at HNX
    have HGA : Hid (∀ o, Gq w (wr.alloc o)) := fun o => Gq.alloc HG.out o
    clear hs
    go_wp2_with fail
    go_roundw
    case rel => exact ⟨k + 1, _, by omega, by go_num, rfl, by rw [HNX.out]; show _ = _; split <;> omega, HGA.out _⟩
    case measure => simp [intOf]; omega
end Go.Proofs.YtjcdifchcmldfaaGreatDoor
