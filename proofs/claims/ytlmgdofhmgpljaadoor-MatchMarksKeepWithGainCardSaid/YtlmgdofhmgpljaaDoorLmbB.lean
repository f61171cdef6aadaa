/- The contract of the reference's compare. -/
import Derived.Test.YtlmgdofhmgpljaaDoorLmbA
namespace Go.Proofs.YtlmgdofhmgpljaaDoor
open Go.RowKit Go.Dw

set_option maxRecDepth 100000 in
set_option maxHeartbeats 2000000 in
theorem cmpR_any (va vb : Value) (a b : Nat) (w : World) (h : LimV w va a) (g : LimV w vb b) (k : Nat) (hk : Lim k a) (gk : Lim k b) (hk2 : k ≤ 1099511627776) :
    Calls Tryd.prog 26 #[va, vb] w (CmpRes a b w) := by
  obtain ⟨A, c, l, rfl, hr, hn, rfl⟩ := h
  obtain ⟨B, d, m, rfl, gr, gn, rfl⟩ := g
  have hL := Lim.len4 hn hk
  have gL := Lim.len4 gn gk
  have HR := Lib.hid hr
  have GR := Lib.hid gr
  have HLT : Hid (l.length < m.length → cmpN (val L4 l) (val L4 m) = -1) := fun e => cmpN_lt (Nm.lt_of_len (by decide) hn.1 gn e)
  have HGT : Hid (m.length < l.length → cmpN (val L4 l) (val L4 m) = 1) := fun e => cmpN_gt (Nm.lt_of_len (by decide) gn.1 hn e)
  have HAT : Hid (∀ k, m.length = l.length → k < l.length → l.drop (k + 1) = m.drop (k + 1) → (l.getD k 0 < m.getD k 0 → cmpN (val L4 l) (val L4 m) = -1) ∧ (m.getD k 0 < l.getD k 0 → cmpN (val L4 l) (val L4 m) = 1)) :=
    fun k hlm hkl hd => ⟨fun e => cmpN_lt (val_lt_at (by decide) hlm.symm hn.1 hkl hd e), fun e => cmpN_gt (val_lt_at (by decide) hlm gn.1 (by omega) hd.symm e)⟩
  have HEQ : Hid (l = m → cmpN (val L4 l) (val L4 m) = 0) := fun e => by rw [e]; exact cmpN_eq _
  clear hr gr hn gn hk gk
  unfold CmpRes
  generalize cmpN (val L4 l) (val L4 m) = r at *
  by_cases hlm : m.length = l.length
  case neg =>
    have ht : ((l.length : Int) != (m.length : Int)) = true := by simp; omega
    by_cases hlt : l.length < m.length
    · have e := HLT.out hlt
      subst e
      clear HLT HGT HAT HEQ
      go_enter Tryd.func26, Tryd.ntmps26
      go_wp2
      go_ret
      exact ⟨rfl, Qd.refl _⟩
    · have e := HGT.out (by omega)
      subst e
      clear HLT HGT HAT HEQ
      go_enter Tryd.func26, Tryd.ntmps26
      go_wp2
      go_ret
      exact ⟨rfl, Qd.refl _⟩
  case pos =>
    have HLM := Lib.hid hlm
    rw [hlm]
    generalize hLL : l.length = L at *
    clear hlm HLT HGT
    have HLL := Lib.hid hLL
    clear hLL
    go_enter Tryd.func26, Tryd.ntmps26
    go_wp2
    go_loopw [5] (fun v wr => ((∃ k : Nat, k < L ∧ v = .int .i64 (k : Int) ∧ Hid (l.drop (k + 1) = m.drop (k + 1))) ∨ (v = .int .i64 (-1) ∧ Hid (l = m))) ∧ Qd w wr) (fun v _ => (intOf v + 1).toNat)
    case atStart =>
      refine ⟨?_, Qd.refl _⟩
      cases L with
      | zero =>
        refine .inr ⟨by simp, ?_⟩
        show _ = _
        rw [List.eq_nil_of_length_eq_zero HLL.out, List.eq_nil_of_length_eq_zero HLM.out]
      | succ K =>
        refine .inl ⟨K, by omega, by go_num, ?_⟩
        show _ = _
        rw [List.drop_of_length_le (by have := HLL.out; omega), List.drop_of_length_le (by have := HLM.out; omega)]
    case round =>
      obtain ⟨hrel, q, rfl⟩ := hrel
      rcases hrel with ⟨k, hk, rfl, HD⟩ | ⟨rfl, HE⟩
      · obtain ⟨b1, o1, rfl, hb1, hc1⟩ := nc_cell HR.out (by have := HLL.out; omega)
        obtain ⟨b2, o2, rfl, hb2, hc2⟩ := nc_cell GR.out (by have := HLM.out; omega)
        have d1 := hc1 k (by have := HLL.out; omega)
        have d2 := hc2 k (by have := HLM.out; omega)
        have HA := Lib.hid (HAT.out k (by have := HLM.out; have := HLL.out; omega) (by have := HLL.out; omega) HD.out)
        have HN : Hid (l.getD k 0 = m.getD k 0 → l.drop k = m.drop k) := fun e => by
          have q1 := HLL.out
          have q2 := HLM.out
          have h1 : k < l.length := by omega
          have h2 : k < m.length := by omega
          rw [List.getD_eq_getElem?_getD, List.getD_eq_getElem?_getD, List.getElem?_eq_getElem h1, List.getElem?_eq_getElem h2] at e
          rw [List.drop_eq_getElem_cons h1, List.drop_eq_getElem_cons h2, HD.out]
          simp only [Option.getD_some] at e
          rw [e]
        clear hc1 hc2
        generalize l.getD k 0 = x at *
        generalize m.getD k 0 = y at *
        have z0 : (0 : Int) ≤ (k : Int) := by omega
        have z1 : (k : Int) < (L : Int) := by omega
        rcases Nat.lt_trichotomy x y with hxy | hxy | hxy
        · have e := HA.out.1 hxy
          subst e
          have t1 : ((x : Int) != (y : Int)) = true := by simp; omega
          clear HA HN HAT HEQ
          go_wp2
          go_quiet (fail)
          go_wp2
          go_ret
          exact ⟨rfl, Qd.more ⟨_, rfl⟩ _⟩
        · subst hxy
          have HM := Lib.hid (HN.out rfl)
          clear HA HN
          go_wp2
          go_quiet (fail)
          go_wp2
          go_quiet (fail)
          go_wp2
          go_roundw
          case rel =>
            refine ⟨?_, ⟨_, rfl⟩⟩
            cases k with
            | zero => exact .inr ⟨by simp, by show _ = _; have := HM.out; simpa using this⟩
            | succ j => exact .inl ⟨j, by omega, by go_num, HM.out⟩
          case measure => simp [intOf]
        · have e := HA.out.2 hxy
          subst e
          have t1 : ((x : Int) != (y : Int)) = true := by simp; omega
          clear HA HN HAT HEQ
          go_wp2
          go_quiet (fail)
          go_wp2
          go_quiet (fail)
          go_wp2
          go_ret
          exact ⟨rfl, Qd.more (Qd.more ⟨_, rfl⟩ _) _⟩
      · have e := HEQ.out HE.out
        subst e
        go_wp2
        go_ret
        exact ⟨rfl, _, rfl⟩
end Go.Proofs.YtlmgdofhmgpljaaDoor
