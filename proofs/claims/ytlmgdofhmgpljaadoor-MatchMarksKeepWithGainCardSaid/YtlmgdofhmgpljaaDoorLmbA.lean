/- The contracts of the reference's trim and compare. -/
import Derived.Test.YtlmgdofhmgpljaaDoorLmbP
import Derived.Test.YtlmgdofhmgpljaaDoorNt0
import Derived.Test.YtlmgdofhmgpljaaDoorProg
namespace Go.Proofs.YtlmgdofhmgpljaaDoor
open Go.RowKit Go.Dw

theorem nc_cell {w : World} {A : Option Addr} {l : List Nat} (h : Rd w A (nc l)) (h0 : 0 < l.length) :
    ∃ b off, A = some ⟨b, off, none⟩ ∧ b < w.heap.size ∧ ∀ k, k < l.length → w.cell? ⟨b, off + k, none⟩ = some (.int .i64 (l.getD k 0 : Nat)) := by
  obtain ⟨b, off, e, hb, hc⟩ := h.at_ (by rw [nc_length]; exact h0)
  exact ⟨b, off, e, hb, fun k hk => hc k _ (nc_at l k hk)⟩
theorem lim_of_trim {w : World} {A : Option Addr} {c : Nat} {l : List Nat} (h : Rd w A (nc l)) (hd : Ds L4 l) : LimV w (.slice A (trimL l).length c) (val L4 l) := by
  refine ⟨A, c, trimL l, rfl, ?_, trimL_nm hd, trimL_val l⟩
  rw [trimL_prefix l]
  rcases h with h | ⟨b, off, e, hb, hc⟩
  · have : l = [] := by simpa [nc] using h
    subst this; exact .inl rfl
  · refine .inr ⟨b, off, e, hb, fun j u hu => hc j u ?_⟩
    rw [← hu]
    have hj := (List.getElem?_eq_some_iff.1 hu).1
    simp only [nc, List.length_map, List.length_take] at hj
    simp only [nc, List.getElem?_map]
    rw [List.getElem?_take_of_lt (by omega)]
set_option maxRecDepth 100000 in
set_option maxHeartbeats 2000000 in
theorem trimR_any (A : Option Addr) (c : Nat) (l : List Nat) (w : World) (h : Rd w A (nc l)) (hl : l.length ≤ 1099511627776) (hc : l.length ≤ c) (hc2 : c ≤ 9223372036854775807) (hA : A = none → c = 0) :
    Calls Tryd.prog 40 #[.slice A l.length c] w fun e w' => e = .returned (.slice A (trimL l).length c) ∧ w = w' := by
  have HR := Lib.hid h
  clear h
  go_enter Tryd.func40, Tryd.ntmps40
  go_wp2_with fail
  go_loop [3] (fun v => ∃ k : Nat, k ≤ l.length ∧ v = .int .i64 (k : Int) ∧ Hid (trimL (l.take k) = trimL l)) (fun v => (intOf v).toNat)
  case atStart => exact ⟨l.length, Nat.le_refl _, rfl, by show _ = _; rw [List.take_length]⟩
  case round =>
    obtain ⟨k, hk, rfl, HT⟩ := hrel
    cases k with
    | zero =>
      have HE : Hid ((trimL l).length = 0) := by show _ = _; rw [← HT.out]; simp [trimL]
      cases A with
      | none =>
        have := hA rfl
        subst this
        go_wp2_with fail
        go_ret
        exact ⟨by rw [HE.out]; rfl, rfl⟩
      | some a =>
        have hc0 : (0 : Int) ≤ (c : Int) := by omega
        go_wp2_with fail
        go_ret
        exact ⟨by rw [HE.out]; rfl, rfl⟩
    | succ k =>
      obtain ⟨b, off, rfl, hb, hcs⟩ := nc_cell HR.out (by omega)
      have d0 := hcs k (by omega)
      have H1 := Lib.hid (fun h => trim_stop (l := l) (k := k) (by omega) h)
      have H2 := Lib.hid (fun h => trim_go (l := l) (k := k) (by omega) h)
      have k0 : decide ((0 : Int) < (k : Int) + 1) = true := decide_eq_true (by omega)
      have k1 : IntKind.i64.wrap ((k : Int) + 1 - 1) = (k : Int) := by rw [Int.add_sub_cancel]; exact IntWalk.i64_in _ (by omega)
      have k2 : (k : Int) + 1 - 1 = (k : Int) := by omega
      have k3 : (k : Int) < (l.length : Int) := by omega
      have k4 : (0 : Int) ≤ (k : Int) := by omega
      have k5 : (k : Int) + 1 ≤ (c : Int) := by omega
      clear hcs hA
      generalize l.getD k 0 = d at *
      by_cases hd : d = 0
      · subst hd
        go_wp2_with fail
        go_round
        case rel => exact ⟨k, by omega, by go_num, by show _ = _; rw [← H2.out rfl]; exact HT.out⟩
        case measure => simp [intOf]
      · have hd0 : ((d : Int) == 0) = false := by simpa using hd
        have HE : Hid ((trimL l).length = k + 1) := by show _ = _; rw [← HT.out, H1.out hd, List.length_take]; omega
        go_wp2_with fail
        go_ret
        exact ⟨by rw [HE.out]; rfl, rfl⟩
end Go.Proofs.YtlmgdofhmgpljaaDoor
