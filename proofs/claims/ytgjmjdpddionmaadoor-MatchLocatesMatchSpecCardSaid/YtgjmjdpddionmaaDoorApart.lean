/- The contract of match.apart. -/
import Derived.Test.YtgjmjdpddionmaaDoorOnes
import Derived.Deep.RegionHeld3
import Derived.Deep.DrawnRows
namespace Go.Dw
def apS (d : Int) : Nat := (max 0 (-d)).toNat
/-- how many places are compared -/
def apN (la lb : Nat) (d : Int) : Nat := (min (lb : Int) ((la : Int) - d) - max 0 (-d)).toNat
/-- how many bits differ at the first places -/
def apB (a b : List Int) (d : Int) : Nat → Int
  | 0 => 0
  | n + 1 => apB a b d n + bd (a.getD ((apS d + n : Nat) + d).toNat 0) (b.getD (apS d + n) 0)
theorem bd_rng (x y : Int) : 0 ≤ bd x y ∧ bd x y ≤ 8 := by
  unfold bd
  have := popN_le 8 (x.toNat ^^^ y.toNat)
  omega
theorem apB_le (a b : List Int) (d : Int) : ∀ n, 0 ≤ apB a b d n ∧ apB a b d n ≤ 8 * n
  | 0 => by simp [apB]
  | n + 1 => by
    have h1 := apB_le a b d n
    have h2 := bd_rng (a.getD ((apS d + n : Nat) + d).toNat 0) (b.getD (apS d + n) 0)
    unfold apB
    omega
end Go.Dw
namespace Go.Proofs.YtgjmjdpddionmaaDoor
open Go.RowKit Go.Dw
attribute [local go_sem ↓] Go.wp_at_zero Go.wp_at_succ

theorem mark_nat {xs : List Int} (h : xs.all okM = true) {i : Nat} (hi : i < xs.length) : ∃ a : Nat, xs[i] = (a : Int) ∧ a < 256 := by
  have := okM_t (List.all_eq_true.1 h _ (List.getElem_mem hi))
  exact ⟨xs[i].toNat, by omega, by omega⟩
set_option maxHeartbeats 1000000 in
theorem apart_any (A B : Option Addr) (ca cb : Nat) (xs ys : List Int) (d : Int) (w : World) (ha : Rd w A (ic xs)) (hb : Rd w B (ic ys)) (hxs : xs.all okM = true) (hys : ys.all okM = true) (hxl : xs.length ≤ 500) (hyl : ys.length ≤ 500) (hd1 : -1000 ≤ d) (hd2 : d ≤ 1000) :
    Calls Tryd.prog 32 #[.slice A xs.length ca, .slice B ys.length cb, .int .i64 d] w fun e w' => e = .returned (.tuple #[.int .i64 (apB xs ys d (apN xs.length ys.length d)), .int .i64 (apN xs.length ys.length d : Nat)]) ∧ ∃ n, w' = w.drewN n := by
  have HXS := Lib.hid hxs
  have HYS := Lib.hid hys
  have hmx : max 0 (-d) = ((apS d : Nat) : Int) := by unfold apS; omega
  have hSS : (apS d : Int) = max 0 (-d) := hmx.symm
  have hNN : (apN xs.length ys.length d : Int) = max 0 (min (ys.length : Int) ((xs.length : Int) - d) - max 0 (-d)) := by unfold apN; omega
  have HS2 := Lib.hid hSS
  have HN2 := Lib.hid hNN
  clear hxs hys hSS hNN
  go_enter Tryd.func32, Tryd.ntmps32
  have hdn : d < 0 ∨ 0 ≤ d := by omega
  go_wp2
  all_goals
    go_loopw [6, 7, 8] (fun dv pv kv wr => ∃ n : Nat, n ≤ apN xs.length ys.length d ∧ kv = .int .i64 ((apS d + n : Nat) : Int) ∧ pv = .int .i64 (n : Int) ∧ dv = .int .i64 (apB xs ys d n) ∧ ∃ m, wr = w.drewN m) (fun _ pv _ _ => apN xs.length ys.length d - (intOf pv).toNat)
    case atStart =>
      have hs2 := HS2.out
      exact ⟨0, Nat.zero_le _, by congr 1; omega, rfl, rfl, 0, rfl⟩
    case round =>
      obtain ⟨n, hn, rfl, rfl, rfl, m, rfl⟩ := hrel
      have hs2 := HS2.out
      have hn2 := HN2.out
      have hle := apB_le xs ys d n
      have hn5 : n ≤ 500 := by omega
      by_cases hlt : n < apN xs.length ys.length d
      · have h1 : apS d + n < ys.length := by omega
        have h2 : ((apS d + n : Nat) : Int) + d < xs.length := by omega
        have h3 : 0 ≤ ((apS d + n : Nat) : Int) + d := by omega
        have HST : Hid (apB xs ys d (n + 1) = apB xs ys d n + bd (xs.getD ((apS d + n : Nat) + d).toNat 0) (ys.getD (apS d + n) 0)) := rfl
        obtain ⟨k, hk⟩ : ∃ k : Nat, apS d + n = k := ⟨_, rfl⟩
        rw [hk] at h1 h2 h3 HST
        rw [hk]
        obtain ⟨i, hi⟩ := Int.eq_ofNat_of_zero_le h3
        have hil : i < xs.length := by omega
        rw [hi, Int.toNat_natCast] at HST
        obtain ⟨a, hae, ha2⟩ := mark_nat HXS.out hil
        obtain ⟨b, hbe, hb2⟩ := mark_nat HYS.out h1
        have g1 : xs.getD i 0 = (a : Int) := by rw [List.getD_eq_getElem?_getD, List.getElem?_eq_getElem hil, Option.getD_some, hae]
        have g2 : ys.getD k 0 = (b : Int) := by rw [List.getD_eq_getElem?_getD, List.getElem?_eq_getElem h1, Option.getD_some, hbe]
        rw [g1, g2] at HST
        obtain ⟨ba, oa, rfl, hba, hca⟩ := ha.at_ (by simp [ic_length]; omega)
        obtain ⟨bb, ob, rfl, hbb, hcb⟩ := hb.at_ (by simp [ic_length]; omega)
        have c1 := hca i _ (ic_at xs i hil)
        have c2 := hcb k _ (ic_at ys k h1)
        rw [hae] at c1
        rw [hbe] at c2
        have HX := xor_nat a b ha2 hb2
        have hx := xor_lt a b ha2 hb2
        have HBD : Hid (bd (a : Int) (b : Int) = (popN 8 (a ^^^ b) : Int)) := by show _ = _; unfold bd; rw [Int.toNat_natCast, Int.toNat_natCast]
        generalize a ^^^ b = x0 at *
        have hbd := popN_le 8 x0
        have HO := Lib.hid (fun W => ones_any x0 W hx)
        have hw0 : wrap64 ((k : Int) + d) = (i : Int) := by rw [hi]; exact IntWalk.wrap64_in _ (by omega)
        have hw0' : IntKind.i64.wrap ((k : Int) + d) = (i : Int) := by rw [hi]; exact IntWalk.i64_in _ (by omega)
        have hw1 : IntKind.i64.wrap (apB xs ys d n + (popN 8 x0 : Int)) = apB xs ys d n + (popN 8 x0 : Int) := IntWalk.i64_in _ (by omega)
        have hw3 : IntKind.u64.wrap (x0 : Int) = (x0 : Int) := by
          show (x0 : Int) % 18446744073709551616 = _
          omega
        have hd3 : decide ((k : Int) < (ys.length : Int)) = true := by simpa using h1
        have hd3' : decide (k < ys.length) = true := by simpa using h1
        have hd4 : decide ((i : Int) < (xs.length : Int)) = true := by simpa using hil
        have hd4' : decide (i < xs.length) = true := by simpa using hil
        have i1 : (i : Int) < (xs.length : Int) := by omega
        have i2 : (k : Int) < (ys.length : Int) := by omega
        have i3 : (0 : Int) ≤ (i : Int) := by omega
        have i4 : (0 : Int) ≤ (k : Int) := by omega
        have HK := Lib.hid hk
        have HI := Lib.hid hi
        clear hca hcb ha hb hae hbe g1 g2 hs2 hn2 hmx hi h2 h3 hk
        go_wp2_with fail
        go_region_held3 (fun W => W.cell? ⟨ba, oa + i, none⟩ = some (.int .i64 (a : Int)) ∧ W.cell? ⟨bb, ob + k, none⟩ = some (.int .i64 (b : Int)))
          (first | assumption | go_keep)
          (first | (go_at_call 42; refine (HO.out _).mono ?_; rintro e w' ⟨rfl, rfl⟩))
        all_goals
          go_wp2
          go_roundw
          case rel => exact ⟨n + 1, hlt, by rw [← Nat.add_assoc, HK.out]; go_num, by go_num, by rw [HST.out, HBD.out], m + 1, rfl⟩
          case measure => simp [intOf]; omega
      · have hne : n = apN xs.length ys.length d := by omega
        subst hne
        by_cases h1 : apS d + apN xs.length ys.length d < ys.length
        · have h2 : ¬ ((apS d + apN xs.length ys.length d : Nat) : Int) + d < xs.length := by omega
          have hw0 : wrap64 (((apS d + apN xs.length ys.length d : Nat) : Int) + d) = ((apS d + apN xs.length ys.length d : Nat) : Int) + d := IntWalk.wrap64_in _ (by omega)
          have hd3 : decide (((apS d + apN xs.length ys.length d : Nat) : Int) < (ys.length : Int)) = true := by simp; omega
          have hd4 : decide (((apS d + apN xs.length ys.length d : Nat) : Int) + d < (xs.length : Int)) = false := by simp; omega
          clear hs2 hn2 hmx ha hb
          go_wp2_with fail
          go_ret2
          exact ⟨rfl, m, rfl⟩
        · have hd3 : decide (((apS d + apN xs.length ys.length d : Nat) : Int) < (ys.length : Int)) = false := by simp; omega
          clear hs2 hn2 hmx ha hb
          go_wp2_with fail
          go_ret2
          exact ⟨rfl, m, rfl⟩
end Go.Proofs.YtgjmjdpddionmaaDoor
