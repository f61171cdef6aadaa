/- The contract of (*chooser).then. -/
import Derived.Test.YtdgkchdobmhpnaaTab
import Derived.Test.YtdgkchdobmhpnaaProg
namespace Go.Proofs.Ytdgkchdobmhpnaa
open Go.RowKit Go.Dw

def NONE : Int := -1152921504606846976
/-- an entry of a table -/
def en (rows : List (List Int)) (u c : Nat) : Int := (rows.getD u []).getD c 0
/-- what the sections behind one are worth at most if the next one has the take u -/
def thn (rows : List (List Int)) (cost : Int) (t c u : Nat) : Int :=
  if u = t then en rows u c else if c = 0 then NONE else if en rows u (c - 1) = NONE then NONE else en rows u (c - 1) - cost
theorem en_at {rows : List (List Int)} {u c : Nat} (hu : u < rows.length) (hc : c < rows[u].length) : en rows u c = rows[u][c] := by
  unfold en
  rw [List.getD_eq_getElem?_getD (l := rows), List.getElem?_eq_getElem hu]
  simp [hc]
/-- the entries of a table are in bounds -/
def TabB (M : Nat) (rows : List (List Int)) : Prop := ∀ u, u < rows.length → (rows.getD u []).length = M + 1 ∧ ∀ c, c ≤ M → -1152921504606846976 ≤ en rows u c ∧ en rows u c ≤ 1000000000
theorem getRow {rows : List (List Int)} {u : Nat} (hu : u < rows.length) : rows.getD u [] = rows[u] := by
  rw [List.getD_eq_getElem?_getD, List.getElem?_eq_getElem hu]; rfl

set_option maxHeartbeats 1000000 in
theorem then_any (S : Nat → Prop) (KB O n : Nat) (cost : Int) (s t c u M : Nat) (rows : List (List Int)) (v1 : Value) (w : World)
    (hk2 : w.cell? ⟨KB, 2, none⟩ = some (.int .i64 cost)) (hk4 : w.cell? ⟨KB, 4, none⟩ = some (.slice (some ⟨O, 0, none⟩) n n)) (ho : w.cell? ⟨O, s + 1, none⟩ = some v1)
    (hr : RdIIs S w v1 rows) (hs : s + 1 < n) (hn : n ≤ 1000) (hu : u < rows.length) (_ : rows.length ≤ 1000) (_ : t ≤ 1000) (hc : c ≤ M) (hM : M ≤ 1000) (hT : TabB M rows) (hc0 : 0 ≤ cost) (hc1 : cost ≤ 1000000) :
    Calls Try.prog 37 #[.pointer (some ⟨KB, 0, none⟩), .int .i64 s, .int .i64 t, .int .i64 c, .int .i64 u] w fun e w' => e = .returned (.int .i64 (thn rows cost t c u)) ∧ ∃ nq, w' = w.drewN nq := by
  obtain ⟨hlen, hb⟩ := hT u hu
  rw [getRow hu] at hlen
  have hb1 := hb c hc
  have hb2 := hb (c - 1) (by omega)
  clear hb hT
  by_cases hut : u = t
  · obtain ⟨b, off, c1, b2, off2, c2, rfl, h1, h2⟩ := hr.at_ hu (show c < rows[u].length by omega)
    rw [← en_at hu (by omega)] at h2
    have hE : thn rows cost t c u = en rows u c := by unfold thn; rw [if_pos hut]
    have HE := Lib.hid hE
    have hne : ((u : Int) != (t : Int)) = false := by simp; omega
    have HUT := Lib.hid hut
    generalize hl : rows[u].length = ln at *
    have HL := Lib.hid hl
    have hcl : c < ln := by omega
    generalize en rows u c = ev at *
    clear hr hlen hut hE hb2
    by_cases hN : ev = NONE
    · have h3 : (ev == -1152921504606846976) = true := by simpa [NONE] using hN
      have HN := Lib.hid hN
      clear hN hl
      go_enter Try.func37, Try.ntmps37
      go_wp2
      go_ret
      exact ⟨ret_int (by rw [HE.out, HN.out]; rfl), 0, rfl⟩
    · have h3 : (ev == -1152921504606846976) = false := by simpa [NONE] using hN
      have HN := Lib.hid hN
      clear hN hl
      go_enter Try.func37, Try.ntmps37
      go_wp2
      go_ret
      exact ⟨ret_int (by rw [HE.out]), 0, rfl⟩
  · have hne : ((u : Int) != (t : Int)) = true := by simp; omega
    have HUT := Lib.hid hut
    by_cases hc00 : c = 0
    · have hE : thn rows cost t c u = NONE := by unfold thn; rw [if_neg hut, if_pos hc00]
      have HE := Lib.hid hE
      have hcn : (c : Int) - 1 < 0 := by omega
      clear hr hlen hut hE hb2 hb1
      go_enter Try.func37, Try.ntmps37
      go_wp2
      have hwr : IntKind.i64.wrap ((c : Int) - 1) = (c : Int) - 1 := IntWalk.i64_in _ (by omega)
      go_quiet (fail)
      clear hwr
      go_wp2
      go_ret
      exact ⟨ret_int (by rw [HE.out]; rfl), _, rfl⟩
    · obtain ⟨b, off, c1, b2, off2, c2, rfl, h1, h2⟩ := hr.at_ hu (show c - 1 < rows[u].length by omega)
      rw [← en_at hu (by omega)] at h2
      have hE : thn rows cost t c u = if en rows u (c - 1) = NONE then NONE else en rows u (c - 1) - cost := by unfold thn; rw [if_neg hut, if_neg hc00]
      have HE := Lib.hid hE
      generalize hl : rows[u].length = ln at *
      have HL := Lib.hid hl
      have hcl : c - 1 < ln := by omega
      have hcl' : (c : Int) - 1 < (ln : Int) := by omega
      have hc1' : (1 : Int) ≤ (c : Int) := by omega
      have hci : ((c : Int) - 1).toNat = c - 1 := by omega
      generalize en rows u (c - 1) = ev at *
      clear hr hlen hut hE hb1 hc00
      by_cases hN : ev = NONE
      · have h3 : (ev == -1152921504606846976) = true := by simpa [NONE] using hN
        have HN := Lib.hid hN
        clear hN hl
        go_enter Try.func37, Try.ntmps37
        go_wp2
        have hwr : IntKind.i64.wrap ((c : Int) - 1) = (c : Int) - 1 := IntWalk.i64_in _ (by omega)
        go_quiet (fail)
        clear hwr
        go_wp2
        go_ret
        exact ⟨ret_int (by rw [HE.out, if_pos HN.out]; rfl), _, rfl⟩
      · have h3 : (ev == -1152921504606846976) = false := by simpa [NONE] using hN
        have HN := Lib.hid hN
        clear hN hl
        go_enter Try.func37, Try.ntmps37
        go_wp2
        have hwr : IntKind.i64.wrap ((c : Int) - 1) = (c : Int) - 1 := IntWalk.i64_in _ (by omega)
        go_quiet (fail)
        clear hwr
        go_wp2
        go_ret
        exact ⟨ret_int (by rw [HE.out, if_neg HN.out]), _, rfl⟩
end Go.Proofs.Ytdgkchdobmhpnaa
