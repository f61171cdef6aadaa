/- The contract of match.Pairs. -/
import Derived.Test.YtdgkchdobmhpnaaPairsB
import Derived.Test.YtdgkchdobmhpnaaMatchA
namespace Go.Proofs.Ytdgkchdobmhpnaa
open Go.RowKit Go.Dw

theorem info_pair : (Try.prog.info? 37).map (fun i => (i.zero, i.size, i.bytes)) = some (some (.agg #[.int .i64 0, .int .i64 0]), 2, 16) := by kernel_rfl
def okL (p : Int × Int) : Bool := decide (0 ≤ p.1 ∧ p.1 ≤ 500) && decide (0 ≤ p.2 ∧ p.2 ≤ 500)
def scal (part : Int) (p : Int × Int) : Int × Int := (p.1 * part, p.2 * part)
/-- Pairs: the pairs and the fault -/
def prR (l : List (Int × Int)) (part : Int) : List (Int × Int) × Int :=
  if 300 < l.length then ([], 2) else if ¬ (1 ≤ part ∧ part ≤ 100000) then ([], 1) else
  if l.all okL then (if cp (l.map (scal part)) = 0 then (l.map (scal part), 0) else ([], cp (l.map (scal part)))) else ([], 1)
theorem prR_2 {l : List (Int × Int)} {part : Int} (h : 300 < l.length) : prR l part = ([], 2) := by simp [prR, h]
theorem prR_1 {l : List (Int × Int)} {part : Int} (h : ¬ 300 < l.length) (hp : ¬ (1 ≤ part ∧ part ≤ 100000)) : prR l part = ([], 1) := by
  unfold prR; rw [if_neg h, if_pos hp]
theorem prR_bad {l : List (Int × Int)} {part : Int} (h : ¬ 300 < l.length) (hp : 1 ≤ part ∧ part ≤ 100000) {k : Nat} (hk : k < l.length) (hv : okL l[k] = false) : prR l part = ([], 1) := by
  have : l.all okL = false := by
    rw [List.all_eq_false]; exact ⟨l[k], List.getElem_mem hk, by simp [hv]⟩
  unfold prR; rw [if_neg h, if_neg (fun hh => hh hp), this]; rfl
theorem prR_cp {l : List (Int × Int)} {part : Int} (h : ¬ 300 < l.length) (hp : 1 ≤ part ∧ part ≤ 100000) (ha : l.all okL = true) :
    prR l part = if cp (l.map (scal part)) = 0 then (l.map (scal part), 0) else ([], cp (l.map (scal part))) := by
  unfold prR; rw [if_neg h, if_neg (fun hh => hh hp), ha]; rfl
theorem okL_t {a b : Int} (h : okL (a, b) = true) : 0 ≤ a ∧ a ≤ 500 ∧ 0 ≤ b ∧ b ≤ 500 := by simp [okL] at h; omega
theorem okL_f {a b : Int} (h : okL (a, b) = false) : ¬ (0 ≤ a ∧ a ≤ 500 ∧ 0 ≤ b ∧ b ≤ 500) := by simp [okL] at h; omega
theorem map_take_succ {α β : Type} (f : α → β) (l : List α) (k : Nat) (h : k < l.length) : (l.take (k + 1)).map f = (l.take k).map f ++ [f l[k]] := by
  rw [List.take_succ_eq_append_getElem h, List.map_append]; rfl
def PrRes (w : World) (r : List (Int × Int) × Int) (e : Ending) (w' : World) : Prop :=
  ∃ A c, e = .returned (.tuple #[.slice A r.1.length c, .int .i64 r.2]) ∧ Rd w' A (pc r.1) ∧ Below w.heap.size w w'
theorem PrRes.mk0 {w w' : World} {l : List (Int × Int)} {part f : Int} (h : prR l part = ([], f)) (hb : Below w.heap.size w w') : PrRes w (prR l part) (.returned (.tuple #[.slice none 0 0, .int .i64 f])) w' :=
  ⟨none, 0, by rw [h]; rfl, .inl (by rw [h]; rfl), hb⟩
theorem below_app2 {B e size n : Nat} {w wr w1 : World} {o o2 : Obj} {v : Value} {xs : List Value} (hbel : Below B w wr) (hsz : B ≤ wr.heap.size)
    (hown : wr.ownsRow B e size v n xs) (hg : ((wr.alloc o).alloc o2).grownBy w1 v.ownBlock) : Below B w w1 :=
  below_app' (hbel.alloc hsz o) (by simp; omega) (hown.alloc o) hg

set_option maxHeartbeats 1000000 in
theorem pairs_any (A : Option Addr) (c : Nat) (l : List (Int × Int)) (part : Int) (w : World) (h : Rd w A (pc l)) (hn : l.length ≤ 9223372036854775807) :
    Calls Try.prog 15 #[.slice A l.length c, .int .i64 part] w (PrRes w (prR l part)) := by
  obtain ⟨i0, hi0, hz0, hz1, hz2⟩ := info_parts info_pair
  by_cases hl : 300 < l.length
  · go_enter Try.func15, Try.ntmps15
    go_wp2
    go_ret2
    exact PrRes.mk0 (prR_2 hl) (Below.refl _ _)
  by_cases hp : 1 ≤ part ∧ part ≤ 100000
  case neg =>
    rcases (show part < 1 ∨ (¬ part < 1 ∧ 100000 < part) by omega) with hp1 | hp1
    all_goals
      go_enter Try.func15, Try.ntmps15
      go_wp2
      go_ret2
      exact PrRes.mk0 (prR_1 hl hp) (Below.refl _ _)
  have HP := Lib.hid hp
  obtain ⟨hp1, hp2⟩ := hp
  go_enter Try.func15, Try.ntmps15
  go_wp2
  go_loopw [6, 21] (fun v i wr => ∃ k : Nat, k ≤ l.length ∧ i = .int .i64 k ∧ Hid ((l.take k).all okL = true) ∧ wr.ownsRow w.heap.size 37 2 v ((l.take k).map (scal part)).length (pc ((l.take k).map (scal part))) ∧ Below w.heap.size w wr) (fun _ i _ => l.length - (intOf i).toNat)
  case atStart => exact ⟨0, Nat.zero_le _, rfl, rfl, World.ownsRow_nil _ _ _ _, Below.refl _ _⟩
  case round =>
    obtain ⟨k, hk, rfl, hall, hown, hbel⟩ := hrel
    by_cases hlt : k < l.length
    · obtain ⟨b, off, rfl, hbb, hc⟩ := h.at_ (by rw [pc_length]; omega)
      have hc1 := hc _ _ (pc_at l k hlt).1
      have hc2 := hc _ _ (pc_at l k hlt).2
      rw [← hbel.cell (by exact hbb)] at hc1 hc2
      rw [← Nat.add_assoc] at hc2
      have hsz := hbel.size
      have HN := Lib.hid (all_take_succ okL l k hlt)
      have HM := Lib.hid (map_take_succ (scal part) l k hlt)
      have HBD := Lib.hid (@prR_bad l part hl HP.out k hlt)
      clear hc
      generalize l[k] = p at *
      obtain ⟨pa, pb⟩ := p
      simp only at hc1 hc2
      cases hv : okL (pa, pb) with
      | false =>
        have hb3 := okL_f hv
        have HV := Lib.hid hv
        have HB1 := Lib.hid (hbel.alloc hsz (.cells #[.int .i64 pa, .int .i64 pb] 52))
        clear hv
        rcases (show pa < 0 ∨ (¬ pa < 0 ∧ 500 < pa) ∨ (¬ pa < 0 ∧ ¬ 500 < pa ∧ pb < 0) ∨ (¬ pa < 0 ∧ ¬ 500 < pa ∧ ¬ pb < 0 ∧ 500 < pb) by omega) with h3 | h3 | h3 | h3
        all_goals
          go_wp2
          go_ret2
          exact PrRes.mk0 (HBD.out HV.out) HB1.out
      | true =>
        obtain ⟨h3, h4, h5, h6⟩ := okL_t hv
        have HV := Lib.hid hv
        have hm1 : 0 ≤ pa * part := Int.mul_nonneg h3 (by omega)
        have hm2 : pa * part ≤ 500 * 100000 := Int.mul_le_mul h4 hp2 (by omega) (by omega)
        have hm3 : 0 ≤ pb * part := Int.mul_nonneg h5 (by omega)
        have hm4 : pb * part ≤ 500 * 100000 := Int.mul_le_mul h6 hp2 (by omega) (by omega)
        have hlen : ((l.take k).map (scal part)).length ≤ 300 := by rw [List.length_map, List.length_take]; omega
        clear hv
        go_wp2_with (at_builtin; refine wpList_append_own _ rfl _ _ 32 rfl w.heap.size 37 i0 _ 2 16 Try.underlying32 hi0 hz0 hz1 hz2 rfl (by decide) _ _ _ rfl ((hown.alloc _).alloc _) ⟨wr.heap.size + 1, 0, none⟩ 1 1 [.int .i64 (pa * part), .int .i64 (pb * part)] (by rfl) (by rfl) (World.news_of_block (cs := #[.int .i64 (pa * part), .int .i64 (pb * part)]) (t := 37) (fr := (0, 0)) (by simpa using heap_alloc_new (wr.alloc _) _)) (by simp [Value.oneCell']) (by unfold maxLen; omega) (by omega) (by simp; omega) ?_; intro v1 w1 hown1 hgrow1 _)
        have hb2 := below_app2 hbel hsz hown hgrow1
        clear hown
        go_wp2_with fail
        go_roundw
        case rel => exact ⟨k + 1, by omega, by go_num, by show _ = _; rw [HN.out, hall.out, HV.out]; rfl, owns_eq hown1 (by rw [HM.out]; simp) (by rw [HM.out, pc_append]; rfl), hb2⟩
        case measure => simp [intOf]; omega
    · have hfull : l.take k = l := List.take_of_length_le (by omega)
      rw [hfull] at hown
      have hall2 : l.all okL = true := by have := hall.out; rw [hfull] at this; exact this
      have HR := Lib.hid (prR_cp hl HP.out hall2)
      clear hfull hall2
      obtain ⟨A2, c2, rfl⟩ := slice_of_own hown
      have hrd := Rd.of_own hown
      have hlen : (l.map (scal part)).length ≤ 9223372036854775807 := by rw [List.length_map]; omega
      generalize l.map (scal part) = ps at *
      go_wp2_with fail
      refine (checkPairs_any A2 c2 ps _ hrd hlen).mono ?_
      rintro e w2 ⟨rfl, hb2⟩
      have hrd2 := hrd.below hb2
      have HB2 := Lib.hid (hbel.trans (hb2.mono hbel.size))
      clear hb2
      by_cases hcp : cp ps = 0
      · have h0 : (cp ps != 0) = false := by simp [hcp]
        have HC := Lib.hid hcp
        clear hcp
        go_wp2_with fail
        go_ret2
        have h3 := HR.out
        rw [if_pos HC.out] at h3
        exact ⟨A2, c2, by rw [h3]; rfl, by rw [h3]; exact hrd2, HB2.out⟩
      · have h0 : (cp ps != 0) = true := by simp [hcp]
        have HC := Lib.hid hcp
        clear hcp
        go_wp2_with fail
        go_ret2
        have h3 := HR.out
        rw [if_neg HC.out] at h3
        exact PrRes.mk0 h3 HB2.out
end Go.Proofs.Ytdgkchdobmhpnaa
