/- The contract of edit.readNumbers. -/
import Derived.Test.YtpiiickhfcjnmaaGreatDoorRedA
import Derived.Test.YtpiiickhfcjnmaaGreatDoorPlnA
import Derived.Test.YtpiiickhfcjnmaaGreatDoorStrZ
import Derived.Test.YtpiiickhfcjnmaaGreatDoorNumB
namespace Go.Proofs.YtpiiickhfcjnmaaGreatDoor
open Go.RowKit Go.Dw

theorem nums_snoc {x : List UInt8} {n : Nat} (hx : numE x = some n) : ∀ {a : List (List UInt8)} {ns : List Nat}, numsE a = some ns → numsE (a ++ [x]) = some (ns ++ [n])
  | [], ns, h => by
    injection h with h
    subst h
    show numsE [x] = _
    rw [numsE, hx]; rfl
  | y :: a, ns, h => by
    rw [numsE] at h
    rw [List.cons_append, numsE]
    cases hy : numE y with
    | none => rw [hy] at h; cases h
    | some m =>
      rw [hy] at h
      cases ha : numsE a with
      | none => rw [ha] at h; cases h
      | some ms =>
        rw [ha] at h
        injection h with h
        subst h
        simp only
        rw [nums_snoc hx ha]; rfl
theorem nums_stop {x : List UInt8} (r : List (List UInt8)) (hx : numE x = none) : ∀ (a : List (List UInt8)), numsE (a ++ x :: r) = none
  | [] => by
    show numsE (x :: r) = none
    rw [numsE, hx]
  | y :: a => by
    rw [List.cons_append, numsE]
    cases hy : numE y with
    | none => rfl
    | some m =>
      simp only
      rw [nums_stop r hx a]; rfl
theorem nums_len : ∀ {a : List (List UInt8)} {ns : List Nat}, numsE a = some ns → ns.length = a.length
  | [], ns, h => by injection h with h; subst h; rfl
  | y :: a, ns, h => by
    rw [numsE] at h
    cases hy : numE y with
    | none => rw [hy] at h; cases h
    | some m =>
      rw [hy] at h
      cases ha : numsE a with
      | none => rw [ha] at h; cases h
      | some ms =>
        rw [ha] at h
        injection h with h
        subst h
        simp [nums_len ha]
theorem infoInt : (Tryz.prog.info? 3).map (fun i => (i.zero, i.size, i.bytes)) = some (some (.int .i64 0), 1, 8) := by kernel_rfl
/-- what readNumbers says -/
def NumsR (w : World) (r : Option (List Nat)) (e : Ending) (w' : World) : Prop :=
  Below w.heap.size w w' ∧ match r with
    | none => e = .returned (.tuple #[.slice none 0 0, .bool false])
    | some ns => ∃ A c, e = .returned (.tuple #[.slice A ns.length c, .bool true]) ∧ RdS (fun b => w.heap.size ≤ b) w' A (nc ns)
theorem numsR_none {w w' : World} {r : Option (List Nat)} {e : Ending} (h : r = none) (hb : Below w.heap.size w w') (he : e = .returned (.tuple #[.slice none 0 0, .bool false])) : NumsR w r e w' := by
  subst h; exact ⟨hb, he⟩
theorem numsR_some {w w' : World} {r : Option (List Nat)} {e : Ending} {ns : List Nat} {A : Option Addr} {c : Nat} (h : r = some ns) (hb : Below w.heap.size w w') (hr : RdS (fun b => w.heap.size ≤ b) w' A (nc ns)) (he : e = .returned (.tuple #[.slice A ns.length c, .bool true])) : NumsR w r e w' := by
  subst h; exact ⟨hb, A, c, he, hr⟩
set_option maxRecDepth 100000 in
set_option maxHeartbeats 4000000 in
theorem readNumbers_any (A : Option Addr) (c : Nat) (P : List (List UInt8)) (w : World) (h : Rd w A (sc P)) (hl : P.length ≤ 1048577) (hz : ∀ p ∈ P, p.length ≤ 1048576) :
    Calls Tryz.prog 25 #[.slice A P.length c] w (NumsR w (numsE P)) := by
  obtain ⟨ii, hii, hzi0, hzi1, hzi2⟩ := info_parts infoInt
  obtain ⟨RF, hRF⟩ : ∃ RF, numsE P = RF := ⟨_, rfl⟩
  have HRF := Lib.hid hRF
  have HH := Lib.hid h
  have HZ := Lib.hid hz
  rw [hRF]
  clear hRF h hz
  go_enter Tryz.func25, Tryz.ntmps25
  go_wp2_with fail
  go_loopw [4, 11] (fun ov iv wr => ∃ (k : Nat) (ns : List Nat) (A5 : Option Addr) (c5 : Nat), k ≤ P.length ∧ iv = .int .i64 (k : Int) ∧ ov = .slice A5 ns.length c5 ∧ Hid (numsE (P.take k) = some ns) ∧ Hid (wr.ownsRow w.heap.size 3 1 (.slice A5 ns.length c5) ns.length (nc ns)) ∧ Hid (Below w.heap.size w wr)) (fun _ iv _ => P.length - (intOf iv).toNat)
  case atStart => exact ⟨0, [], none, 0, Nat.zero_le _, rfl, rfl, rfl, World.ownsRow_nil _ _ _ _, Below.refl _ _⟩
  case round =>
    obtain ⟨k, ns, A5, c5, hk, rfl, rfl, HN, HO, HB⟩ := hrel
    by_cases hlt : k < P.length
    case neg =>
      have hd : decide (k < P.length) = false := by simpa using hlt
      have HE : Hid (RF = some ns) := by
        show _ = _
        have := HN.out
        rw [List.take_of_length_le (by omega)] at this
        rw [← HRF.out, this]
      have HR : Hid (RdS (fun b => w.heap.size ≤ b) wr A5 (nc ns)) := by
        rcases HO.out.2 with ⟨h0, h1⟩ | ⟨g, cap, cur, hv, hb, hg, _⟩
        · exact .inl (List.eq_nil_of_length_eq_zero (by rw [HO.out.1, h1]))
        · injection hv with hv1 hv2 hv3
          subst hv1
          refine .inr ⟨g, 0, rfl, hb, (Array.getElem?_eq_some_iff.1 hg).1, fun j u hu => ?_⟩
          have := HO.out.cells (g := g) rfl j u hu
          have hadd : (⟨g, 0, none⟩ : Addr).add j = ⟨g, 0 + j, none⟩ := by unfold Addr.add; split <;> simp_all
          rw [← hadd]; exact this
      go_wp2_with fail
      go_ret2
      exact numsR_some HE.out HB.out HR.out rfl
    have hd : decide (k < P.length) = true := by simpa using hlt
    obtain ⟨b, off, hA, hbl, hcs⟩ := HH.out.at_ (by rw [sc_len]; omega)
    subst hA
    have c0 : wr.cell? ⟨b, off + k, none⟩ = some (.string ⟨P[k].toArray⟩) := by
      rw [HB.out.cell (by exact hbl)]; exact hcs k _ (sc_at P k hlt)
    obtain ⟨s, hs⟩ : ∃ s : ByteArray, s = ⟨P[k].toArray⟩ := ⟨_, rfl⟩
    have hsl : s.data.toList = P[k] := by rw [hs]
    have hsz : s.size ≤ 1048576 := by rw [← size_list, hsl]; exact HZ.out _ (List.getElem_mem hlt)
    rw [← hs] at c0
    have HNM := Lib.hid (readNumber_any s wr (by omega))
    rw [hsl] at HNM
    have htk : P.take (k + 1) = P.take k ++ [P[k]] := List.take_succ_eq_append_getElem hlt
    have HSTOP : Hid (numE P[k] = none → RF = none) := fun hx => by
      have e : P = P.take k ++ P[k] :: P.drop (k + 1) := by rw [← List.drop_eq_getElem_cons hlt, List.take_append_drop]
      have h2 := nums_stop (P.drop (k + 1)) hx (P.take k)
      rw [← e] at h2
      rw [← HRF.out, h2]
    have HGO : Hid (∀ n, numE P[k] = some n → numsE (P.take (k + 1)) = some (ns ++ [n])) := fun n hx => by
      rw [htk]; exact nums_snoc hx HN.out
    have HLN := Lib.hid (nums_len HN.out)
    have hnl : ns.length ≤ 1048577 := by have := HLN.out; rw [List.length_take] at this; omega
    clear hs hsl htk hcs HLN
    obtain ⟨r, hr⟩ : ∃ r, numE P[k] = r := ⟨_, rfl⟩
    rw [hr] at HNM HSTOP HGO
    clear hr
    have hix : (0 : Int) ≤ (k : Int) := by omega
    have hix2 : (k : Int) < (P.length : Int) := by omega
    go_wp2_with fail
    refine HNM.out.mono ?_
    rintro e w2 ⟨rfl, hb2⟩
    have HB2 := Lib.hid (HB.out.trans (hb2.mono HB.out.size))
    have HO2 := Lib.hid (own_belowL HO.out hb2)
    clear hb2 c0
    cases r with
    | none =>
      have HE := Lib.hid (HSTOP.out rfl)
      unfold nmE
      go_wp2_with fail
      go_ret2
      exact numsR_none HE.out HB2.out rfl
    | some n =>
      have HE := Lib.hid (HGO.out n rfl)
      unfold nmE
      have HOA := Lib.hid (HO2.out.alloc (.cells #[.int .i64 (n : Int)] 3))
      have hszr := HB2.out.size
      simp only [Option.getD_some, Option.isSome_some]
      go_wp2_with (at_builtin; refine wpList_append_lies _ rfl _ _ 63 rfl w.heap.size 3 ii _ 1 8 Tryz.underlying63 hii hzi0 hzi1 hzi2 rfl (by decide) _ _ _ rfl HOA.out ⟨w2.heap.size, 0, none⟩ 1 1 [.int .i64 (n : Int)] (by rfl) (by rfl) (World.news_of_block (cs := #[.int .i64 (n : Int)]) (t := 3) (fr := (0, 0)) (heap_alloc_new w2 _)) (by simp [Value.oneCell']) (by decide) (by unfold maxLen; omega) (by omega) (by simp; omega) (w2.heap.size + 1) (by simp) ?_; intro g8 cap8 w8 hown8 hgrow8 hat8 hlt8)
      have HO8 : Hid (w8.ownsRow w.heap.size 3 1 (.slice (some ⟨g8, 0, none⟩) (ns ++ [n]).length cap8) (ns ++ [n]).length (nc (ns ++ [n]))) := by
        show World.ownsRow _ _ _ _ _ _ _
        rw [nc_append, List.length_append]
        exact hown8
      have HB8 : Hid (Below w.heap.size w w8) := (HB2.out.alloc HB2.out.size _).grown hgrow8 (by simp; omega) (fun b hb => (HO2.out.lt b hb).1)
      have hl8 : ns.length + 1 = (ns ++ [n]).length := by simp
      clear hown8 hgrow8 hat8 hlt8 HOA HO2 HO
      go_roundw
      case rel => exact ⟨k + 1, ns ++ [n], _, _, by omega, by go_num, by rw [← hl8], HE, HO8, HB8⟩
      case measure => simp [intOf]; omega
end Go.Proofs.YtpiiickhfcjnmaaGreatDoor
