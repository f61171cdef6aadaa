/- Several texts laid into one: The contracts of edit.isDigits and edit.readNumber; The contract of edit.readNumbers; The contract of edit.readPoint; What readClip keeps while it reads the points of a clip; -/
import Derived.Test.YtpiiickhfcjnmaaGreatDoorPlnF
import Derived.Test.YtpiiickhfcjnmaaGreatDoorShAtoi
import Derived.Test.YtpiiickhfcjnmaaGreatDoorNumB
import Derived.Test.YtpiiickhfcjnmaaGreatDoorStrZ
import Derived.Test.YtpiiickhfcjnmaaGreatDoorPlnA
import Derived.Test.YtpiiickhfcjnmaaGreatDoorShCut
import Derived.Deep.DeepCutAuto
import Derived.Deep.CutBlock
import Derived.Test.YtpiiickhfcjnmaaGreatDoorEdtZ
import Derived.Deep.RegionHeld3
import Derived.Deep.DrawnRows
/- The contracts of edit.isDigits and edit.readNumber. -/
namespace Go.Proofs.YtpiiickhfcjnmaaGreatDoor
open Go.RowKit Go.Dw

def digE : ByteArray := ⟨#[48, 49, 50, 51, 52, 53, 54, 55, 56, 57]⟩
theorem isDE_all : ∀ i : Fin 256, digE.data.toList.contains (UInt8.ofNat i.val) = isD (UInt8.ofNat i.val) := by decide +kernel
theorem isDE_eq (b : UInt8) : digE.data.toList.contains b = isD b := by
  have := isDE_all ⟨b.toNat, b.toNat_lt⟩
  simpa using this
theorem trimE (l : List UInt8) : (Lib.trimS l digE.data.toList = []) ↔ l.all isD = true := by
  have hp : (fun b : UInt8 => digE.data.toList.contains b) = isD := funext isDE_eq
  unfold Lib.trimS Lib.trimLeftS Lib.trimRightS
  rw [hp, dropWhile_nil]
  rw [List.all_reverse]
  constructor
  · intro h
    have h2 : (l.reverse.dropWhile isD) = [] := by
      cases hd : l.reverse.dropWhile isD with
      | nil => rfl
      | cons a t =>
        rw [hd] at h
        have := List.head_dropWhile_not isD (l := l.reverse) (by rw [hd]; simp)
        simp [hd] at this
        simp [this] at h
    rw [dropWhile_nil, List.all_reverse] at h2
    exact h2
  · intro h
    have : l.reverse.dropWhile isD = [] := by rw [dropWhile_nil, List.all_reverse]; exact h
    rw [this]; rfl
theorem trimDE_any (s : ByteArray) (w : World) (hs : s.size ≤ 9223372036854775807) :
    Calls Tryz.prog 73 #[.string s, .string digE] w fun e w' => e = .returned (.string ⟨(Lib.trimS s.data.toList digE.data.toList).toArray⟩) ∧ Below w.heap.size w w' :=
  Any.strings_Trim_laid Tryz.lays160 (by kernel_rfl) s digE w hs (by decide) (ascii_of_all (by decide))
theorem bytesW_below (w : World) (e : TypeId) (s : ByteArray) : Below w.heap.size w (Lib.bytesWorld w e s) :=
  ⟨rfl, rfl, rfl, by rw [Lib.bytesWorld_size]; omega, fun k hk => Lib.bytesWorld_at_old w e s k hk⟩
theorem atoiE_any (s : ByteArray) (w : World) (hn : s.data.toList ≠ []) (h : s.data.toList.all isD = true) (hs : s.size ≤ 18) :
    Calls Tryz.prog 129 #[.string s] w fun e w' => e = .returned (.tuple #[.int .i64 (valD s.data.toList : Int), .nilIface]) ∧ Below w.heap.size w w' :=
  (Any.strconv_Atoi Tryz.lays172 s _ hs (atoi_val hn h) w).mono fun _ _ ⟨h1, t, h2⟩ => ⟨h1, by rw [h2]; exact bytesW_below w _ t⟩
theorem isDg_iff (l : List UInt8) : isDg l = true ↔ l ≠ [] ∧ l.all isD = true := by
  unfold isDg
  cases l <;> simp
set_option maxHeartbeats 1000000 in
theorem isDigits_any (s : ByteArray) (w : World) (hs : s.size ≤ 9223372036854775807) :
    Calls Tryz.prog 128 #[.string s] w fun e w' => e = .returned (.bool (isDg s.data.toList)) ∧ Below w.heap.size w w' := by
  by_cases h0 : 0 < s.size
  case neg =>
    obtain ⟨e1, e2⟩ := emp_t h0
    have HQ : Hid (isDg s.data.toList = false) := by show _ = _; rw [← ByteArray.toList_eq, e2]; rfl
    clear e2
    go_enter Tryz.func128, Tryz.ntmps128
    go_wp2_with fail
    go_ret
    exact ⟨ret_bool HQ.out.symm, Below.refl _ _⟩
  have e1 := emp_f h0
  have hne : s.data.toList ≠ [] := fun e => by have := congrArg List.length e; rw [Array.length_toList] at this; exact absurd this (by show ¬ s.size = 0; omega)
  have HTM := Lib.hid (trimDE_any s w hs)
  have HTR := Lib.hid (trimE s.data.toList)
  cases ha : s.data.toList.all isD with
  | false =>
    have HQ : Hid (isDg s.data.toList = false) := by
      show _ = _
      rw [Bool.eq_false_iff]; intro h; have := ((isDg_iff _).1 h).2; rw [ha] at this; cases this
    obtain ⟨u, hu⟩ : ∃ u, (⟨(Lib.trimS s.data.toList digE.data.toList).toArray⟩ : ByteArray) = u := ⟨_, rfl⟩
    have hun : 0 < u.size := by
      rw [← size_list, ← hu]
      rw [List.toList_toArray]
      apply List.length_pos_iff.2
      intro hh
      have := HTR.out.1 hh
      rw [ha] at this; cases this
    rw [hu] at HTM
    have e2 := emp_f hun
    clear hu ha hne
    go_enter Tryz.func128, Tryz.ntmps128
    go_wp2_with fail
    refine HTM.out.mono ?_
    rintro e w2 ⟨rfl, hb2⟩
    have HB2 := Lib.hid hb2
    clear hb2
    go_wp2_with fail
    go_ret
    exact ⟨ret_bool (by rw [HQ.out]), HB2.out⟩
  | true =>
    have HQ : Hid (isDg s.data.toList = true) := (isDg_iff _).2 ⟨hne, ha⟩
    have hn := HTR.out.2 ha
    rw [hn] at HTM
    clear hn ha hne
    go_enter Tryz.func128, Tryz.ntmps128
    go_wp2_with fail
    refine HTM.out.mono ?_
    rintro e w2 ⟨rfl, hb2⟩
    have HB2 := Lib.hid hb2
    clear hb2
    go_wp2_with fail
    go_ret
    exact ⟨ret_bool (by rw [HQ.out]), HB2.out⟩
def nmE (r : Option Nat) : Value := .tuple #[.int .i64 ((r.getD 0 : Nat) : Int), .bool r.isSome]
theorem numE_no {l : List UInt8} (h : ¬ (noZ l = true ∧ l.length ≤ 14)) : numE l = none := by unfold numE; rw [if_neg h]
theorem numE_yes {l : List UInt8} (h : noZ l = true) (h2 : l.length ≤ 14) : numE l = some (valD l) := by unfold numE; rw [if_pos ⟨h, h2⟩]
set_option maxHeartbeats 2000000 in
theorem readNumber_any (s : ByteArray) (w : World) (hs : s.size ≤ 9223372036854775807) :
    Calls Tryz.prog 72 #[.string s] w fun e w' => e = .returned (nmE (numE s.data.toList)) ∧ Below w.heap.size w w' := by
  have HDG := Lib.hid (isDigits_any s w hs)
  have HSL := Lib.hid (size_list s)
  cases hd : isDg s.data.toList with
  | false =>
    have HQ : Hid (numE s.data.toList = none) := numE_no fun h => by
      have := noZ_dg h.1
      rw [hd] at this; cases this
    rw [hd] at HDG
    clear hd
    go_enter Tryz.func72, Tryz.ntmps72
    go_wp2_with fail
    refine HDG.out.mono ?_
    rintro e w2 ⟨rfl, hb2⟩
    have HB2 := Lib.hid hb2
    clear hb2
    go_wp2_with fail
    go_ret2
    exact ⟨by rw [HQ.out]; rfl, HB2.out⟩
  | true =>
    obtain ⟨hne, ha⟩ := (isDg_iff _).1 hd
    rw [hd] at HDG
    have h0 : 0 < s.size := by
      rw [← size_list]; exact List.length_pos_iff.2 hne
    have HNE : Hid (s.data.toList ≠ []) := hne
    have HA : Hid (s.data.toList.all isD = true) := ha
    clear hd hne ha
    by_cases h14 : 14 < s.size
    · have HQ : Hid (numE s.data.toList = none) := numE_no fun h => by have := h.2; rw [size_list] at this; omega
      go_enter Tryz.func72, Tryz.ntmps72
      go_wp2_with fail
      refine HDG.out.mono ?_
      rintro e w2 ⟨rfl, hb2⟩
      have HB2 := Lib.hid hb2
      clear hb2
      go_wp2_with fail
      go_ret2
      exact ⟨by rw [HQ.out]; rfl, HB2.out⟩
    have HAT := Lib.hid (fun (W : World) => atoiE_any s W HNE.out HA.out (by omega))
    obtain ⟨v, hv⟩ : ∃ v, valD s.data.toList = v := ⟨_, rfl⟩
    have HYES : Hid (noZ s.data.toList = true → numE s.data.toList = some v) := fun h => by rw [numE_yes h (by rw [size_list]; omega), hv]
    rw [hv] at HAT
    clear hv
    by_cases h48 : (s[0]'h0).toNat = 48
    · have g1 : (((s[0]'h0).toNat : Int) == 48) = true := by rw [h48]; rfl
      by_cases hl : s.data.toList = [48]
      · have e2 : (s.toList == [48]) = true := by rw [ByteArray.toList_eq, hl]; rfl
        have HQ : Hid (numE s.data.toList = some v) := HYES.out (by rw [hl]; rfl)
        clear hl h48
        go_enter Tryz.func72, Tryz.ntmps72
        go_wp2_with fail
        refine HDG.out.mono ?_
        rintro e w2 ⟨rfl, hb2⟩
        have HB2 := Lib.hid hb2
        have HA2 := Lib.hid (HAT.out w2)
        clear hb2
        go_wp2_with fail
        refine HA2.out.mono ?_
        rintro e w3 ⟨rfl, hb3⟩
        have HB3 := Lib.hid (HB2.out.trans (hb3.mono HB2.out.size))
        clear hb3
        go_wp2_with fail
        go_quiet (fail)
        go_wp2
        go_ret2
        exact ⟨by rw [HQ.out]; rfl, below_drewN HB3.out _⟩
      · have e2 : (s.toList == [48]) = false := by rw [ByteArray.toList_eq, beq_eq_false_iff_ne]; exact hl
        have HQ : Hid (numE s.data.toList = none) := numE_no fun h => by
          have := noZ_head (l := s.data.toList) (by rw [head_of h0, (u8_48 _).2 h48]) hl
          rw [this] at h; cases h.1
        clear hl h48
        go_enter Tryz.func72, Tryz.ntmps72
        go_wp2_with fail
        refine HDG.out.mono ?_
        rintro e w2 ⟨rfl, hb2⟩
        have HB2 := Lib.hid hb2
        clear hb2
        go_wp2_with fail
        go_ret2
        exact ⟨by rw [HQ.out]; rfl, HB2.out⟩
    · have g1 : (((s[0]'h0).toNat : Int) == 48) = false := by simp; omega
      have HQ : Hid (numE s.data.toList = some v) := HYES.out (noZ_ok HA.out HNE.out (by rw [head_of h0]; intro e; injection e with e; exact h48 ((u8_48 _).1 e)))
      clear h48
      go_enter Tryz.func72, Tryz.ntmps72
      go_wp2_with fail
      refine HDG.out.mono ?_
      rintro e w2 ⟨rfl, hb2⟩
      have HB2 := Lib.hid hb2
      have HA2 := Lib.hid (HAT.out w2)
      clear hb2
      go_wp2_with fail
      refine HA2.out.mono ?_
      rintro e w3 ⟨rfl, hb3⟩
      have HB3 := Lib.hid (HB2.out.trans (hb3.mono HB2.out.size))
      clear hb3
      go_wp2_with fail
      go_quiet (fail)
      go_wp2
      go_ret2
      exact ⟨by rw [HQ.out]; rfl, below_drewN HB3.out _⟩
end Go.Proofs.YtpiiickhfcjnmaaGreatDoor
/- The contract of edit.readNumbers. -/
namespace Go.Proofs.YtpiiickhfcjnmaaGreatDoor
open Go.RowKit Go.Dw

theorem nums_snoc {x : List UInt8} {n : Nat} (hx : numE x = some n) : ∀ {a : List (List UInt8)} {ns : List Nat}, numsE a = some ns → numsE (a ++ [x]) = some (ns ++ [n])
  | [], ns, h => by
    injection h with h
    subst h
    show numsE [x] = _
    rw [numsE, hx]; rfl
  | y :: a, ns, h => by
    rw [numsE] at h
    rw [List.cons_append, numsE]
    cases hy : numE y with
    | none => rw [hy] at h; cases h
    | some m =>
      rw [hy] at h
      cases ha : numsE a with
      | none => rw [ha] at h; cases h
      | some ms =>
        rw [ha] at h
        injection h with h
        subst h
        simp only
        rw [nums_snoc hx ha]; rfl
theorem nums_stop {x : List UInt8} (r : List (List UInt8)) (hx : numE x = none) : ∀ (a : List (List UInt8)), numsE (a ++ x :: r) = none
  | [] => by
    show numsE (x :: r) = none
    rw [numsE, hx]
  | y :: a => by
    rw [List.cons_append, numsE]
    cases hy : numE y with
    | none => rfl
    | some m =>
      simp only
      rw [nums_stop r hx a]; rfl
theorem nums_len : ∀ {a : List (List UInt8)} {ns : List Nat}, numsE a = some ns → ns.length = a.length
  | [], ns, h => by injection h with h; subst h; rfl
  | y :: a, ns, h => by
    rw [numsE] at h
    cases hy : numE y with
    | none => rw [hy] at h; cases h
    | some m =>
      rw [hy] at h
      cases ha : numsE a with
      | none => rw [ha] at h; cases h
      | some ms =>
        rw [ha] at h
        injection h with h
        subst h
        simp [nums_len ha]
theorem infoInt : (Tryz.prog.info? 3).map (fun i => (i.zero, i.size, i.bytes)) = some (some (.int .i64 0), 1, 8) := by kernel_rfl
/-- what readNumbers says -/
def NumsR (w : World) (r : Option (List Nat)) (e : Ending) (w' : World) : Prop :=
  Below w.heap.size w w' ∧ match r with
    | none => e = .returned (.tuple #[.slice none 0 0, .bool false])
    | some ns => ∃ A c, e = .returned (.tuple #[.slice A ns.length c, .bool true]) ∧ RdS (fun b => w.heap.size ≤ b) w' A (nc ns)
theorem numsR_none {w w' : World} {r : Option (List Nat)} {e : Ending} (h : r = none) (hb : Below w.heap.size w w') (he : e = .returned (.tuple #[.slice none 0 0, .bool false])) : NumsR w r e w' := by
  subst h; exact ⟨hb, he⟩
theorem numsR_some {w w' : World} {r : Option (List Nat)} {e : Ending} {ns : List Nat} {A : Option Addr} {c : Nat} (h : r = some ns) (hb : Below w.heap.size w w') (hr : RdS (fun b => w.heap.size ≤ b) w' A (nc ns)) (he : e = .returned (.tuple #[.slice A ns.length c, .bool true])) : NumsR w r e w' := by
  subst h; exact ⟨hb, A, c, he, hr⟩
set_option maxRecDepth 100000 in
set_option maxHeartbeats 4000000 in
theorem readNumbers_any (A : Option Addr) (c : Nat) (P : List (List UInt8)) (w : World) (h : Rd w A (sc P)) (hl : P.length ≤ 1048577) (hz : ∀ p ∈ P, p.length ≤ 1048576) :
    Calls Tryz.prog 25 #[.slice A P.length c] w (NumsR w (numsE P)) := by
  obtain ⟨ii, hii, hzi0, hzi1, hzi2⟩ := info_parts infoInt
  obtain ⟨RF, hRF⟩ : ∃ RF, numsE P = RF := ⟨_, rfl⟩
  have HRF := Lib.hid hRF
  have HH := Lib.hid h
  have HZ := Lib.hid hz
  rw [hRF]
  clear hRF h hz
  go_enter Tryz.func25, Tryz.ntmps25
  go_wp2_with fail
  go_loopw [4, 11] (fun ov iv wr => ∃ (k : Nat) (ns : List Nat) (A5 : Option Addr) (c5 : Nat), k ≤ P.length ∧ iv = .int .i64 (k : Int) ∧ ov = .slice A5 ns.length c5 ∧ Hid (numsE (P.take k) = some ns) ∧ Hid (wr.ownsRow w.heap.size 3 1 (.slice A5 ns.length c5) ns.length (nc ns)) ∧ Hid (Below w.heap.size w wr)) (fun _ iv _ => P.length - (intOf iv).toNat)
  case atStart => exact ⟨0, [], none, 0, Nat.zero_le _, rfl, rfl, rfl, World.ownsRow_nil _ _ _ _, Below.refl _ _⟩
  case round =>
    obtain ⟨k, ns, A5, c5, hk, rfl, rfl, HN, HO, HB⟩ := hrel
    by_cases hlt : k < P.length
    case neg =>
      have hd : decide (k < P.length) = false := by simpa using hlt
      have HE : Hid (RF = some ns) := by
        show _ = _
        have := HN.out
        rw [List.take_of_length_le (by omega)] at this
        rw [← HRF.out, this]
      have HR : Hid (RdS (fun b => w.heap.size ≤ b) wr A5 (nc ns)) := by
        rcases HO.out.2 with ⟨h0, h1⟩ | ⟨g, cap, cur, hv, hb, hg, _⟩
        · exact .inl (List.eq_nil_of_length_eq_zero (by rw [HO.out.1, h1]))
        · injection hv with hv1 hv2 hv3
          subst hv1
          refine .inr ⟨g, 0, rfl, hb, (Array.getElem?_eq_some_iff.1 hg).1, fun j u hu => ?_⟩
          have := HO.out.cells (g := g) rfl j u hu
          have hadd : (⟨g, 0, none⟩ : Addr).add j = ⟨g, 0 + j, none⟩ := by unfold Addr.add; split <;> simp_all
          rw [← hadd]; exact this
      go_wp2_with fail
      go_ret2
      exact numsR_some HE.out HB.out HR.out rfl
    have hd : decide (k < P.length) = true := by simpa using hlt
    obtain ⟨b, off, hA, hbl, hcs⟩ := HH.out.at_ (by rw [sc_len]; omega)
    subst hA
    have c0 : wr.cell? ⟨b, off + k, none⟩ = some (.string ⟨P[k].toArray⟩) := by
      rw [HB.out.cell (by exact hbl)]; exact hcs k _ (sc_at P k hlt)
    obtain ⟨s, hs⟩ : ∃ s : ByteArray, s = ⟨P[k].toArray⟩ := ⟨_, rfl⟩
    have hsl : s.data.toList = P[k] := by rw [hs]
    have hsz : s.size ≤ 1048576 := by rw [← size_list, hsl]; exact HZ.out _ (List.getElem_mem hlt)
    rw [← hs] at c0
    have HNM := Lib.hid (readNumber_any s wr (by omega))
    rw [hsl] at HNM
    have htk : P.take (k + 1) = P.take k ++ [P[k]] := List.take_succ_eq_append_getElem hlt
    have HSTOP : Hid (numE P[k] = none → RF = none) := fun hx => by
      have e : P = P.take k ++ P[k] :: P.drop (k + 1) := by rw [← List.drop_eq_getElem_cons hlt, List.take_append_drop]
      have h2 := nums_stop (P.drop (k + 1)) hx (P.take k)
      rw [← e] at h2
      rw [← HRF.out, h2]
    have HGO : Hid (∀ n, numE P[k] = some n → numsE (P.take (k + 1)) = some (ns ++ [n])) := fun n hx => by
      rw [htk]; exact nums_snoc hx HN.out
    have HLN := Lib.hid (nums_len HN.out)
    have hnl : ns.length ≤ 1048577 := by have := HLN.out; rw [List.length_take] at this; omega
    clear hs hsl htk hcs HLN
    obtain ⟨r, hr⟩ : ∃ r, numE P[k] = r := ⟨_, rfl⟩
    rw [hr] at HNM HSTOP HGO
    clear hr
    have hix : (0 : Int) ≤ (k : Int) := by omega
    have hix2 : (k : Int) < (P.length : Int) := by omega
    go_wp2_with fail
    refine HNM.out.mono ?_
    rintro e w2 ⟨rfl, hb2⟩
    have HB2 := Lib.hid (HB.out.trans (hb2.mono HB.out.size))
    have HO2 := Lib.hid (own_belowL HO.out hb2)
    clear hb2 c0
    cases r with
    | none =>
      have HE := Lib.hid (HSTOP.out rfl)
      unfold nmE
      go_wp2_with fail
      go_ret2
      exact numsR_none HE.out HB2.out rfl
    | some n =>
      have HE := Lib.hid (HGO.out n rfl)
      unfold nmE
      have HOA := Lib.hid (HO2.out.alloc (.cells #[.int .i64 (n : Int)] 3))
      have hszr := HB2.out.size
      simp only [Option.getD_some, Option.isSome_some]
      go_wp2_with (at_builtin; refine wpList_append_lies _ rfl _ _ 63 rfl w.heap.size 3 ii _ 1 8 Tryz.underlying63 hii hzi0 hzi1 hzi2 rfl (by decide) _ _ _ rfl HOA.out ⟨w2.heap.size, 0, none⟩ 1 1 [.int .i64 (n : Int)] (by rfl) (by rfl) (World.news_of_block (cs := #[.int .i64 (n : Int)]) (t := 3) (fr := (0, 0)) (heap_alloc_new w2 _)) (by simp [Value.oneCell']) (by decide) (by unfold maxLen; omega) (by omega) (by simp; omega) (w2.heap.size + 1) (by simp) ?_; intro g8 cap8 w8 hown8 hgrow8 hat8 hlt8)
      have HO8 : Hid (w8.ownsRow w.heap.size 3 1 (.slice (some ⟨g8, 0, none⟩) (ns ++ [n]).length cap8) (ns ++ [n]).length (nc (ns ++ [n]))) := by
        show World.ownsRow _ _ _ _ _ _ _
        rw [nc_append, List.length_append]
        exact hown8
      have HB8 : Hid (Below w.heap.size w w8) := (HB2.out.alloc HB2.out.size _).grown hgrow8 (by simp; omega) (fun b hb => (HO2.out.lt b hb).1)
      have hl8 : ns.length + 1 = (ns ++ [n]).length := by simp
      clear hown8 hgrow8 hat8 hlt8 HOA HO2 HO
      go_roundw
      case rel => exact ⟨k + 1, ns ++ [n], _, _, by omega, by go_num, by rw [← hl8], HE, HO8, HB8⟩
      case measure => simp [intOf]; omega
end Go.Proofs.YtpiiickhfcjnmaaGreatDoor
/- The contract of edit.readPoint. -/
namespace Go.Proofs.YtpiiickhfcjnmaaGreatDoor
open Go.RowKit Go.Dw

theorem ext_mkE (s : ByteArray) (a b : Nat) : s.extract a b = mkE ((s.data.toList.take b).drop a) := by
  apply ByteArray.ext
  apply Array.ext'
  rw [← ByteArray.toList_eq, ext_list]; simp [mkE]
theorem mkE_size (l : List UInt8) : (mkE l).size = l.length := by show l.toArray.size = _; simp
/-- what Cut says, as a value -/
def cutW (z : UInt8) (s : ByteArray) : Value := .tuple #[.string (mkE (cutE z s.data.toList).1), .string (mkE (cutE z s.data.toList).2.1), .bool (cutE z s.data.toList).2.2]
theorem cutE_le (z : UInt8) (l : List UInt8) : (cutE z l).1.length ≤ l.length ∧ (cutE z l).2.1.length ≤ l.length := by
  unfold cutE
  split
  · simp
  · simp
    omega
theorem cutV58_eq (s : ByteArray) : cutV58 s = cutW 58 s := by
  unfold cutV58 cutW cutE
  split
  · simp only; rw [mkE_of]; rfl
  · simp only
    rw [ext_mkE, ext_mkE, List.drop_zero, List.take_of_length_le (i := s.size) (by rw [size_list]; exact Nat.le_refl _)]
theorem cutV47_eq (s : ByteArray) : cutV47 s = cutW 47 s := by
  unfold cutV47 cutW cutE
  split
  · simp only; rw [mkE_of]; rfl
  · simp only
    rw [ext_mkE, ext_mkE, List.drop_zero, List.take_of_length_le (i := s.size) (by rw [size_list]; exact Nat.le_refl _)]
def ptE (r : Option Pnt) : Value := match r with
  | none => .tuple #[.agg #[.int .i64 0, .string ⟨#[]⟩, .string ⟨#[]⟩], .bool false]
  | some p => .tuple #[.agg #[.int .i64 p.at_, .string p.n, .string p.d], .bool true]
theorem pntE_num {l : List UInt8} (h : numE (cutE 58 l).1 = none) : pntE l = none := by unfold pntE; rw [h]
theorem pntE_no {l : List UInt8} (h : ¬ ((cutE 58 l).2.2 = true ∧ (cutE 47 (cutE 58 l).2.1).2.2 = true ∧ isDg (bareE (cutE 47 (cutE 58 l).2.1).1) = true ∧ isDg (cutE 47 (cutE 58 l).2.1).2.1 = true)) : pntE l = none := by
  unfold pntE
  split
  · rfl
  · rw [if_neg h]
theorem pntE_yes {l : List UInt8} {n : Nat} (h0 : numE (cutE 58 l).1 = some n) (h : ((cutE 58 l).2.2 = true ∧ (cutE 47 (cutE 58 l).2.1).2.2 = true ∧ isDg (bareE (cutE 47 (cutE 58 l).2.1).1) = true ∧ isDg (cutE 47 (cutE 58 l).2.1).2.1 = true)) :
    pntE l = some ⟨(n : Int), mkE (cutE 47 (cutE 58 l).2.1).1, mkE (cutE 47 (cutE 58 l).2.1).2.1⟩ := by
  unfold pntE; rw [h0]; simp only; rw [if_pos h]
set_option maxRecDepth 100000 in
set_option maxHeartbeats 4000000 in
theorem readPoint_any (s : ByteArray) (w : World) (hs : s.size ≤ 1048576) :
    Calls Tryz.prog 74 #[.string s] w fun e w' => e = .returned (ptE (pntE s.data.toList)) ∧ Below w.heap.size w w' := by
  obtain ⟨w0, hw0⟩ : ∃ w0, w0 = w.alloc (.cells #[.int .i64 0, .string ⟨#[]⟩, .string ⟨#[]⟩] 70) := ⟨_, rfl⟩
  have HB0 : Hid (Below w.heap.size w w0) := by rw [hw0]; exact (Below.refl _ _).alloc (Nat.le_refl _) _
  have HK0 : Hid (Blk w0 w.heap.size 70 [.int .i64 0, .string ⟨#[]⟩, .string ⟨#[]⟩]) := by rw [hw0]; exact Blk.new w _ _
  have HW0 := Lib.hid hw0
  have HC1 := Lib.hid (str_Cut58 s w0 hs)
  rw [cutV58_eq] at HC1
  have hle := cutE_le 58 s.data.toList
  rw [size_list] at hle
  have HP1 := Lib.hid (fun h => pntE_num (l := s.data.toList) h)
  have HP2 := Lib.hid (fun h => pntE_no (l := s.data.toList) h)
  have HP3 := Lib.hid (fun n h0 h => pntE_yes (l := s.data.toList) (n := n) h0 h)
  obtain ⟨RF, hRF⟩ : ∃ RF, pntE s.data.toList = RF := ⟨_, rfl⟩
  rw [hRF] at HP1 HP2 HP3 ⊢
  unfold cutW at HC1
  obtain ⟨a, ha⟩ : ∃ a, (cutE 58 s.data.toList).1 = a := ⟨_, rfl⟩
  obtain ⟨r, hr⟩ : ∃ r, (cutE 58 s.data.toList).2.1 = r := ⟨_, rfl⟩
  obtain ⟨ok, hok⟩ : ∃ b, (cutE 58 s.data.toList).2.2 = b := ⟨_, rfl⟩
  rw [ha, hr, hok] at HC1
  rw [ha, hr] at hle
  rw [ha] at HP1
  rw [hr, hok] at HP2
  rw [ha, hr, hok] at HP3
  clear ha hr hok hRF hw0
  have hle2 := cutE_le 47 r
  have HC2 : Hid (∀ W, Calls Tryz.prog 23 #[.string (mkE r), .string ⟨#[47]⟩] W fun e w' => e = .returned (cutW 47 (mkE r)) ∧ ∃ n, w' = W.drewN n) := fun W => by
    rw [← cutV47_eq]; exact str_Cut47 (mkE r) W (by rw [mkE_size]; omega)
  unfold cutW at HC2
  rw [mkE_list] at HC2
  have HN : Hid (∀ W : World, Calls Tryz.prog 72 #[.string (mkE a)] W fun e w' => e = .returned (nmE (numE a)) ∧ Below W.heap.size W w') := fun W => by
    have := readNumber_any (mkE a) W (by rw [mkE_size]; omega)
    rw [mkE_list] at this; exact this
  obtain ⟨nu, hnu⟩ : ∃ x, (cutE 47 r).1 = x := ⟨_, rfl⟩
  obtain ⟨de, hde⟩ : ∃ x, (cutE 47 r).2.1 = x := ⟨_, rfl⟩
  obtain ⟨al, hal⟩ : ∃ b, (cutE 47 r).2.2 = b := ⟨_, rfl⟩
  rw [hnu, hde, hal] at HC2 HP2 HP3
  rw [hnu, hde] at hle2
  clear hnu hde hal
  have hbl : (bareE nu).length ≤ nu.length := by
    unfold bareE Lib.trimPrefix
    split
    · rw [List.length_drop]; omega
    · exact Nat.le_refl _
  have HTP : Hid (∀ W, Calls Tryz.prog 137 #[.string (mkE nu), .string ⟨#[45]⟩] W fun e w' => e = .returned (.string (mkE (bareE nu))) ∧ w' = W) := fun W => by
    have := Any.strings_TrimPrefix Tryz.lays101 (mkE nu) ⟨#[45]⟩ W
    rw [mkE_list] at this
    exact this
  have HD1 : Hid (∀ W : World, Calls Tryz.prog 128 #[.string (mkE (bareE nu))] W fun e w' => e = .returned (.bool (isDg (bareE nu))) ∧ Below W.heap.size W w') := fun W => by
    have := isDigits_any (mkE (bareE nu)) W (by rw [mkE_size]; omega)
    rw [mkE_list] at this; exact this
  have HD2 : Hid (∀ W : World, Calls Tryz.prog 128 #[.string (mkE de)] W fun e w' => e = .returned (.bool (isDg de)) ∧ Below W.heap.size W w') := fun W => by
    have := isDigits_any (mkE de) W (by rw [mkE_size]; omega)
    rw [mkE_list] at this; exact this
  clear hle hle2 hbl
  obtain ⟨N, hN⟩ : ∃ N, numE a = N := ⟨_, rfl⟩
  rw [hN] at HN HP1 HP3
  clear hN
  generalize isDg (bareE nu) = d1 at *
  generalize isDg de = d2 at *
  generalize mkE (bareE nu) = sb at *
  generalize mkE nu = sn at *
  generalize mkE de = sd at *
  generalize mkE a = sa at *
  generalize mkE r = sr at *
  go_enter Tryz.func74, Tryz.ntmps74
  go_upto_region 1 with (fail)
  rw [← HW0.out]
  go_wp2_with fail
  refine HC1.out.mono ?_
  rintro e w1 ⟨rfl, n1, hw1⟩
  have HB1 : Hid (Below w.heap.size w w1) := by rw [hw1]; exact below_drewN HB0.out n1
  have HK1 : Hid (Blk w1 w.heap.size 70 [.int .i64 0, .string ⟨#[]⟩, .string ⟨#[]⟩]) := HK0.out.same (Same.of_below (S := fun _ => True) (by rw [hw1]; exact below_drewN (Below.refl _ _) n1)) trivial
  clear hw1 HB0 HK0
  go_wp2_with fail
  refine (HN.out w1).mono ?_
  rintro e w2 ⟨rfl, hb2⟩
  have HB2 := Lib.hid (HB1.out.trans (hb2.mono HB1.out.size))
  have HK2 := Lib.hid (HK1.out.same (Same.of_below (S := fun _ => True) hb2) trivial)
  clear hb2 HB1 HK1
  unfold nmE
  go_wp2_with fail
  refine (HC2.out w2).mono ?_
  rintro e w3 ⟨rfl, n3, hw3⟩
  have HB3 : Hid (Below w.heap.size w w3) := by rw [hw3]; exact below_drewN HB2.out n3
  have HK3 : Hid (Blk w3 w.heap.size 70 [.int .i64 0, .string ⟨#[]⟩, .string ⟨#[]⟩]) := HK2.out.same (Same.of_below (S := fun _ => True) (by rw [hw3]; exact below_drewN (Below.refl _ _) n3)) trivial
  clear hw3 HB2 HK2
  obtain ⟨nb, hnb⟩ : ∃ nb, (!ok || !N.isSome || !al || !d1 || !d2) = nb := ⟨_, rfl⟩
  have HNB := Lib.hid hnb
  clear hnb
  go_upto_region 4 with (fail)
  go_cut [49] (fun v wx => v = .bool nb ∧ Hid (Below w3.heap.size w3 wx))
  case first =>
    cases ok with
    | false =>
      have HE : Hid (nb = true) := by show _ = _; rw [← HNB.out]; rfl
      go_wp2_with fail
      go_meet
      case rel => exact ⟨by rw [HE.out], Below.refl _ _⟩
    | true =>
      cases N with
      | none =>
        have HE : Hid (nb = true) := by show _ = _; rw [← HNB.out]; rfl
        simp only [Option.isSome_none]
        go_wp2_with fail
        go_meet
        case rel => exact ⟨by rw [HE.out], Below.refl _ _⟩
      | some n =>
        simp only [Option.isSome_some]
        cases al with
        | false =>
          have HE : Hid (nb = true) := by show _ = _; rw [← HNB.out]; rfl
          go_wp2_with fail
          go_meet
          case rel => exact ⟨by rw [HE.out], Below.refl _ _⟩
        | true =>
          go_wp2_with fail
          refine (HTP.out w3).mono ?_
          rintro e w4 ⟨rfl, rfl⟩
          go_wp2_with fail
          refine (HD1.out _).mono ?_
          rintro e w5 ⟨rfl, hb5⟩
          have HB5 := Lib.hid hb5
          clear hb5
          cases d1 with
          | false =>
            have HE : Hid (nb = true) := by show _ = _; rw [← HNB.out]; rfl
            go_wp2_with fail
            go_meet
            case rel => exact ⟨by rw [HE.out], HB5.out⟩
          | true =>
            go_wp2_with fail
            refine (HD2.out _).mono ?_
            rintro e w6 ⟨rfl, hb6⟩
            have HB6 := Lib.hid (HB5.out.trans (hb6.mono HB5.out.size))
            clear hb6
            have HE : Hid (nb = !d2) := by show _ = _; rw [← HNB.out]; rfl
            go_wp2_with fail
            go_meet
            case rel => exact ⟨by rw [HE.out], HB6.out⟩
  case rest =>
    obtain ⟨rfl, HB4⟩ := hcut
    have HBW := Lib.hid (HB3.out.trans (HB4.out.mono HB3.out.size))
    have HKW : Hid (Blk wc w.heap.size 70 [.int .i64 0, .string ⟨#[]⟩, .string ⟨#[]⟩]) := HK3.out.same (Same.of_below (S := fun _ => True) HB4.out) trivial
    have f0 := HKW.out.frozen 0
    have f1 := HKW.out.frozen 1
    have f2 := HKW.out.frozen 2
    have d0 : wc.cell? ⟨w.heap.size, 0, none⟩ = some _ := HKW.out.cell 0
    have d1' : wc.cell? ⟨w.heap.size, 1, none⟩ = some _ := HKW.out.cell 1
    have d2' : wc.cell? ⟨w.heap.size, 2, none⟩ = some _ := HKW.out.cell 2
    cases nb with
    | true =>
      have HE : Hid (RF = none) := by
        cases N with
        | none => exact HP1.out rfl
        | some n =>
          refine HP2.out ?_
          rintro ⟨h1, h2, h3, h4⟩
          have := HNB.out
          rw [h1, h2, h3, h4] at this
          cases this
      go_wp2_with fail
      refine bodyPost_ret (v := ptE none) (by simp [results, Tryz.results74, go_sem, ptE, d0, d1', d2']) rfl ?_
      refine ⟨by rw [HE.out], ?_⟩
      refine ((HBW.out.setCell ?_ _).setCell ?_ _).setCell ?_ _ <;> exact Nat.le_refl _
    | false =>
      cases N with
      | none => have := HNB.out; cases ok <;> cases this
      | some n =>
        have HE : Hid (RF = some ⟨(n : Int), sn, sd⟩) := by
          refine HP3.out n rfl ?_
          have := HNB.out
          cases ok <;> cases al <;> cases d1 <;> cases d2 <;> simp at this ⊢
        simp only [Option.getD_some, Option.isSome_some]
        go_wp2_with fail
        refine bodyPost_ret (v := ptE (some ⟨(n : Int), sn, sd⟩)) (by simp [results, Tryz.results74, go_sem, ptE, d0, d1', d2']) rfl ?_
        refine ⟨by rw [HE.out], ?_⟩
        refine ((HBW.out.setCell ?_ _).setCell ?_ _).setCell ?_ _ <;> exact Nat.le_refl _
end Go.Proofs.YtpiiickhfcjnmaaGreatDoor
/- What readClip keeps while it reads the points of a clip. -/
namespace Go.Proofs.YtpiiickhfcjnmaaGreatDoor
open Go.RowKit Go.Dw

theorem blkGrown {w w' : World} {g : Nat} {t : TypeId} {cs : List Value} {row : Option Nat} (h : Blk w g t cs) (hg : w.grownBy w' row) (hne : some g ≠ row) : Blk w' g t cs := (hg.block g h.lt hne).trans h
theorem pnts_snoc {x : List UInt8} {n : Pnt} (hx : pntE x = some n) : ∀ {a : List (List UInt8)} {ns : List Pnt}, pntsE a = some ns → pntsE (a ++ [x]) = some (ns ++ [n])
  | [], ns, h => by
    injection h with h
    subst h
    show pntsE [x] = _
    rw [pntsE, hx]; rfl
  | y :: a, ns, h => by
    rw [pntsE] at h
    rw [List.cons_append, pntsE]
    cases hy : pntE y with
    | none => rw [hy] at h; cases h
    | some m =>
      rw [hy] at h
      cases ha : pntsE a with
      | none => rw [ha] at h; cases h
      | some ms =>
        rw [ha] at h
        injection h with h
        subst h
        simp only
        rw [pnts_snoc hx ha]; rfl
theorem pnts_stop {x : List UInt8} (r : List (List UInt8)) (hx : pntE x = none) : ∀ (a : List (List UInt8)), pntsE (a ++ x :: r) = none
  | [] => by
    show pntsE (x :: r) = none
    rw [pntsE, hx]
  | y :: a => by
    rw [List.cons_append, pntsE]
    cases hy : pntE y with
    | none => rfl
    | some m =>
      simp only
      rw [pnts_stop r hx a]; rfl
theorem pnts_len {a : List (List UInt8)} {ns : List Pnt} (h : pntsE a = some ns) : ns.length = a.length := by
  have := (pnts_back h).1
  rw [this, List.length_map]
/-- a clip that is being read: its points so far -/
def ClI (wo wr : World) (m : ByteArray) (x1 x2 x3 x4 x5 : Int) (A5 : Option Addr) (c5 : Nat) (ps : List Pnt) : Prop :=
  Blk wr wo.heap.size 36 [.string m, .int .i64 x1, .int .i64 x2, .int .i64 x3, .int .i64 x4, .int .i64 x5, .slice A5 ps.length c5] ∧ wr.ownsRow (wo.heap.size + 1) 70 3 (.slice A5 ps.length c5) ps.length (ps.flatMap Pnt.cs) ∧ Gq wo wr
theorem ClI.below {wo wr wq : World} {m : ByteArray} {x1 x2 x3 x4 x5 : Int} {A5 : Option Addr} {c5 : Nat} {ps : List Pnt} (h : ClI wo wr m x1 x2 x3 x4 x5 A5 c5 ps) (hq : Gq wr wq) : ClI wo wq m x1 x2 x3 x4 x5 A5 c5 ps :=
  ⟨h.1.same (Same.of_below (S := fun _ => True) hq) trivial, own_belowL h.2.1 hq, Gq.trans h.2.2 hq⟩
theorem cli_snoc {wo wq w8 : World} {o : Obj} {m : ByteArray} {x1 x2 x3 x4 x5 : Int} {A5 : Option Addr} {c5 : Nat} {ps : List Pnt} {p : Pnt} {g2 cap2 : Nat} (h : ClI wo wq m x1 x2 x3 x4 x5 A5 c5 ps)
    (hown : w8.ownsRow (wo.heap.size + 1) 70 3 (.slice (some ⟨g2, 0, none⟩) (ps.length + 1) cap2) (ps.length + 1) (ps.flatMap Pnt.cs ++ p.cs)) (hg : (wq.alloc o).grownBy w8 (Value.slice A5 ps.length c5).ownBlock) :
    Blk w8 wo.heap.size 36 [.string m, .int .i64 x1, .int .i64 x2, .int .i64 x3, .int .i64 x4, .int .i64 x5, .slice A5 ps.length c5] ∧
      ClI wo (w8.setCell ⟨wo.heap.size, 6, none⟩ (.slice (some ⟨g2, 0, none⟩) (ps.length + 1) cap2)) m x1 x2 x3 x4 x5 (some ⟨g2, 0, none⟩) cap2 (ps ++ [p]) := by
  have hlt : ∀ b, (Value.slice A5 ps.length c5).ownBlock = some b → wo.heap.size + 1 ≤ b ∧ b < wq.heap.size := h.2.1.lt
  have hA : Below wq.heap.size wq (wq.alloc o) := (Below.refl _ _).alloc (Nat.le_refl _) _
  have hs1 := h.1.lt
  have hblk : Blk w8 wo.heap.size 36 [.string m, .int .i64 x1, .int .i64 x2, .int .i64 x3, .int .i64 x4, .int .i64 x5, .slice A5 ps.length c5] :=
    blkGrown (h.1.same (Same.of_below (S := fun _ => True) hA) trivial) hg (fun e => by have := (hlt _ e.symm).1; omega)
  have hB8 : Gq wo w8 := Below.grown (Below.alloc h.2.2 (Below.size h.2.2) o) hg (by have := Below.size h.2.2; simp; omega) (fun b hb => by have := (hlt b hb).1; omega)
  refine ⟨hblk, ?_, ?_, Gq.set hB8 (Nat.le_refl _) _⟩
  · have := hblk.set_ 6 (.slice (some ⟨g2, 0, none⟩) (ps.length + 1) cap2)
    rw [List.length_append]
    exact this
  · rw [List.length_append, flat_snoc]
    exact ownsRow_setCell_below hown (by show wo.heap.size < _; omega) _
theorem ClI.rds {wo wr : World} {m : ByteArray} {x1 x2 x3 x4 x5 : Int} {A5 : Option Addr} {c5 : Nat} {ps : List Pnt} (h : ClI wo wr m x1 x2 x3 x4 x5 A5 c5 ps) : RdS (fun b => wo.heap.size + 1 ≤ b) wr A5 (ps.flatMap Pnt.cs) := by
  rcases h.2.1.2 with ⟨h0, h1⟩ | ⟨g, cap, cur, hv, hb, hg, _⟩
  · exact .inl (List.eq_nil_of_length_eq_zero (by rw [h.2.1.1, h1]))
  · injection hv with hv1 hv2 hv3
    subst hv1
    refine .inr ⟨g, 0, rfl, hb, (Array.getElem?_eq_some_iff.1 hg).1, fun j u hu => ?_⟩
    have := h.2.1.cells (g := g) rfl j u hu
    have hadd : (⟨g, 0, none⟩ : Addr).add j = ⟨g, 0 + j, none⟩ := by unfold Addr.add; split <;> simp_all
    rw [← hadd]; exact this
def clZero : Value := .agg #[.string ⟨#[]⟩, .int .i64 0, .int .i64 0, .int .i64 0, .int .i64 0, .int .i64 0, .slice none 0 0]
/-- what readClip says -/
def ClipR (w : World) (r : Option Cli) (e : Ending) (w' : World) : Prop :=
  Below w.heap.size w w' ∧ match r with
    | none => e = .returned (.tuple #[clZero, .bool false])
    | some c => ∃ A d, e = .returned (.tuple #[CliM.v ⟨c.m, c.ch, c.fr, c.tr, c.at_, c.ln, ⟨A, d, c.e⟩⟩, .bool true]) ∧ RdS (fun b => w.heap.size ≤ b) w' A (c.e.flatMap Pnt.cs)
theorem clipR_none {w w' : World} {r : Option Cli} {e : Ending} (h : r = none) (hb : Below w.heap.size w w') (he : e = .returned (.tuple #[clZero, .bool false])) : ClipR w r e w' := by
  subst h; exact ⟨hb, he⟩
theorem clipR_some {w w' : World} {r : Option Cli} {e : Ending} {c : Cli} {A : Option Addr} {d : Nat} (h : r = some c) (hb : Below w.heap.size w w') (hr : RdS (fun b => w.heap.size ≤ b) w' A (c.e.flatMap Pnt.cs))
    (he : e = .returned (.tuple #[CliM.v ⟨c.m, c.ch, c.fr, c.tr, c.at_, c.ln, ⟨A, d, c.e⟩⟩, .bool true])) : ClipR w r e w' := by
  subst h; exact ⟨hb, A, d, he, hr⟩
theorem cliW_no {w : List (List UInt8)} (h : w.length < 7 ∨ w.getD 0 [] ≠ wClip ∨ rowE (w.getD 1 []) = false) : cliW w = none := by unfold cliW; rw [if_pos h]
theorem cliW_num {w : List (List UInt8)} (h : numsE ((w.drop 2).take 5) = none) : cliW w = none := by
  unfold cliW
  split
  · rfl
  · rw [h]
theorem cliW_pnt {w : List (List UInt8)} (h : pntsE (w.drop 7) = none) : cliW w = none := by
  unfold cliW
  split
  · rfl
  · split
    · rfl
    · rw [h]; rfl
theorem cliW_yes {w : List (List UInt8)} {n0 n1 n2 n3 n4 : Nat} {e : List Pnt} (h : ¬ (w.length < 7 ∨ w.getD 0 [] ≠ wClip ∨ rowE (w.getD 1 []) = false)) (h1 : numsE ((w.drop 2).take 5) = some [n0, n1, n2, n3, n4]) (h2 : pntsE (w.drop 7) = some e) :
    cliW w = some ⟨mkE (w.getD 1 []), n0, n1, n2, n3, n4, e⟩ := by
  unfold cliW; rw [if_neg h, h1]; simp only; rw [h2]; rfl
theorem splitMem (z : UInt8) : ∀ (l p : List UInt8), p ∈ splitB z l → p.length ≤ l.length
  | [], p, h => by simp [splitB] at h; subst h; simp
  | c :: r, p, h => by
    unfold splitB at h
    split at h
    · rcases List.mem_cons.1 h with h | h
      · subst h; simp
      · have := splitMem z r p h; simp; omega
    · split at h
      · simp at h; subst h; simp
      · rename_i q1 q2 hq
        rcases List.mem_cons.1 h with h | h
        · subst h
          have := splitMem z r q1 (by rw [hq]; simp)
          simp; omega
        · have := splitMem z r p (by rw [hq]; simp [h]); simp; omega
theorem splitLe (z : UInt8) (l : List UInt8) : (splitB z l).length ≤ l.length + 1 := by
  rw [split_len]; have := List.count_le_length (a := z) (l := l); omega
theorem nmTrim (l : List UInt8) : (Lib.trimS l nameCs.data.toList).isEmpty = l.all okB := by
  have := nmTail_eq (mkE l)
  unfold nmTail at this
  rw [mkE_list] at this
  exact this
end Go.Proofs.YtpiiickhfcjnmaaGreatDoor
