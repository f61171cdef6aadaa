/- The contract of the reference's limbs. -/
import Derived.Test.YtlmgdofhmgpljaaDoorLmbH
import Derived.Test.YtlmgdofhmgpljaaDoorShAtoi
namespace Go.Proofs.YtlmgdofhmgpljaaDoor
open Go.RowKit Go.Dw

theorem bytesWorld_below (w : World) (e : TypeId) (s : ByteArray) : Below w.heap.size w (Lib.bytesWorld w e s) :=
  ⟨rfl, rfl, rfl, by rw [Lib.bytesWorld_size]; omega, fun k hk => Lib.bytesWorld_at_old w e s k hk⟩
theorem atoiR_any (s : ByteArray) (w : World) (hn : s.data.toList ≠ []) (h : s.data.toList.all isD = true) (hs : s.size ≤ 18) :
    Calls Tryd.prog 39 #[.string s] w fun e w' => e = .returned (.tuple #[.int .i64 (valD s.data.toList : Int), .nilIface]) ∧ Below w.heap.size w w' :=
  (Any.strconv_Atoi Tryd.lays172 s _ hs (atoi_val hn h) w).mono fun _ _ ⟨h1, t, h2⟩ => ⟨h1, by rw [h2]; exact bytesWorld_below w _ t⟩
theorem ext_endL (s : ByteArray) (a b : Nat) : (s.extract a b).data.toList = (s.data.toList.take b).drop a := by
  rw [ByteArray.data_extract, Array.toList_extract, List.extract_eq_drop_take', List.drop_take, List.take_drop]
  try rw [List.drop_take]
/-- a number that is new -/
def LimF (n : Nat) (w : World) (e : Ending) (w' : World) : Prop := ∃ v, e = .returned v ∧ LimV w' v n ∧ FrB w.heap.size v ∧ Below w.heap.size w w'
/-- limbs under way: what is left is the text's beginning -/
def LmI (w wr : World) (s t : ByteArray) (A : Option Addr) (c : Nat) (p : List Nat) : Prop :=
  (Ds L4 p ∧ val L4 p + L4 ^ p.length * valD t.data.toList = valD s.data.toList ∧ t.data.toList.all isD = true ∧ p.length + t.size ≤ s.size) ∧ wr.ownsRow w.heap.size 3 1 (.slice A p.length c) p.length (nc p) ∧ Below w.heap.size w wr
set_option maxRecDepth 100000 in
set_option maxHeartbeats 8000000 in
theorem limbsR_any (s : ByteArray) (w : World) (hd : s.data.toList.all isD = true) (hs : s.size ≤ 1000000) :
    Calls Tryd.prog 28 #[.string s] w (LimF (valD s.data.toList) w) := by
  obtain ⟨ii, hii, hzi0, hzi1, hzi2⟩ := info_parts infoI
  have HD := Lib.hid hd
  clear hd
  go_enter Tryd.func28, Tryd.ntmps28
  go_wp2_with fail
  go_loopw [0, 3] (fun sv ov wr => ∃ (t : ByteArray) (p : List Nat) (A5 : Option Addr) (c5 : Nat), sv = .string t ∧ t.size ≤ 1000000 ∧ ov = .slice A5 p.length c5 ∧ Hid (LmI w wr s t A5 c5 p)) (fun sv _ _ => match sv with | .string t => t.size | _ => 0)
  case atStart => exact ⟨s, [], none, 0, rfl, hs, rfl, ⟨Ds.nil, by simp [val], HD.out, by simp⟩, World.ownsRow_nil _ _ _ _, Below.refl _ _⟩
  case round =>
    obtain ⟨t, p, A5, c5, rfl, ht, rfl, HI⟩ := hrel
    by_cases h0 : t.size = 0
    · have HO := Lib.hid HI.out.2.1
      have HB := Lib.hid HI.out.2.2
      have hpl : p.length ≤ 1000000 := by have := HI.out.1.2.2.2; omega
      have HV : Hid (val L4 p = valD s.data.toList) := by
        have := HI.out.1.2.1
        have e : t.data.toList = [] := List.eq_nil_of_length_eq_zero (by rw [Array.length_toList]; exact h0)
        rw [e] at this
        rw [show valD [] = 0 from rfl, Nat.mul_zero, Nat.add_zero] at this
        exact this
      have HTR := Lib.hid (trimR_any A5 c5 p wr (Rd.of_own HO.out) (by omega) (own_capL HO.out).1 (own_capL HO.out).2.1 (own_capL HO.out).2.2)
      have HDP := Lib.hid HI.out.1.1
      clear HI
      have hd0 : decide ((0 : Int) < (t.size : Int)) = false := decide_eq_false (by omega)
      have hd1 : ¬ 0 < t.size := by omega
      go_wp2_with fail
      refine HTR.out.mono ?_
      rintro e w' ⟨rfl, rfl⟩
      go_wp2_with fail
      go_ret
      refine ⟨_, rfl, ?_, ⟨fun b hb => (HO.out.lt b (by cases A5 <;> exact hb)).1, fun n c h => by injection h with h1 h2 h3; subst h3; exact (own_capL HO.out).2.2 h1⟩, HB.out⟩
      have := lim_of_trim (c := c5) (Rd.of_own HO.out) HDP.out
      rw [HV.out] at this
      exact this
    · have hd0 : decide ((0 : Int) < (t.size : Int)) = true := decide_eq_true (by omega)
      have h1 : 0 < t.size := by omega
      have HO := Lib.hid HI.out.2.1
      have HB := Lib.hid HI.out.2.2
      have hpl : p.length ≤ 1000000 := by have := HI.out.1.2.2.2; omega
      obtain ⟨K, hK⟩ : ∃ K : Nat, K = t.size - 4 := ⟨_, rfl⟩
      have hmx : max (0 : Int) ((t.size : Int) - 4) = (K : Int) := by omega
      have hkt : K < t.size := by omega
      have hk4 : t.size - K ≤ 4 := by omega
      have htl : t.data.toList.length = t.size := by rw [Array.length_toList]; rfl
      have hx1 : (t.extract K t.size).data.toList = t.data.toList.drop (t.data.toList.length - 4) := by
        rw [ext_endL, List.take_of_length_le (by omega), hK, htl]
      have hx2 : (t.extract 0 K).data.toList = t.data.toList.take (t.data.toList.length - 4) := by
        rw [ext_endL, List.drop_zero, hK, htl]
      have hxs : (t.extract 0 K).size = K := by
        have : (t.extract 0 K).data.toList.length = (t.extract 0 K).size := by rw [Array.length_toList]; rfl
        rw [← this, hx2, List.length_take, htl]; omega
      have HAT := Lib.hid (atoiR_any (t.extract K t.size) wr (by rw [hx1]; intro e; have := congrArg List.length e; rw [List.length_drop] at this; simp at this; omega) (by rw [hx1]; exact all_drop HI.out.1.2.2.1 _) (by
        have : (t.extract K t.size).data.toList.length = (t.extract K t.size).size := by rw [Array.length_toList]; rfl
        rw [← this, hx1, List.length_drop]; omega))
      obtain ⟨d, hd⟩ : ∃ d, d = valD (t.extract K t.size).data.toList := ⟨_, rfl⟩
      have hdl : d < L4 := by rw [hd, hx1]; exact lmb_lt HI.out.1.2.2.1
      have HNX : Hid (∀ W (g8 cap8 : Nat) (w8 : World), Below wr.heap.size wr W → w8.ownsRow w.heap.size 3 1 (.slice (some ⟨g8, 0, none⟩) (p.length + 1) cap8) (p.length + 1) (nc p ++ [.int .i64 (d : Int)]) → (W.alloc (.cells #[.int .i64 (d : Int)] 3)).grownBy w8 (Value.slice A5 p.length c5).ownBlock →
          LmI w w8 s (t.extract 0 K) (some ⟨g8, 0, none⟩) cap8 (p ++ [d])) := fun W g8 cap8 w8 hW h1 h2 => by
        obtain ⟨q1, q2, q3, q4⟩ := HI.out.1
        refine ⟨⟨q1.app (by intro x hx; simp at hx; subst hx; exact hdl), ?_, ?_, ?_⟩, ?_, ?_⟩
        · rw [hx2, hd, hx1]; exact lmb_step q2
        · rw [hx2]; exact all_take q3 _
        · rw [hxs, List.length_append]; simp only [List.length_singleton]; omega
        · rw [nc_append, List.length_append]; exact h1
        · have hb := HB.out.trans (hW.mono HB.out.size)
          exact Below.grown (hb.alloc hb.size _) h2 (by simp; have := hb.size; omega) (fun b hb => (HO.out.lt b hb).1)
      have hszr := HB.out.size
      clear hx1 hx2 hK hkt hk4 htl HI
      rw [← hd] at HAT
      have d63 : (d : Int) < 10000 := by have : L4 = 10000 := rfl; omega
      clear hd hdl
      go_wp2_with fail
      refine HAT.out.mono ?_
      rintro e w2 ⟨rfl, hb2⟩
      have HB2 := Lib.hid hb2
      have HOA := Lib.hid ((own_belowL HO.out hb2).alloc (.cells #[.int .i64 (d : Int)] 3))
      have hsz2 : w.heap.size ≤ w2.heap.size := by have := hb2.size; omega
      clear hb2 HAT
      go_wp2_with (at_builtin; refine wpList_append_lies _ rfl _ _ 25 rfl w.heap.size 3 ii _ 1 8 Tryd.underlying25 hii hzi0 hzi1 hzi2 rfl (by decide) _ _ _ rfl HOA.out ⟨w2.heap.size, 0, none⟩ 1 1 [.int .i64 (d : Int)] (by rfl) (by rfl) (World.news_of_block (cs := #[.int .i64 (d : Int)]) (t := 3) (fr := (0, 0)) (heap_alloc_new w2 _)) (by simp [Value.oneCell']) (by decide) (by unfold maxLen; omega) (by omega) (by simp; omega) (w2.heap.size + 1) (by simp) ?_; intro g8 cap8 w8 hown8 hgrow8 hat8 hlt8; have HF8 := Lib.hid (HNX.out w2 _ _ _ HB2.out hown8 hgrow8); clear hown8 hgrow8 hat8 hlt8)
      go_roundw
      case rel => exact ⟨t.extract 0 K, p ++ [d], _, _, rfl, by omega, by rw [List.length_append]; rfl, HF8⟩
      case measure => simp; omega
end Go.Proofs.YtlmgdofhmgpljaaDoor
