/- 'copy' and 'append' of zeros at elements of k cells; whatever program. -/
import Derived.Test.YtnlnaglaipjlfaaGreatDoorBase
import Derived.Laws.CopyOwn
import Derived.Lib.AppendZerosOnto
import Derived.Lib.Overlaps
import Derived.Laws.Externs
namespace Go.Dw
open Go.RowKit
variable {P : Program}
theorem run_copy_rowK (w : World) (dT sT ty elem : TypeId) (g o dLen dCap : Nat) (a : Addr) (sLen sCap : Nat) (cur : Array Value) (t : TypeId) (cs : List Value) (k N : Nat)
    (hu : P.underlying dT = some (.slice elem)) (hs : (P.info? elem).map (·.size) = some k)
    (hg : w.heap[g]? = some (.cells cur t (0, 0))) (hN : N = Nat.min sLen dLen) (hn : cs.length = N * k)
    (hsrc : ∀ j v, cs[j]? = some v → w.cell? (a.add j) = some v) (hfit : o + cs.length ≤ cur.size) (h1 : ∀ v ∈ cs, v.oneCell' = true) :
    (Builtin.copy_ #[dT, sT] ty #[.slice (some ⟨g, o, none⟩) dLen dCap, .slice (some a) sLen sCap]).run P w =
      .ok (goInt N) (w.setRow g (cur.toList.take o ++ cs ++ cur.toList.drop (o + cs.length)).toArray) := by
  have hl := run_loadCells_list (P := P) w a cs hsrc
  have hst := run_storeCells_at P g o t cs 0 cur w hg (by simpa using hfit) h1
  rw [hn] at hl
  cases hq : P.info? elem with
  | none => simp [hq] at hs
  | some i =>
    have hi : i.size = k := by simpa [hq] using hs
    simp [Builtin.copy_, run_underlying hu, Builtin.lenOf, Builtin.firstCells, sizeOf, typeInfo, hq, hi, ← hN, hl, hst]
theorem step_copy_spliceK {ops : Array Oper} {o : Oper} {a : Act} {w : World} {K : Act → World → Prop} {Q : Exit → Act → World → Prop} {E : Prop} (hgd : o.guard = none) (d s : Operand) (dT sT : TypeId)
    (ho : o.op = .call { callee := .builtin .copy, args := #[d, s], argTypes := #[dT, sT] }) (elem : TypeId) (hu : P.underlying dT = some (.slice elem)) (k : Nat) (hsz : (P.info? elem).map (·.size) = some k)
    (ad : Addr) (dLen dCap sLen sCap : Nat) (g off : Nat) (hd : a.eval d = .slice (some ⟨g, off, none⟩) dLen dCap) (hs : a.eval s = .slice (some ad) sLen sCap)
    (cur : List Value) (t : TypeId) (hg : w.heap[g]? = some (.cells cur.toArray t (0, 0))) (cs : List Value) (N : Nat) (hN : N = Nat.min sLen dLen) (hn : cs.length = N * k)
    (hsrc : ∀ j v, cs[j]? = some v → w.cell? (ad.add j) = some v)
    (hfit : off + cs.length ≤ cur.length) (h1 : ∀ v ∈ cs, v.oneCell' = true) (B : Nat) (w0 : World) (hb : RowKit.Below B w0 w) (hBg : B ≤ g)
    (h : ∀ w', RowKit.Hid (w'.heap[g]? = some (.cells (splice cur off cs).toArray t (0, 0))) → RowKit.Hid (∀ j, j ≠ g → w'.heap[j]? = w.heap[j]?) → RowKit.Below B w0 w' → K (a.put o.dst (goInt N)) w') :
    if Region.wanted o (yielded ops a.tmps) = true then Oper.wp P o a w K Q else E := by
  have hw : Region.wanted o (yielded ops a.tmps) = true := by simp [Region.wanted, hgd]
  rw [if_pos hw]
  have hrun := run_copy_rowK (P := P) w dT sT o.type elem g off dLen dCap ad sLen sCap cur.toArray t cs k N hu hsz hg hN hn hsrc (by simpa using hfit) h1
  unfold Oper.wp
  simp [execOp, ho, resolve, invoke, builtin, hd, hs, hrun, Result.andThen]
  exact h _ (show _ = _ by simpa [splice] using setRow_heap w g _ _ t _ hg) (Lib.hid (fun j hj => setRow_other w g j _ hj)) (below_setRow hb hBg _)
theorem wpList_copy_spliceK {w : World} {ops : Array Oper} {rest : List Oper} {o : Oper} {a : Act} {Q : Exit → Act → World → Prop} (hgd : o.guard = none) (d s : Operand) (dT sT : TypeId)
    (ho : o.op = .call { callee := .builtin .copy, args := #[d, s], argTypes := #[dT, sT] }) (elem : TypeId) (hu : P.underlying dT = some (.slice elem)) (k : Nat) (hsz : (P.info? elem).map (·.size) = some k)
    (ad : Addr) (dLen dCap sLen sCap : Nat) (g off : Nat) (hd : a.eval d = .slice (some ⟨g, off, none⟩) dLen dCap) (hs : a.eval s = .slice (some ad) sLen sCap)
    (cur : List Value) (t : TypeId) (hg : w.heap[g]? = some (.cells cur.toArray t (0, 0))) (cs : List Value) (N : Nat) (hN : N = Nat.min sLen dLen) (hn : cs.length = N * k)
    (hsrc : ∀ j v, cs[j]? = some v → w.cell? (ad.add j) = some v)
    (hfit : off + cs.length ≤ cur.length) (h1 : ∀ v ∈ cs, v.oneCell' = true) (B : Nat) (w0 : World) (hb : RowKit.Below B w0 w) (hBg : B ≤ g)
    (h : ∀ w', RowKit.Hid (w'.heap[g]? = some (.cells (splice cur off cs).toArray t (0, 0))) → RowKit.Hid (∀ j, j ≠ g → w'.heap[j]? = w.heap[j]?) → RowKit.Below B w0 w' → wpList P ops Q rest (a.put o.dst (goInt N)) w') :
    wpList P ops Q (o :: rest) a w := by
  refine wpList_plain hgd fun K hK => ?_
  have hrun := run_copy_rowK (P := P) w dT sT o.type elem g off dLen dCap ad sLen sCap cur.toArray t cs k N hu hsz hg hN hn hsrc (by simpa using hfit) h1
  unfold Oper.wp
  simp [execOp, ho, resolve, invoke, builtin, hd, hs, hrun, Result.andThen]
  exact hK _ _ (h _ (show _ = _ by simpa [splice] using setRow_heap w g _ _ t _ hg) (Lib.hid (fun j hj => setRow_other w g j _ hj)) (below_setRow hb hBg _))
theorem toArr3 (a : List Value) (b c : Array Value) : (a ++ (b.toList ++ c.toList)).toArray = a.toArray ++ b ++ c := by
  apply Array.ext'; simp
theorem add_lit (g o j : Nat) : (⟨g, o, none⟩ : Addr).add j = ⟨g, o + j, none⟩ := by unfold Addr.add; split <;> simp_all
theorem cell_at_row {w : World} {g j : Nat} {cur : List Value} {t : TypeId} {v : Value} (hg : w.heap[g]? = some (.cells cur.toArray t (0, 0))) (h : cur[j]? = some v) : w.cell? ⟨g, j, none⟩ = some v := by
  simp [World.cell?, hg, h]
/-- the row behind both copies of an insertion in place -/
theorem ins_row {α : Type} {cur xs es : List α} {i n k : Nat} (hi : i ≤ n) (hx : cur.take (n * k) = xs) (hl : (n + 1) * k ≤ cur.length) (he : es.length = k) :
    (splice (splice cur ((i + 1) * k) (xs.drop (i * k))) (i * k) es).take ((n + 1) * k) = xs.take (i * k) ++ es ++ xs.drop (i * k) := by
  have hik : i * k ≤ n * k := Nat.mul_le_mul_right k hi
  rw [Nat.add_mul, Nat.one_mul] at hl ⊢
  have hxl : xs.length = n * k := by rw [← hx, List.length_take]; omega
  have hc1 : cur.take (i * k) = xs.take (i * k) := by rw [← hx, List.take_take, Nat.min_eq_left hik]
  rw [Nat.add_mul i, Nat.one_mul]
  generalize i * k = a at *
  generalize n * k = b at *
  subst he
  have hd : (xs.drop a).length = b - a := by rw [List.length_drop]; omega
  apply List.ext_getElem?
  intro j
  unfold splice
  rw [List.getElem?_take]
  by_cases h1 : j < a
  · rw [if_pos (by omega), List.getElem?_append_left (by simp; omega), List.getElem?_take_of_lt h1, List.getElem?_append_left (by simp; omega), List.getElem?_take_of_lt (by omega)]
    rw [List.append_assoc, List.getElem?_append_left (by simp; omega), ← hc1, List.getElem?_take_of_lt h1]
  · have hta : (xs.take a).length = a := by simp; omega
    have htc : (List.take (a + es.length) cur).length = a + es.length := by simp; omega
    have hs1 : (List.take a (List.take (a + es.length) cur ++ (xs.drop a ++ List.drop (a + es.length + (xs.drop a).length) cur))).length = a := by simp; omega
    have hR : (xs.take a ++ (es ++ xs.drop a))[j]? = (es ++ xs.drop a)[j - a]? := by rw [List.getElem?_append_right (by omega), hta]
    rw [List.append_assoc, hR, List.getElem?_append_right (by omega), hs1]
    by_cases h2 : j - a < es.length
    · rw [if_pos (by omega), List.getElem?_append_left h2, List.getElem?_append_left h2]
    · rw [List.getElem?_append_right (by omega), List.getElem?_append_right (by omega)]
      by_cases h3 : j < b + es.length
      · rw [if_pos h3, List.getElem?_drop, List.getElem?_append_right (by omega), htc, show a + es.length + (j - a - es.length) - (a + es.length) = j - a - es.length by omega, List.getElem?_append_left (by omega)]
      · rw [if_neg h3, List.getElem?_eq_none (by omega)]
/-- the row behind both copies of an insertion into a new row -/
theorem ins_rowN {α : Type} {xs es zs : List α} {i n k r : Nat} (hi : i ≤ n) (hx : xs.length = n * k) (hz : zs.length = (n + 1) * k - i * k + r) (he : es.length = k) :
    (splice (splice (xs.take (i * k) ++ zs) (i * k) es) ((i + 1) * k) (xs.drop (i * k))).take ((n + 1) * k) = xs.take (i * k) ++ es ++ xs.drop (i * k) := by
  have hik : i * k ≤ n * k := Nat.mul_le_mul_right k hi
  rw [Nat.add_mul, Nat.one_mul] at hz ⊢
  rw [Nat.add_mul i, Nat.one_mul]
  generalize i * k = a at *
  generalize n * k = b at *
  subst he
  have hta : (xs.take a).length = a := by simp; omega
  have hd : (xs.drop a).length = b - a := by rw [List.length_drop]; omega
  have e1 : splice (xs.take a ++ zs) a es = xs.take a ++ (es ++ zs.drop es.length) := by
    unfold splice
    rw [List.take_append_of_le_length (by omega), List.take_of_length_le (by omega), List.drop_append, hta, List.drop_eq_nil_of_le (as := xs.take a) (by omega)]
    simp
  rw [e1]
  unfold splice
  have e2 : (xs.take a ++ (es ++ zs.drop es.length)).take (a + es.length) = xs.take a ++ es := by
    rw [← List.append_assoc, List.take_append_of_le_length (by simp; omega), List.take_of_length_le (by simp; omega)]
  rw [e2, ← List.append_assoc, List.take_append_of_le_length (by simp; omega), List.take_of_length_le (by simp; omega)]
end Go.Dw
