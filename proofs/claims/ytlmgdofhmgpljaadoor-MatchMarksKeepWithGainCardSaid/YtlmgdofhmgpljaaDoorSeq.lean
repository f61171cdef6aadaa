/- Strings that are equal, as Go compares them. -/
import Derived.Test.YtlmgdofhmgpljaaDoorStP
namespace Go.Proofs.YtlmgdofhmgpljaaDoor
open Go.RowKit Go.Dw

theorem seq_t {a b : ByteArray} (h : a = b) : (a.toList == b.toList) = true := by rw [h]; simp
theorem seq_f {a b : ByteArray} (h : ¬ a = b) : (a.toList == b.toList) = false := by
  rw [ByteArray.toList_eq, ByteArray.toList_eq, beq_eq_false_iff_ne]; exact fun e => h (ba_ext e)
end Go.Proofs.YtlmgdofhmgpljaaDoor
