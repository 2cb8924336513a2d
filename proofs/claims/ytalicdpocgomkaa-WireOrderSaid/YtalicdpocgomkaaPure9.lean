/- The model's order of strings is the order of bytes. No program. -/
import Derived.Test.YtalicdpocgomkaaPure7
import Derived.Lib.Strings
import Derived.WideShapes
import Derived.RowKit
namespace Go.Dx

theorem less_lex : ∀ a b : List UInt8, Op.bytesLess a b = lexLt a b
  | _, [] => by rename_i a; cases a <;> rfl
  | [], _ :: _ => rfl
  | x :: xs, y :: ys => by
    unfold Op.bytesLess lexLt
    rw [less_lex xs ys]
    by_cases h1 : x.toNat < y.toNat
    · have : x < y := h1
      simp [this, h1]
    · have h1' : ¬ x < y := h1
      by_cases h2 : y.toNat < x.toNat
      · have : x ≠ y := fun e => by subst e; omega
        simp [h1', h1, h2, this]
      · have : x = y := UInt8.toNat_inj.1 (by omega)
        subst this
        simp
theorem str_toList (l : List UInt8) : (ByteArray.mk l.toArray).toList = l := by rw [Lib.toList_data]
theorem str_extract (l : List UInt8) (k : Nat) : ((ByteArray.mk l.toArray).extract 0 k).toList = l.take k := by
  rw [Lib.toList_data]
  simp
section
variable {m n : Int} (m0 : -9223372036854775808 ≤ m) (m1 : m ≤ 9223372036854775807) (n0 : -9223372036854775808 ≤ n) (n1 : n ≤ 9223372036854775807)
include m0 m1 n0 n1
theorem ord_lt : Op.bytesLess (ByteArray.mk (encInt m).toArray).toList (ByteArray.mk (encInt n).toArray).toList = decide (m < n) := by
  rw [str_toList, str_toList, less_lex, enc_lex m0 m1 n0 n1]
theorem ord_eq : ((ByteArray.mk (encInt m).toArray).toList == (ByteArray.mk (encInt n).toArray).toList) = decide (m = n) := by
  rw [str_toList, str_toList]
  exact Bool.eq_iff_iff.2 (by rw [beq_iff_eq, decide_eq_true_iff, enc_inj m0 m1 n0 n1])
theorem ord_pre (k : Nat) (hk : k = min (encInt m).length (encInt n).length) : (((ByteArray.mk (encInt m).toArray).extract 0 k).toList == ((ByteArray.mk (encInt n).toArray).extract 0 k).toList) = decide (m = n) := by
  rw [str_extract, str_extract, hk]
  exact Bool.eq_iff_iff.2 (by rw [beq_iff_eq, decide_eq_true_iff, enc_prefix m0 m1 n0 n1])
end
end Go.Dx
