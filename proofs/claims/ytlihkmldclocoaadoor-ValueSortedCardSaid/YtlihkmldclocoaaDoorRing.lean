/- two, size, ring. -/
import Derived.Test.YtlihkmldclocoaaDoorDivide
import Derived.Test.YtlihkmldclocoaaDoorTotal0
namespace Go.Proofs.YtlihkmldclocoaaDoor
open Go.RowKit
set_option linter.unusedSimpArgs false
set_option linter.unusedVariables false

theorem noV_eq : (noV = numV 0) = False := by simp [noV, numV]


theorem wf64 (z : Int) : (Lit.int .i64 (wrap64 z)).wf = true := by
  simp [Lit.wf, IntKind.min, IntKind.max, IntKind.signed, IntKind.bits, wrap64]; omega
theorem wf_in {z : Int} (h : (Lit.int .i64 z).wf = true) : -9223372036854775808 ≤ z ∧ z ≤ 9223372036854775807 := by
  simpa [Lit.wf, IntKind.min, IntKind.max, IntKind.signed, IntKind.bits] using h
theorem in_wf {z : Int} (h : -9223372036854775808 ≤ z ∧ z ≤ 9223372036854775807) : (Lit.int .i64 z).wf = true := by
  simpa [Lit.wf, IntKind.min, IntKind.max, IntKind.signed, IntKind.bits] using h
theorem wrap64_k (z : Int) : ∃ k : Int, wrap64 z = z + k * 18446744073709551616 := ⟨-((z + 9223372036854775808) / 18446744073709551616), by unfold wrap64; omega⟩
theorem wrap64_add (z k : Int) : wrap64 (z + k * 18446744073709551616) = wrap64 z := by unfold wrap64; omega
theorem wrap64_in {z : Int} (h : -9223372036854775808 ≤ z ∧ z ≤ 9223372036854775807) : wrap64 z = z := by unfold wrap64; omega
theorem wrap64_mul_l (a b : Int) : wrap64 (wrap64 a * b) = wrap64 (a * b) := by
  obtain ⟨k, hk⟩ := wrap64_k a
  rw [hk, Int.add_mul, show k * 18446744073709551616 * b = (k * b) * 18446744073709551616 by rw [Int.mul_assoc, Int.mul_comm 18446744073709551616 b, ← Int.mul_assoc], wrap64_add]
theorem wrap64_mul_r (a b : Int) : wrap64 (a * wrap64 b) = wrap64 (a * b) := by rw [Int.mul_comm, wrap64_mul_l, Int.mul_comm]
theorem wrap64_add_l (a b : Int) : wrap64 (wrap64 a + b) = wrap64 (a + b) := by unfold wrap64; omega
theorem wrap64_add_r (a b : Int) : wrap64 (a + wrap64 b) = wrap64 (a + b) := by unfold wrap64; omega
theorem wrap64_sub_l (a b : Int) : wrap64 (wrap64 a - b) = wrap64 (a - b) := by unfold wrap64; omega

end Go.Proofs.YtlihkmldclocoaaDoor
