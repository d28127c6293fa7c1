/- The library's two errors are laid: out of the row's own words. -/
import Derived.Test.YtlihkmldclocoaaDoorSaid
import Derived.Test.YtlihkmldclocoaaDoorRows
import Derived.Stop.LaidErr
namespace Go.Proofs.YtlihkmldclocoaaDoor
open Go.RowKit Go.ChangeShapes Go.WideShapes Go.ChangeAt
set_option linter.unusedSimpArgs false
set_option linter.unusedVariables false

theorem boxV_at (w : World) (k n : Int) (s : ByteArray) (e : TypeId) : (w.alloc (.cells #[.int .i8 k, .int .i64 n, .string s] e)).cell? ⟨w.heap.size, 0, none⟩ = some (.int .i8 k) ∧ (w.alloc (.cells #[.int .i8 k, .int .i64 n, .string s] e)).cell? ⟨w.heap.size, 1, none⟩ = some (.int .i64 n) ∧ (w.alloc (.cells #[.int .i8 k, .int .i64 n, .string s] e)).cell? ⟨w.heap.size, 2, none⟩ = some (.string s) :=
  ⟨by go_simp, by go_simp, by go_simp⟩
theorem errs_row (u : TypeId) (h : Tryd.prog.typeName? 3 u = some "*errors.errorString") : u = 169 := by
  have star : "*" ++ "errors.errorString" = "*errors.errorString" := by decide
  exact Go.typeName_ptr_named (nm := "errors.errorString") (by rw [star]; kernel_rfl) (by kernel_rfl) (by decide) u (by rw [star]; exact h)
theorem errs_of_laid {W : World} {r : List (String × DataW Unit)} (h : laidMet Tryd.prog (("strconv.ErrRange", Rows.laid_strconv_ErrRange) :: ("strconv.ErrSyntax", Rows.laid_strconv_ErrSyntax) :: r) W) : Errs W := by
  obtain ⟨a1, _, h1, _⟩ := laid_sentinel h (show Tryd.prog.globalNamed "strconv.ErrRange" = some 3 by kernel_rfl) (show (Tryd.prog.globals[3]?).map (·.type) = some 70 by kernel_rfl) Tryd.underlying70 errs_row Tryd.underlying169 Tryd.underlying171 rfl rfl Tryd.underlying9 (by kernel_rfl) (by kernel_rfl)
  obtain ⟨a2, _, h2, _⟩ := laid_sentinel h.tail (show Tryd.prog.globalNamed "strconv.ErrSyntax" = some 2 by kernel_rfl) (show (Tryd.prog.globals[2]?).map (·.type) = some 70 by kernel_rfl) Tryd.underlying70 errs_row Tryd.underlying169 Tryd.underlying171 rfl rfl Tryd.underlying9 (by kernel_rfl) (by kernel_rfl)
  exact ⟨⟨_, _, h2⟩, _, _, h1⟩
end Go.Proofs.YtlihkmldclocoaaDoor
