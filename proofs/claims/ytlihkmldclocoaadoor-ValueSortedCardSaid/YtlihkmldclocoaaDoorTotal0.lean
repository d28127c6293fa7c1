/- ordered; the table 'takes' out of a row's condition; what Holds answers. -/
import Derived.Test.YtlihkmldclocoaaDoorLives
import Derived.Lib.LaidTab
import Derived.Lib.LaidU8
import Derived.Lay
namespace Go.Proofs.YtlihkmldclocoaaDoor
open Go.RowKit
set_option linter.unusedSimpArgs false
set_option linter.unusedVariables false

theorem takes_of_laid {W : World} {l : List (String × DataW Unit)} (h : laidMet Tryd.prog l W) (hm : ("pedigree/value.takes", Rows.laid_pedigree_value_takes) ∈ l) : Takes W := by
  obtain ⟨g, t, cs, fuel, p, hg, ht, hvar, hd⟩ := Lib.laidMet.reads h hm
  obtain rfl := Option.some.inj ((show Tryd.prog.globalNamed "pedigree/value.takes" = some 0 by kernel_rfl).symm.trans hg)
  obtain rfl := Option.some.inj ((show (Tryd.prog.globals[0]?).map (·.type) = some 61 by kernel_rfl).symm.trans ht)
  have hcs : cs.toList = ([0, 1, 2, 2, 2, 2, 2, 4, 3, 3, 3] : List Int).map fun z => Value.int .i8 z :=
    Lib.cells_of_tab (k := .i8) (zs := [0, 1, 2, 2, 2, 2, 2, 4, 3, 3, 3]) Tryd.underlying61 Tryd.underlying22 (by kernel_rfl) (by kernel_rfl) hd
  intro i hi
  rw [World.var?_cell hg hvar i, ← Array.getElem?_toList, hcs, List.getElem?_map]
  rcases (by omega : i = 0 ∨ i = 1 ∨ i = 2 ∨ i = 3 ∨ i = 4 ∨ i = 5 ∨ i = 6 ∨ i = 7 ∨ i = 8 ∨ i = 9 ∨ i = 10) with rfl | rfl | rfl | rfl | rfl | rfl | rfl | rfl | rfl | rfl | rfl <;> rfl

end Go.Proofs.YtlihkmldclocoaaDoor
