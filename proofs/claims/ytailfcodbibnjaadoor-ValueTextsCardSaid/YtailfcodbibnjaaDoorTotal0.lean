/- ordered; the table 'takes' out of a row's condition; what Holds answers. -/
import Derived.Test.YtailfcodbibnjaaDoorLives
import Derived.Lib.LaidTab
import Derived.Lib.LaidU8
import Derived.Lay
namespace Go.Proofs.YtailfcodbibnjaaDoor
open Go.RowKit
set_option linter.unusedSimpArgs false
set_option linter.unusedVariables false

theorem takes_of_laid {W : World} {l : List (String × DataW Unit)} (h : laidMet Tryd.prog l W) (hm : ("pedigree/value.takes", Rows.laid_pedigree_value_takes) ∈ l) : Takes W := by
  obtain ⟨g, t, cs, fuel, p, hg, ht, hvar, hd⟩ := Lib.laidMet.reads h hm
  obtain rfl := Option.some.inj ((show Tryd.prog.globalNamed "pedigree/value.takes" = some 0 by kernel_rfl).symm.trans hg)
  obtain rfl := Option.some.inj ((show (Tryd.prog.globals[0]?).map (·.type) = some 75 by kernel_rfl).symm.trans ht)
  have hcs : cs.toList = ([0, 1, 2, 2, 2, 2, 2, 4, 3, 3, 3] : List Int).map fun z => Value.int .i8 z :=
    Lib.cells_of_tab (k := .i8) (zs := [0, 1, 2, 2, 2, 2, 2, 4, 3, 3, 3]) Tryd.underlying75 Tryd.underlying22 (by kernel_rfl) (by kernel_rfl) hd
  intro i hi
  rw [World.var?_cell hg hvar i, ← Array.getElem?_toList, hcs, List.getElem?_map]
  rcases (by omega : i = 0 ∨ i = 1 ∨ i = 2 ∨ i = 3 ∨ i = 4 ∨ i = 5 ∨ i = 6 ∨ i = 7 ∨ i = 8 ∨ i = 9 ∨ i = 10) with rfl | rfl | rfl | rfl | rfl | rfl | rfl | rfl | rfl | rfl | rfl <;> rfl

set_option maxHeartbeats 4000000 in
theorem ordered_at (a b c : Int) (ha : a = -1 ∨ a = 0 ∨ a = 1) (hb : b = -1 ∨ b = 0 ∨ b = 1) (hc : c = -1 ∨ c = 0 ∨ c = 1) (h1 : a ≤ 0 → b ≤ 0 → c ≤ 0 ∧ (a < 0 ∨ b < 0 → c < 0)) (h2 : a ≥ 0 → b ≥ 0 → c ≥ 0) (w : World) :
    Calls Tryd.prog 24 #[.int .i64 a, .int .i64 b, .int .i64 c, .int .i64 (-a), .int .i64 (-b), .int .i64 (-c), .bool (decide (a = 0)), .bool (decide (b = 0)), .bool (decide (c = 0))] w fun e w' => e = .returned (.bool true) ∧ Fut w w' := by
  rcases ha with rfl | rfl | rfl <;> rcases hb with rfl | rfl | rfl <;> rcases hc with rfl | rfl | rfl <;> first
    | (exfalso; omega)
    | (clear h1 h2; go_enter Tryd.func24, Tryd.ntmps24; go_wp2; go_ret; exact ⟨rfl, Fut.refl _⟩)
theorem ordered_any {α : Type} [DecidableEq α] {c : α → α → Int} (h : Ord3 c) (x y z : α) (w : World) :
    Calls Tryd.prog 24 #[.int .i64 (c x y), .int .i64 (c y z), .int .i64 (c x z), .int .i64 (c y x), .int .i64 (c z y), .int .i64 (c z x), .bool (decide (x = y)), .bool (decide (y = z)), .bool (decide (x = z))] w fun e w' => e = .returned (.bool true) ∧ Fut w w' := by
  have hd : ∀ u v : α, decide (u = v) = decide (c u v = 0) := fun u v => by
    by_cases e : u = v
    · rw [decide_eq_true e, decide_eq_true ((h.zero u v).2 e)]
    · rw [decide_eq_false e, decide_eq_false fun k => e ((h.zero u v).1 k)]
  rw [h.swap x y, h.swap y z, h.swap x z, hd x y, hd y z, hd x z]
  refine ordered_at _ _ _ (h.rng x y) (h.rng y z) (h.rng x z) (fun h1 h2 => ⟨h.tr x y z h1 h2, fun h3 => ?_⟩) (fun h1 h2 => ?_) w
  · rcases h3 with h3 | h3
    · exact h.lt h3 h2
    · exact h.lt' h1 h3
  · have e1 := h.swap x y
    have e2 := h.swap y z
    have e3 := h.swap x z
    have := h.tr z y x (by omega) (by omega)
    omega
end Go.Proofs.YtailfcodbibnjaaDoor
