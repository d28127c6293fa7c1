/- The law ValueTotal: the walk, where Compare answers 0. -/
import Derived.Test.YtailfcodbibnjaaDoorTotal0
namespace Go.Proofs.YtailfcodbibnjaaDoor
open Go.RowKit
set_option linter.unusedSimpArgs false
set_option linter.unusedVariables false

set_option maxHeartbeats 1000000 in
set_option maxRecDepth 100000 in
theorem total4 (x y z : V) (w : World) (hT : Takes w) (hx : x.ok) (hy : y.ok)
    (hc : cmpV x y = 0) (q1 : decide (x.k < y.k) = false) (q2 : (x.k == y.k) = true) (q3 : decide (x.n < y.n) = false) (q4 : (x.n == y.n) = true) (q5 : (x.s.toList == y.s.toList) = true) :
    Calls Tryd.prog 7 #[.agg #[.int .i8 x.k, .int .i64 x.n, .string x.s], .agg #[.int .i8 y.k, .int .i64 y.n, .string y.s], .agg #[.int .i8 z.k, .int .i64 z.n, .string z.s]] w fun e w' => e = .returned (.bool true) ∧ Fut w w' := by
  have hs : cmpV y x = 0 := by rw [ordV.swap x, hc]; rfl
  have qe : decide (x = y) = true := by have := ordV.zero x y; rw [hc] at this; simp at this; simpa using this
  have C : ∀ w, Calls Tryd.prog 29 #[.agg #[.int .i8 x.k, .int .i64 x.n, .string x.s], .agg #[.int .i8 y.k, .int .i64 y.n, .string y.s]] w fun e w' => e = .returned (.int .i64 (0)) ∧ Fut w w' := fun w => by have := compare_any x y w; rw [hc] at this; exact this
  have hs1 := Lib.hid hx.2.2
  have hs2 := Lib.hid hy.2.2
  have HX := Lib.hid hx; have HY := Lib.hid hy; have HC := Lib.hid hc; have HS := Lib.hid hs
  have HT := Lib.hid hT
  clear hx hy hc hs hT
  go_enter Tryd.func7, Tryd.ntmps7
  go_wp2
  refine wp_graph 33 [.d, .d, .d, .d, .d, .d, .d, .d, .d, .d, .d, .d, .d, .d, .d, .d, .d, .d, .d, .d, .d, .d, .d, .d, .d, .d, .d, .d, .d, .d, .d, .d, .d] (by kernel_rfl) (by kernel_rfl) (by kernel_rfl) ?_
  simp only [List.take_succ_cons, List.take_zero, List.drop_succ_cons, List.drop_zero, Exs]
  iterate 33 apply Exists.intro
  apply Run.call (wanted_none rfl _) (fun _ _ => by go_simp; exact ⟨rfl, rfl⟩)
  · intro w1 h1 hk
    have cx_0_0 : w1.cell? ⟨w.heap.size, 0, none⟩ = some (.int .i8 x.k) := Fut.cell h1 (by first | exact c0_0_0 | go_simp)
    have cx_0_1 : w1.cell? ⟨w.heap.size, 1, none⟩ = some (.int .i64 x.n) := Fut.cell h1 (by first | exact c0_0_1 | go_simp)
    have cx_0_2 : w1.cell? ⟨w.heap.size, 2, none⟩ = some (.string x.s) := Fut.cell h1 (by first | exact c0_0_2 | go_simp)
    have cx_1_0 : w1.cell? ⟨w.heap.size + 1, 0, none⟩ = some (.int .i8 y.k) := Fut.cell h1 (by first | exact c0_1_0 | go_simp)
    have cx_1_1 : w1.cell? ⟨w.heap.size + 1, 1, none⟩ = some (.int .i64 y.n) := Fut.cell h1 (by first | exact c0_1_1 | go_simp)
    have cx_1_2 : w1.cell? ⟨w.heap.size + 1, 2, none⟩ = some (.string y.s) := Fut.cell h1 (by first | exact c0_1_2 | go_simp)
    have cx_2_0 : w1.cell? ⟨w.heap.size + 2, 0, none⟩ = some (.int .i8 z.k) := Fut.cell h1 (by first | exact c0_2_0 | go_simp)
    have cx_2_1 : w1.cell? ⟨w.heap.size + 2, 1, none⟩ = some (.int .i64 z.n) := Fut.cell h1 (by first | exact c0_2_1 | go_simp)
    have cx_2_2 : w1.cell? ⟨w.heap.size + 2, 2, none⟩ = some (.string z.s) := Fut.cell h1 (by first | exact c0_2_2 | go_simp)
    exact lives_any _ (HT.out.fut (((Fut.alloc _ _).trans ((Fut.alloc _ _).trans ((Fut.alloc _ _).trans (Fut.drew _)))).trans h1))
  simp only [Act.put, List.setIfInBounds_toArray, List.set_cons_succ, List.set_cons_zero, List.nil_append, List.cons_append]
  apply Run.valG (wanted_none rfl _)
  · intro w1 h1 hk
    have cx_0_0 : w1.cell? ⟨w.heap.size, 0, none⟩ = some (.int .i8 x.k) := Fut.cell h1 (by first | exact c0_0_0 | go_simp)
    have cx_0_1 : w1.cell? ⟨w.heap.size, 1, none⟩ = some (.int .i64 x.n) := Fut.cell h1 (by first | exact c0_0_1 | go_simp)
    have cx_0_2 : w1.cell? ⟨w.heap.size, 2, none⟩ = some (.string x.s) := Fut.cell h1 (by first | exact c0_0_2 | go_simp)
    have cx_1_0 : w1.cell? ⟨w.heap.size + 1, 0, none⟩ = some (.int .i8 y.k) := Fut.cell h1 (by first | exact c0_1_0 | go_simp)
    have cx_1_1 : w1.cell? ⟨w.heap.size + 1, 1, none⟩ = some (.int .i64 y.n) := Fut.cell h1 (by first | exact c0_1_1 | go_simp)
    have cx_1_2 : w1.cell? ⟨w.heap.size + 1, 2, none⟩ = some (.string y.s) := Fut.cell h1 (by first | exact c0_1_2 | go_simp)
    have cx_2_0 : w1.cell? ⟨w.heap.size + 2, 0, none⟩ = some (.int .i8 z.k) := Fut.cell h1 (by first | exact c0_2_0 | go_simp)
    have cx_2_1 : w1.cell? ⟨w.heap.size + 2, 1, none⟩ = some (.int .i64 z.n) := Fut.cell h1 (by first | exact c0_2_1 | go_simp)
    have cx_2_2 : w1.cell? ⟨w.heap.size + 2, 2, none⟩ = some (.string z.s) := Fut.cell h1 (by first | exact c0_2_2 | go_simp)
    go_simp; rfl
  simp only [Act.put, List.setIfInBounds_toArray, List.set_cons_succ, List.set_cons_zero, List.nil_append, List.cons_append]
  apply Run.valG (wanted_none rfl _)
  · intro w1 h1 hk
    have cx_0_0 : w1.cell? ⟨w.heap.size, 0, none⟩ = some (.int .i8 x.k) := Fut.cell h1 (by first | exact c0_0_0 | go_simp)
    have cx_0_1 : w1.cell? ⟨w.heap.size, 1, none⟩ = some (.int .i64 x.n) := Fut.cell h1 (by first | exact c0_0_1 | go_simp)
    have cx_0_2 : w1.cell? ⟨w.heap.size, 2, none⟩ = some (.string x.s) := Fut.cell h1 (by first | exact c0_0_2 | go_simp)
    have cx_1_0 : w1.cell? ⟨w.heap.size + 1, 0, none⟩ = some (.int .i8 y.k) := Fut.cell h1 (by first | exact c0_1_0 | go_simp)
    have cx_1_1 : w1.cell? ⟨w.heap.size + 1, 1, none⟩ = some (.int .i64 y.n) := Fut.cell h1 (by first | exact c0_1_1 | go_simp)
    have cx_1_2 : w1.cell? ⟨w.heap.size + 1, 2, none⟩ = some (.string y.s) := Fut.cell h1 (by first | exact c0_1_2 | go_simp)
    have cx_2_0 : w1.cell? ⟨w.heap.size + 2, 0, none⟩ = some (.int .i8 z.k) := Fut.cell h1 (by first | exact c0_2_0 | go_simp)
    have cx_2_1 : w1.cell? ⟨w.heap.size + 2, 1, none⟩ = some (.int .i64 z.n) := Fut.cell h1 (by first | exact c0_2_1 | go_simp)
    have cx_2_2 : w1.cell? ⟨w.heap.size + 2, 2, none⟩ = some (.string z.s) := Fut.cell h1 (by first | exact c0_2_2 | go_simp)
    go_simp; rfl
  simp only [Act.put, List.setIfInBounds_toArray, List.set_cons_succ, List.set_cons_zero, List.nil_append, List.cons_append]
  apply Run.valG (by go_simp)
  · intro w1 h1 hk
    have cx_0_0 : w1.cell? ⟨w.heap.size, 0, none⟩ = some (.int .i8 x.k) := Fut.cell h1 (by first | exact c0_0_0 | go_simp)
    have cx_0_1 : w1.cell? ⟨w.heap.size, 1, none⟩ = some (.int .i64 x.n) := Fut.cell h1 (by first | exact c0_0_1 | go_simp)
    have cx_0_2 : w1.cell? ⟨w.heap.size, 2, none⟩ = some (.string x.s) := Fut.cell h1 (by first | exact c0_0_2 | go_simp)
    have cx_1_0 : w1.cell? ⟨w.heap.size + 1, 0, none⟩ = some (.int .i8 y.k) := Fut.cell h1 (by first | exact c0_1_0 | go_simp)
    have cx_1_1 : w1.cell? ⟨w.heap.size + 1, 1, none⟩ = some (.int .i64 y.n) := Fut.cell h1 (by first | exact c0_1_1 | go_simp)
    have cx_1_2 : w1.cell? ⟨w.heap.size + 1, 2, none⟩ = some (.string y.s) := Fut.cell h1 (by first | exact c0_1_2 | go_simp)
    have cx_2_0 : w1.cell? ⟨w.heap.size + 2, 0, none⟩ = some (.int .i8 z.k) := Fut.cell h1 (by first | exact c0_2_0 | go_simp)
    have cx_2_1 : w1.cell? ⟨w.heap.size + 2, 1, none⟩ = some (.int .i64 z.n) := Fut.cell h1 (by first | exact c0_2_1 | go_simp)
    have cx_2_2 : w1.cell? ⟨w.heap.size + 2, 2, none⟩ = some (.string z.s) := Fut.cell h1 (by first | exact c0_2_2 | go_simp)
    go_simp; rfl
  simp only [Act.put, List.setIfInBounds_toArray, List.set_cons_succ, List.set_cons_zero, List.nil_append, List.cons_append]
  apply Run.valG (by go_simp)
  · intro w1 h1 hk
    have cx_0_0 : w1.cell? ⟨w.heap.size, 0, none⟩ = some (.int .i8 x.k) := Fut.cell h1 (by first | exact c0_0_0 | go_simp)
    have cx_0_1 : w1.cell? ⟨w.heap.size, 1, none⟩ = some (.int .i64 x.n) := Fut.cell h1 (by first | exact c0_0_1 | go_simp)
    have cx_0_2 : w1.cell? ⟨w.heap.size, 2, none⟩ = some (.string x.s) := Fut.cell h1 (by first | exact c0_0_2 | go_simp)
    have cx_1_0 : w1.cell? ⟨w.heap.size + 1, 0, none⟩ = some (.int .i8 y.k) := Fut.cell h1 (by first | exact c0_1_0 | go_simp)
    have cx_1_1 : w1.cell? ⟨w.heap.size + 1, 1, none⟩ = some (.int .i64 y.n) := Fut.cell h1 (by first | exact c0_1_1 | go_simp)
    have cx_1_2 : w1.cell? ⟨w.heap.size + 1, 2, none⟩ = some (.string y.s) := Fut.cell h1 (by first | exact c0_1_2 | go_simp)
    have cx_2_0 : w1.cell? ⟨w.heap.size + 2, 0, none⟩ = some (.int .i8 z.k) := Fut.cell h1 (by first | exact c0_2_0 | go_simp)
    have cx_2_1 : w1.cell? ⟨w.heap.size + 2, 1, none⟩ = some (.int .i64 z.n) := Fut.cell h1 (by first | exact c0_2_1 | go_simp)
    have cx_2_2 : w1.cell? ⟨w.heap.size + 2, 2, none⟩ = some (.string z.s) := Fut.cell h1 (by first | exact c0_2_2 | go_simp)
    go_simp; rfl
  simp only [Act.put, List.setIfInBounds_toArray, List.set_cons_succ, List.set_cons_zero, List.nil_append, List.cons_append]
  apply Run.call (by go_simp) (fun _ _ => by go_simp; exact ⟨rfl, rfl⟩)
  · intro w1 h1 hk
    have cx_0_0 : w1.cell? ⟨w.heap.size, 0, none⟩ = some (.int .i8 x.k) := Fut.cell h1 (by first | exact c0_0_0 | go_simp)
    have cx_0_1 : w1.cell? ⟨w.heap.size, 1, none⟩ = some (.int .i64 x.n) := Fut.cell h1 (by first | exact c0_0_1 | go_simp)
    have cx_0_2 : w1.cell? ⟨w.heap.size, 2, none⟩ = some (.string x.s) := Fut.cell h1 (by first | exact c0_0_2 | go_simp)
    have cx_1_0 : w1.cell? ⟨w.heap.size + 1, 0, none⟩ = some (.int .i8 y.k) := Fut.cell h1 (by first | exact c0_1_0 | go_simp)
    have cx_1_1 : w1.cell? ⟨w.heap.size + 1, 1, none⟩ = some (.int .i64 y.n) := Fut.cell h1 (by first | exact c0_1_1 | go_simp)
    have cx_1_2 : w1.cell? ⟨w.heap.size + 1, 2, none⟩ = some (.string y.s) := Fut.cell h1 (by first | exact c0_1_2 | go_simp)
    have cx_2_0 : w1.cell? ⟨w.heap.size + 2, 0, none⟩ = some (.int .i8 z.k) := Fut.cell h1 (by first | exact c0_2_0 | go_simp)
    have cx_2_1 : w1.cell? ⟨w.heap.size + 2, 1, none⟩ = some (.int .i64 z.n) := Fut.cell h1 (by first | exact c0_2_1 | go_simp)
    have cx_2_2 : w1.cell? ⟨w.heap.size + 2, 2, none⟩ = some (.string z.s) := Fut.cell h1 (by first | exact c0_2_2 | go_simp)
    exact compare_any x y _
  simp only [Act.put, List.setIfInBounds_toArray, List.set_cons_succ, List.set_cons_zero, List.nil_append, List.cons_append]
  apply Run.valG (by go_simp)
  · intro w1 h1 hk
    have cx_0_0 : w1.cell? ⟨w.heap.size, 0, none⟩ = some (.int .i8 x.k) := Fut.cell h1 (by first | exact c0_0_0 | go_simp)
    have cx_0_1 : w1.cell? ⟨w.heap.size, 1, none⟩ = some (.int .i64 x.n) := Fut.cell h1 (by first | exact c0_0_1 | go_simp)
    have cx_0_2 : w1.cell? ⟨w.heap.size, 2, none⟩ = some (.string x.s) := Fut.cell h1 (by first | exact c0_0_2 | go_simp)
    have cx_1_0 : w1.cell? ⟨w.heap.size + 1, 0, none⟩ = some (.int .i8 y.k) := Fut.cell h1 (by first | exact c0_1_0 | go_simp)
    have cx_1_1 : w1.cell? ⟨w.heap.size + 1, 1, none⟩ = some (.int .i64 y.n) := Fut.cell h1 (by first | exact c0_1_1 | go_simp)
    have cx_1_2 : w1.cell? ⟨w.heap.size + 1, 2, none⟩ = some (.string y.s) := Fut.cell h1 (by first | exact c0_1_2 | go_simp)
    have cx_2_0 : w1.cell? ⟨w.heap.size + 2, 0, none⟩ = some (.int .i8 z.k) := Fut.cell h1 (by first | exact c0_2_0 | go_simp)
    have cx_2_1 : w1.cell? ⟨w.heap.size + 2, 1, none⟩ = some (.int .i64 z.n) := Fut.cell h1 (by first | exact c0_2_1 | go_simp)
    have cx_2_2 : w1.cell? ⟨w.heap.size + 2, 2, none⟩ = some (.string z.s) := Fut.cell h1 (by first | exact c0_2_2 | go_simp)
    go_simp; rfl
  simp only [Act.put, List.setIfInBounds_toArray, List.set_cons_succ, List.set_cons_zero, List.nil_append, List.cons_append]
  apply Run.valG (by go_simp)
  · intro w1 h1 hk
    have cx_0_0 : w1.cell? ⟨w.heap.size, 0, none⟩ = some (.int .i8 x.k) := Fut.cell h1 (by first | exact c0_0_0 | go_simp)
    have cx_0_1 : w1.cell? ⟨w.heap.size, 1, none⟩ = some (.int .i64 x.n) := Fut.cell h1 (by first | exact c0_0_1 | go_simp)
    have cx_0_2 : w1.cell? ⟨w.heap.size, 2, none⟩ = some (.string x.s) := Fut.cell h1 (by first | exact c0_0_2 | go_simp)
    have cx_1_0 : w1.cell? ⟨w.heap.size + 1, 0, none⟩ = some (.int .i8 y.k) := Fut.cell h1 (by first | exact c0_1_0 | go_simp)
    have cx_1_1 : w1.cell? ⟨w.heap.size + 1, 1, none⟩ = some (.int .i64 y.n) := Fut.cell h1 (by first | exact c0_1_1 | go_simp)
    have cx_1_2 : w1.cell? ⟨w.heap.size + 1, 2, none⟩ = some (.string y.s) := Fut.cell h1 (by first | exact c0_1_2 | go_simp)
    have cx_2_0 : w1.cell? ⟨w.heap.size + 2, 0, none⟩ = some (.int .i8 z.k) := Fut.cell h1 (by first | exact c0_2_0 | go_simp)
    have cx_2_1 : w1.cell? ⟨w.heap.size + 2, 1, none⟩ = some (.int .i64 z.n) := Fut.cell h1 (by first | exact c0_2_1 | go_simp)
    have cx_2_2 : w1.cell? ⟨w.heap.size + 2, 2, none⟩ = some (.string z.s) := Fut.cell h1 (by first | exact c0_2_2 | go_simp)
    go_simp; rfl
  simp only [Act.put, List.setIfInBounds_toArray, List.set_cons_succ, List.set_cons_zero, List.nil_append, List.cons_append]
  apply Run.call (by go_simp) (fun _ _ => by go_simp; exact ⟨rfl, rfl⟩)
  · intro w1 h1 hk
    have cx_0_0 : w1.cell? ⟨w.heap.size, 0, none⟩ = some (.int .i8 x.k) := Fut.cell h1 (by first | exact c0_0_0 | go_simp)
    have cx_0_1 : w1.cell? ⟨w.heap.size, 1, none⟩ = some (.int .i64 x.n) := Fut.cell h1 (by first | exact c0_0_1 | go_simp)
    have cx_0_2 : w1.cell? ⟨w.heap.size, 2, none⟩ = some (.string x.s) := Fut.cell h1 (by first | exact c0_0_2 | go_simp)
    have cx_1_0 : w1.cell? ⟨w.heap.size + 1, 0, none⟩ = some (.int .i8 y.k) := Fut.cell h1 (by first | exact c0_1_0 | go_simp)
    have cx_1_1 : w1.cell? ⟨w.heap.size + 1, 1, none⟩ = some (.int .i64 y.n) := Fut.cell h1 (by first | exact c0_1_1 | go_simp)
    have cx_1_2 : w1.cell? ⟨w.heap.size + 1, 2, none⟩ = some (.string y.s) := Fut.cell h1 (by first | exact c0_1_2 | go_simp)
    have cx_2_0 : w1.cell? ⟨w.heap.size + 2, 0, none⟩ = some (.int .i8 z.k) := Fut.cell h1 (by first | exact c0_2_0 | go_simp)
    have cx_2_1 : w1.cell? ⟨w.heap.size + 2, 1, none⟩ = some (.int .i64 z.n) := Fut.cell h1 (by first | exact c0_2_1 | go_simp)
    have cx_2_2 : w1.cell? ⟨w.heap.size + 2, 2, none⟩ = some (.string z.s) := Fut.cell h1 (by first | exact c0_2_2 | go_simp)
    exact compare_any y z _
  simp only [Act.put, List.setIfInBounds_toArray, List.set_cons_succ, List.set_cons_zero, List.nil_append, List.cons_append]
  apply Run.valG (by go_simp)
  · intro w1 h1 hk
    have cx_0_0 : w1.cell? ⟨w.heap.size, 0, none⟩ = some (.int .i8 x.k) := Fut.cell h1 (by first | exact c0_0_0 | go_simp)
    have cx_0_1 : w1.cell? ⟨w.heap.size, 1, none⟩ = some (.int .i64 x.n) := Fut.cell h1 (by first | exact c0_0_1 | go_simp)
    have cx_0_2 : w1.cell? ⟨w.heap.size, 2, none⟩ = some (.string x.s) := Fut.cell h1 (by first | exact c0_0_2 | go_simp)
    have cx_1_0 : w1.cell? ⟨w.heap.size + 1, 0, none⟩ = some (.int .i8 y.k) := Fut.cell h1 (by first | exact c0_1_0 | go_simp)
    have cx_1_1 : w1.cell? ⟨w.heap.size + 1, 1, none⟩ = some (.int .i64 y.n) := Fut.cell h1 (by first | exact c0_1_1 | go_simp)
    have cx_1_2 : w1.cell? ⟨w.heap.size + 1, 2, none⟩ = some (.string y.s) := Fut.cell h1 (by first | exact c0_1_2 | go_simp)
    have cx_2_0 : w1.cell? ⟨w.heap.size + 2, 0, none⟩ = some (.int .i8 z.k) := Fut.cell h1 (by first | exact c0_2_0 | go_simp)
    have cx_2_1 : w1.cell? ⟨w.heap.size + 2, 1, none⟩ = some (.int .i64 z.n) := Fut.cell h1 (by first | exact c0_2_1 | go_simp)
    have cx_2_2 : w1.cell? ⟨w.heap.size + 2, 2, none⟩ = some (.string z.s) := Fut.cell h1 (by first | exact c0_2_2 | go_simp)
    go_simp; rfl
  simp only [Act.put, List.setIfInBounds_toArray, List.set_cons_succ, List.set_cons_zero, List.nil_append, List.cons_append]
  apply Run.valG (by go_simp)
  · intro w1 h1 hk
    have cx_0_0 : w1.cell? ⟨w.heap.size, 0, none⟩ = some (.int .i8 x.k) := Fut.cell h1 (by first | exact c0_0_0 | go_simp)
    have cx_0_1 : w1.cell? ⟨w.heap.size, 1, none⟩ = some (.int .i64 x.n) := Fut.cell h1 (by first | exact c0_0_1 | go_simp)
    have cx_0_2 : w1.cell? ⟨w.heap.size, 2, none⟩ = some (.string x.s) := Fut.cell h1 (by first | exact c0_0_2 | go_simp)
    have cx_1_0 : w1.cell? ⟨w.heap.size + 1, 0, none⟩ = some (.int .i8 y.k) := Fut.cell h1 (by first | exact c0_1_0 | go_simp)
    have cx_1_1 : w1.cell? ⟨w.heap.size + 1, 1, none⟩ = some (.int .i64 y.n) := Fut.cell h1 (by first | exact c0_1_1 | go_simp)
    have cx_1_2 : w1.cell? ⟨w.heap.size + 1, 2, none⟩ = some (.string y.s) := Fut.cell h1 (by first | exact c0_1_2 | go_simp)
    have cx_2_0 : w1.cell? ⟨w.heap.size + 2, 0, none⟩ = some (.int .i8 z.k) := Fut.cell h1 (by first | exact c0_2_0 | go_simp)
    have cx_2_1 : w1.cell? ⟨w.heap.size + 2, 1, none⟩ = some (.int .i64 z.n) := Fut.cell h1 (by first | exact c0_2_1 | go_simp)
    have cx_2_2 : w1.cell? ⟨w.heap.size + 2, 2, none⟩ = some (.string z.s) := Fut.cell h1 (by first | exact c0_2_2 | go_simp)
    go_simp; rfl
  simp only [Act.put, List.setIfInBounds_toArray, List.set_cons_succ, List.set_cons_zero, List.nil_append, List.cons_append]
  apply Run.call (by go_simp) (fun _ _ => by go_simp; exact ⟨rfl, rfl⟩)
  · intro w1 h1 hk
    have cx_0_0 : w1.cell? ⟨w.heap.size, 0, none⟩ = some (.int .i8 x.k) := Fut.cell h1 (by first | exact c0_0_0 | go_simp)
    have cx_0_1 : w1.cell? ⟨w.heap.size, 1, none⟩ = some (.int .i64 x.n) := Fut.cell h1 (by first | exact c0_0_1 | go_simp)
    have cx_0_2 : w1.cell? ⟨w.heap.size, 2, none⟩ = some (.string x.s) := Fut.cell h1 (by first | exact c0_0_2 | go_simp)
    have cx_1_0 : w1.cell? ⟨w.heap.size + 1, 0, none⟩ = some (.int .i8 y.k) := Fut.cell h1 (by first | exact c0_1_0 | go_simp)
    have cx_1_1 : w1.cell? ⟨w.heap.size + 1, 1, none⟩ = some (.int .i64 y.n) := Fut.cell h1 (by first | exact c0_1_1 | go_simp)
    have cx_1_2 : w1.cell? ⟨w.heap.size + 1, 2, none⟩ = some (.string y.s) := Fut.cell h1 (by first | exact c0_1_2 | go_simp)
    have cx_2_0 : w1.cell? ⟨w.heap.size + 2, 0, none⟩ = some (.int .i8 z.k) := Fut.cell h1 (by first | exact c0_2_0 | go_simp)
    have cx_2_1 : w1.cell? ⟨w.heap.size + 2, 1, none⟩ = some (.int .i64 z.n) := Fut.cell h1 (by first | exact c0_2_1 | go_simp)
    have cx_2_2 : w1.cell? ⟨w.heap.size + 2, 2, none⟩ = some (.string z.s) := Fut.cell h1 (by first | exact c0_2_2 | go_simp)
    exact compare_any x z _
  simp only [Act.put, List.setIfInBounds_toArray, List.set_cons_succ, List.set_cons_zero, List.nil_append, List.cons_append]
  apply Run.valG (by go_simp)
  · intro w1 h1 hk
    have cx_0_0 : w1.cell? ⟨w.heap.size, 0, none⟩ = some (.int .i8 x.k) := Fut.cell h1 (by first | exact c0_0_0 | go_simp)
    have cx_0_1 : w1.cell? ⟨w.heap.size, 1, none⟩ = some (.int .i64 x.n) := Fut.cell h1 (by first | exact c0_0_1 | go_simp)
    have cx_0_2 : w1.cell? ⟨w.heap.size, 2, none⟩ = some (.string x.s) := Fut.cell h1 (by first | exact c0_0_2 | go_simp)
    have cx_1_0 : w1.cell? ⟨w.heap.size + 1, 0, none⟩ = some (.int .i8 y.k) := Fut.cell h1 (by first | exact c0_1_0 | go_simp)
    have cx_1_1 : w1.cell? ⟨w.heap.size + 1, 1, none⟩ = some (.int .i64 y.n) := Fut.cell h1 (by first | exact c0_1_1 | go_simp)
    have cx_1_2 : w1.cell? ⟨w.heap.size + 1, 2, none⟩ = some (.string y.s) := Fut.cell h1 (by first | exact c0_1_2 | go_simp)
    have cx_2_0 : w1.cell? ⟨w.heap.size + 2, 0, none⟩ = some (.int .i8 z.k) := Fut.cell h1 (by first | exact c0_2_0 | go_simp)
    have cx_2_1 : w1.cell? ⟨w.heap.size + 2, 1, none⟩ = some (.int .i64 z.n) := Fut.cell h1 (by first | exact c0_2_1 | go_simp)
    have cx_2_2 : w1.cell? ⟨w.heap.size + 2, 2, none⟩ = some (.string z.s) := Fut.cell h1 (by first | exact c0_2_2 | go_simp)
    go_simp; rfl
  simp only [Act.put, List.setIfInBounds_toArray, List.set_cons_succ, List.set_cons_zero, List.nil_append, List.cons_append]
  apply Run.valG (by go_simp)
  · intro w1 h1 hk
    have cx_0_0 : w1.cell? ⟨w.heap.size, 0, none⟩ = some (.int .i8 x.k) := Fut.cell h1 (by first | exact c0_0_0 | go_simp)
    have cx_0_1 : w1.cell? ⟨w.heap.size, 1, none⟩ = some (.int .i64 x.n) := Fut.cell h1 (by first | exact c0_0_1 | go_simp)
    have cx_0_2 : w1.cell? ⟨w.heap.size, 2, none⟩ = some (.string x.s) := Fut.cell h1 (by first | exact c0_0_2 | go_simp)
    have cx_1_0 : w1.cell? ⟨w.heap.size + 1, 0, none⟩ = some (.int .i8 y.k) := Fut.cell h1 (by first | exact c0_1_0 | go_simp)
    have cx_1_1 : w1.cell? ⟨w.heap.size + 1, 1, none⟩ = some (.int .i64 y.n) := Fut.cell h1 (by first | exact c0_1_1 | go_simp)
    have cx_1_2 : w1.cell? ⟨w.heap.size + 1, 2, none⟩ = some (.string y.s) := Fut.cell h1 (by first | exact c0_1_2 | go_simp)
    have cx_2_0 : w1.cell? ⟨w.heap.size + 2, 0, none⟩ = some (.int .i8 z.k) := Fut.cell h1 (by first | exact c0_2_0 | go_simp)
    have cx_2_1 : w1.cell? ⟨w.heap.size + 2, 1, none⟩ = some (.int .i64 z.n) := Fut.cell h1 (by first | exact c0_2_1 | go_simp)
    have cx_2_2 : w1.cell? ⟨w.heap.size + 2, 2, none⟩ = some (.string z.s) := Fut.cell h1 (by first | exact c0_2_2 | go_simp)
    go_simp; rfl
  simp only [Act.put, List.setIfInBounds_toArray, List.set_cons_succ, List.set_cons_zero, List.nil_append, List.cons_append]
  apply Run.call (by go_simp) (fun _ _ => by go_simp; exact ⟨rfl, rfl⟩)
  · intro w1 h1 hk
    have cx_0_0 : w1.cell? ⟨w.heap.size, 0, none⟩ = some (.int .i8 x.k) := Fut.cell h1 (by first | exact c0_0_0 | go_simp)
    have cx_0_1 : w1.cell? ⟨w.heap.size, 1, none⟩ = some (.int .i64 x.n) := Fut.cell h1 (by first | exact c0_0_1 | go_simp)
    have cx_0_2 : w1.cell? ⟨w.heap.size, 2, none⟩ = some (.string x.s) := Fut.cell h1 (by first | exact c0_0_2 | go_simp)
    have cx_1_0 : w1.cell? ⟨w.heap.size + 1, 0, none⟩ = some (.int .i8 y.k) := Fut.cell h1 (by first | exact c0_1_0 | go_simp)
    have cx_1_1 : w1.cell? ⟨w.heap.size + 1, 1, none⟩ = some (.int .i64 y.n) := Fut.cell h1 (by first | exact c0_1_1 | go_simp)
    have cx_1_2 : w1.cell? ⟨w.heap.size + 1, 2, none⟩ = some (.string y.s) := Fut.cell h1 (by first | exact c0_1_2 | go_simp)
    have cx_2_0 : w1.cell? ⟨w.heap.size + 2, 0, none⟩ = some (.int .i8 z.k) := Fut.cell h1 (by first | exact c0_2_0 | go_simp)
    have cx_2_1 : w1.cell? ⟨w.heap.size + 2, 1, none⟩ = some (.int .i64 z.n) := Fut.cell h1 (by first | exact c0_2_1 | go_simp)
    have cx_2_2 : w1.cell? ⟨w.heap.size + 2, 2, none⟩ = some (.string z.s) := Fut.cell h1 (by first | exact c0_2_2 | go_simp)
    exact compare_any y x _
  simp only [Act.put, List.setIfInBounds_toArray, List.set_cons_succ, List.set_cons_zero, List.nil_append, List.cons_append]
  apply Run.valG (by go_simp)
  · intro w1 h1 hk
    have cx_0_0 : w1.cell? ⟨w.heap.size, 0, none⟩ = some (.int .i8 x.k) := Fut.cell h1 (by first | exact c0_0_0 | go_simp)
    have cx_0_1 : w1.cell? ⟨w.heap.size, 1, none⟩ = some (.int .i64 x.n) := Fut.cell h1 (by first | exact c0_0_1 | go_simp)
    have cx_0_2 : w1.cell? ⟨w.heap.size, 2, none⟩ = some (.string x.s) := Fut.cell h1 (by first | exact c0_0_2 | go_simp)
    have cx_1_0 : w1.cell? ⟨w.heap.size + 1, 0, none⟩ = some (.int .i8 y.k) := Fut.cell h1 (by first | exact c0_1_0 | go_simp)
    have cx_1_1 : w1.cell? ⟨w.heap.size + 1, 1, none⟩ = some (.int .i64 y.n) := Fut.cell h1 (by first | exact c0_1_1 | go_simp)
    have cx_1_2 : w1.cell? ⟨w.heap.size + 1, 2, none⟩ = some (.string y.s) := Fut.cell h1 (by first | exact c0_1_2 | go_simp)
    have cx_2_0 : w1.cell? ⟨w.heap.size + 2, 0, none⟩ = some (.int .i8 z.k) := Fut.cell h1 (by first | exact c0_2_0 | go_simp)
    have cx_2_1 : w1.cell? ⟨w.heap.size + 2, 1, none⟩ = some (.int .i64 z.n) := Fut.cell h1 (by first | exact c0_2_1 | go_simp)
    have cx_2_2 : w1.cell? ⟨w.heap.size + 2, 2, none⟩ = some (.string z.s) := Fut.cell h1 (by first | exact c0_2_2 | go_simp)
    go_simp; rfl
  simp only [Act.put, List.setIfInBounds_toArray, List.set_cons_succ, List.set_cons_zero, List.nil_append, List.cons_append]
  apply Run.valG (by go_simp)
  · intro w1 h1 hk
    have cx_0_0 : w1.cell? ⟨w.heap.size, 0, none⟩ = some (.int .i8 x.k) := Fut.cell h1 (by first | exact c0_0_0 | go_simp)
    have cx_0_1 : w1.cell? ⟨w.heap.size, 1, none⟩ = some (.int .i64 x.n) := Fut.cell h1 (by first | exact c0_0_1 | go_simp)
    have cx_0_2 : w1.cell? ⟨w.heap.size, 2, none⟩ = some (.string x.s) := Fut.cell h1 (by first | exact c0_0_2 | go_simp)
    have cx_1_0 : w1.cell? ⟨w.heap.size + 1, 0, none⟩ = some (.int .i8 y.k) := Fut.cell h1 (by first | exact c0_1_0 | go_simp)
    have cx_1_1 : w1.cell? ⟨w.heap.size + 1, 1, none⟩ = some (.int .i64 y.n) := Fut.cell h1 (by first | exact c0_1_1 | go_simp)
    have cx_1_2 : w1.cell? ⟨w.heap.size + 1, 2, none⟩ = some (.string y.s) := Fut.cell h1 (by first | exact c0_1_2 | go_simp)
    have cx_2_0 : w1.cell? ⟨w.heap.size + 2, 0, none⟩ = some (.int .i8 z.k) := Fut.cell h1 (by first | exact c0_2_0 | go_simp)
    have cx_2_1 : w1.cell? ⟨w.heap.size + 2, 1, none⟩ = some (.int .i64 z.n) := Fut.cell h1 (by first | exact c0_2_1 | go_simp)
    have cx_2_2 : w1.cell? ⟨w.heap.size + 2, 2, none⟩ = some (.string z.s) := Fut.cell h1 (by first | exact c0_2_2 | go_simp)
    go_simp; rfl
  simp only [Act.put, List.setIfInBounds_toArray, List.set_cons_succ, List.set_cons_zero, List.nil_append, List.cons_append]
  apply Run.call (by go_simp) (fun _ _ => by go_simp; exact ⟨rfl, rfl⟩)
  · intro w1 h1 hk
    have cx_0_0 : w1.cell? ⟨w.heap.size, 0, none⟩ = some (.int .i8 x.k) := Fut.cell h1 (by first | exact c0_0_0 | go_simp)
    have cx_0_1 : w1.cell? ⟨w.heap.size, 1, none⟩ = some (.int .i64 x.n) := Fut.cell h1 (by first | exact c0_0_1 | go_simp)
    have cx_0_2 : w1.cell? ⟨w.heap.size, 2, none⟩ = some (.string x.s) := Fut.cell h1 (by first | exact c0_0_2 | go_simp)
    have cx_1_0 : w1.cell? ⟨w.heap.size + 1, 0, none⟩ = some (.int .i8 y.k) := Fut.cell h1 (by first | exact c0_1_0 | go_simp)
    have cx_1_1 : w1.cell? ⟨w.heap.size + 1, 1, none⟩ = some (.int .i64 y.n) := Fut.cell h1 (by first | exact c0_1_1 | go_simp)
    have cx_1_2 : w1.cell? ⟨w.heap.size + 1, 2, none⟩ = some (.string y.s) := Fut.cell h1 (by first | exact c0_1_2 | go_simp)
    have cx_2_0 : w1.cell? ⟨w.heap.size + 2, 0, none⟩ = some (.int .i8 z.k) := Fut.cell h1 (by first | exact c0_2_0 | go_simp)
    have cx_2_1 : w1.cell? ⟨w.heap.size + 2, 1, none⟩ = some (.int .i64 z.n) := Fut.cell h1 (by first | exact c0_2_1 | go_simp)
    have cx_2_2 : w1.cell? ⟨w.heap.size + 2, 2, none⟩ = some (.string z.s) := Fut.cell h1 (by first | exact c0_2_2 | go_simp)
    exact compare_any z y _
  simp only [Act.put, List.setIfInBounds_toArray, List.set_cons_succ, List.set_cons_zero, List.nil_append, List.cons_append]
  apply Run.valG (by go_simp)
  · intro w1 h1 hk
    have cx_0_0 : w1.cell? ⟨w.heap.size, 0, none⟩ = some (.int .i8 x.k) := Fut.cell h1 (by first | exact c0_0_0 | go_simp)
    have cx_0_1 : w1.cell? ⟨w.heap.size, 1, none⟩ = some (.int .i64 x.n) := Fut.cell h1 (by first | exact c0_0_1 | go_simp)
    have cx_0_2 : w1.cell? ⟨w.heap.size, 2, none⟩ = some (.string x.s) := Fut.cell h1 (by first | exact c0_0_2 | go_simp)
    have cx_1_0 : w1.cell? ⟨w.heap.size + 1, 0, none⟩ = some (.int .i8 y.k) := Fut.cell h1 (by first | exact c0_1_0 | go_simp)
    have cx_1_1 : w1.cell? ⟨w.heap.size + 1, 1, none⟩ = some (.int .i64 y.n) := Fut.cell h1 (by first | exact c0_1_1 | go_simp)
    have cx_1_2 : w1.cell? ⟨w.heap.size + 1, 2, none⟩ = some (.string y.s) := Fut.cell h1 (by first | exact c0_1_2 | go_simp)
    have cx_2_0 : w1.cell? ⟨w.heap.size + 2, 0, none⟩ = some (.int .i8 z.k) := Fut.cell h1 (by first | exact c0_2_0 | go_simp)
    have cx_2_1 : w1.cell? ⟨w.heap.size + 2, 1, none⟩ = some (.int .i64 z.n) := Fut.cell h1 (by first | exact c0_2_1 | go_simp)
    have cx_2_2 : w1.cell? ⟨w.heap.size + 2, 2, none⟩ = some (.string z.s) := Fut.cell h1 (by first | exact c0_2_2 | go_simp)
    go_simp; rfl
  simp only [Act.put, List.setIfInBounds_toArray, List.set_cons_succ, List.set_cons_zero, List.nil_append, List.cons_append]
  apply Run.valG (by go_simp)
  · intro w1 h1 hk
    have cx_0_0 : w1.cell? ⟨w.heap.size, 0, none⟩ = some (.int .i8 x.k) := Fut.cell h1 (by first | exact c0_0_0 | go_simp)
    have cx_0_1 : w1.cell? ⟨w.heap.size, 1, none⟩ = some (.int .i64 x.n) := Fut.cell h1 (by first | exact c0_0_1 | go_simp)
    have cx_0_2 : w1.cell? ⟨w.heap.size, 2, none⟩ = some (.string x.s) := Fut.cell h1 (by first | exact c0_0_2 | go_simp)
    have cx_1_0 : w1.cell? ⟨w.heap.size + 1, 0, none⟩ = some (.int .i8 y.k) := Fut.cell h1 (by first | exact c0_1_0 | go_simp)
    have cx_1_1 : w1.cell? ⟨w.heap.size + 1, 1, none⟩ = some (.int .i64 y.n) := Fut.cell h1 (by first | exact c0_1_1 | go_simp)
    have cx_1_2 : w1.cell? ⟨w.heap.size + 1, 2, none⟩ = some (.string y.s) := Fut.cell h1 (by first | exact c0_1_2 | go_simp)
    have cx_2_0 : w1.cell? ⟨w.heap.size + 2, 0, none⟩ = some (.int .i8 z.k) := Fut.cell h1 (by first | exact c0_2_0 | go_simp)
    have cx_2_1 : w1.cell? ⟨w.heap.size + 2, 1, none⟩ = some (.int .i64 z.n) := Fut.cell h1 (by first | exact c0_2_1 | go_simp)
    have cx_2_2 : w1.cell? ⟨w.heap.size + 2, 2, none⟩ = some (.string z.s) := Fut.cell h1 (by first | exact c0_2_2 | go_simp)
    go_simp; rfl
  simp only [Act.put, List.setIfInBounds_toArray, List.set_cons_succ, List.set_cons_zero, List.nil_append, List.cons_append]
  apply Run.call (by go_simp) (fun _ _ => by go_simp; exact ⟨rfl, rfl⟩)
  · intro w1 h1 hk
    have cx_0_0 : w1.cell? ⟨w.heap.size, 0, none⟩ = some (.int .i8 x.k) := Fut.cell h1 (by first | exact c0_0_0 | go_simp)
    have cx_0_1 : w1.cell? ⟨w.heap.size, 1, none⟩ = some (.int .i64 x.n) := Fut.cell h1 (by first | exact c0_0_1 | go_simp)
    have cx_0_2 : w1.cell? ⟨w.heap.size, 2, none⟩ = some (.string x.s) := Fut.cell h1 (by first | exact c0_0_2 | go_simp)
    have cx_1_0 : w1.cell? ⟨w.heap.size + 1, 0, none⟩ = some (.int .i8 y.k) := Fut.cell h1 (by first | exact c0_1_0 | go_simp)
    have cx_1_1 : w1.cell? ⟨w.heap.size + 1, 1, none⟩ = some (.int .i64 y.n) := Fut.cell h1 (by first | exact c0_1_1 | go_simp)
    have cx_1_2 : w1.cell? ⟨w.heap.size + 1, 2, none⟩ = some (.string y.s) := Fut.cell h1 (by first | exact c0_1_2 | go_simp)
    have cx_2_0 : w1.cell? ⟨w.heap.size + 2, 0, none⟩ = some (.int .i8 z.k) := Fut.cell h1 (by first | exact c0_2_0 | go_simp)
    have cx_2_1 : w1.cell? ⟨w.heap.size + 2, 1, none⟩ = some (.int .i64 z.n) := Fut.cell h1 (by first | exact c0_2_1 | go_simp)
    have cx_2_2 : w1.cell? ⟨w.heap.size + 2, 2, none⟩ = some (.string z.s) := Fut.cell h1 (by first | exact c0_2_2 | go_simp)
    exact compare_any z x _
  simp only [Act.put, List.setIfInBounds_toArray, List.set_cons_succ, List.set_cons_zero, List.nil_append, List.cons_append]
  apply Run.valG (by go_simp)
  · intro w1 h1 hk
    have cx_0_0 : w1.cell? ⟨w.heap.size, 0, none⟩ = some (.int .i8 x.k) := Fut.cell h1 (by first | exact c0_0_0 | go_simp)
    have cx_0_1 : w1.cell? ⟨w.heap.size, 1, none⟩ = some (.int .i64 x.n) := Fut.cell h1 (by first | exact c0_0_1 | go_simp)
    have cx_0_2 : w1.cell? ⟨w.heap.size, 2, none⟩ = some (.string x.s) := Fut.cell h1 (by first | exact c0_0_2 | go_simp)
    have cx_1_0 : w1.cell? ⟨w.heap.size + 1, 0, none⟩ = some (.int .i8 y.k) := Fut.cell h1 (by first | exact c0_1_0 | go_simp)
    have cx_1_1 : w1.cell? ⟨w.heap.size + 1, 1, none⟩ = some (.int .i64 y.n) := Fut.cell h1 (by first | exact c0_1_1 | go_simp)
    have cx_1_2 : w1.cell? ⟨w.heap.size + 1, 2, none⟩ = some (.string y.s) := Fut.cell h1 (by first | exact c0_1_2 | go_simp)
    have cx_2_0 : w1.cell? ⟨w.heap.size + 2, 0, none⟩ = some (.int .i8 z.k) := Fut.cell h1 (by first | exact c0_2_0 | go_simp)
    have cx_2_1 : w1.cell? ⟨w.heap.size + 2, 1, none⟩ = some (.int .i64 z.n) := Fut.cell h1 (by first | exact c0_2_1 | go_simp)
    have cx_2_2 : w1.cell? ⟨w.heap.size + 2, 2, none⟩ = some (.string z.s) := Fut.cell h1 (by first | exact c0_2_2 | go_simp)
    go_simp; rfl
  simp only [Act.put, List.setIfInBounds_toArray, List.set_cons_succ, List.set_cons_zero, List.nil_append, List.cons_append]
  apply Run.valG (by go_simp)
  · intro w1 h1 hk
    have cx_0_0 : w1.cell? ⟨w.heap.size, 0, none⟩ = some (.int .i8 x.k) := Fut.cell h1 (by first | exact c0_0_0 | go_simp)
    have cx_0_1 : w1.cell? ⟨w.heap.size, 1, none⟩ = some (.int .i64 x.n) := Fut.cell h1 (by first | exact c0_0_1 | go_simp)
    have cx_0_2 : w1.cell? ⟨w.heap.size, 2, none⟩ = some (.string x.s) := Fut.cell h1 (by first | exact c0_0_2 | go_simp)
    have cx_1_0 : w1.cell? ⟨w.heap.size + 1, 0, none⟩ = some (.int .i8 y.k) := Fut.cell h1 (by first | exact c0_1_0 | go_simp)
    have cx_1_1 : w1.cell? ⟨w.heap.size + 1, 1, none⟩ = some (.int .i64 y.n) := Fut.cell h1 (by first | exact c0_1_1 | go_simp)
    have cx_1_2 : w1.cell? ⟨w.heap.size + 1, 2, none⟩ = some (.string y.s) := Fut.cell h1 (by first | exact c0_1_2 | go_simp)
    have cx_2_0 : w1.cell? ⟨w.heap.size + 2, 0, none⟩ = some (.int .i8 z.k) := Fut.cell h1 (by first | exact c0_2_0 | go_simp)
    have cx_2_1 : w1.cell? ⟨w.heap.size + 2, 1, none⟩ = some (.int .i64 z.n) := Fut.cell h1 (by first | exact c0_2_1 | go_simp)
    have cx_2_2 : w1.cell? ⟨w.heap.size + 2, 2, none⟩ = some (.string z.s) := Fut.cell h1 (by first | exact c0_2_2 | go_simp)
    go_simp; rfl
  simp only [Act.put, List.setIfInBounds_toArray, List.set_cons_succ, List.set_cons_zero, List.nil_append, List.cons_append]
  apply Run.valG (by go_simp)
  · intro w1 h1 hk
    have cx_0_0 : w1.cell? ⟨w.heap.size, 0, none⟩ = some (.int .i8 x.k) := Fut.cell h1 (by first | exact c0_0_0 | go_simp)
    have cx_0_1 : w1.cell? ⟨w.heap.size, 1, none⟩ = some (.int .i64 x.n) := Fut.cell h1 (by first | exact c0_0_1 | go_simp)
    have cx_0_2 : w1.cell? ⟨w.heap.size, 2, none⟩ = some (.string x.s) := Fut.cell h1 (by first | exact c0_0_2 | go_simp)
    have cx_1_0 : w1.cell? ⟨w.heap.size + 1, 0, none⟩ = some (.int .i8 y.k) := Fut.cell h1 (by first | exact c0_1_0 | go_simp)
    have cx_1_1 : w1.cell? ⟨w.heap.size + 1, 1, none⟩ = some (.int .i64 y.n) := Fut.cell h1 (by first | exact c0_1_1 | go_simp)
    have cx_1_2 : w1.cell? ⟨w.heap.size + 1, 2, none⟩ = some (.string y.s) := Fut.cell h1 (by first | exact c0_1_2 | go_simp)
    have cx_2_0 : w1.cell? ⟨w.heap.size + 2, 0, none⟩ = some (.int .i8 z.k) := Fut.cell h1 (by first | exact c0_2_0 | go_simp)
    have cx_2_1 : w1.cell? ⟨w.heap.size + 2, 1, none⟩ = some (.int .i64 z.n) := Fut.cell h1 (by first | exact c0_2_1 | go_simp)
    have cx_2_2 : w1.cell? ⟨w.heap.size + 2, 2, none⟩ = some (.string z.s) := Fut.cell h1 (by first | exact c0_2_2 | go_simp)
    exact exec_eqV rfl x y rfl rfl w1
  simp only [Act.put, List.setIfInBounds_toArray, List.set_cons_succ, List.set_cons_zero, List.nil_append, List.cons_append]
  apply Run.valG (by go_simp)
  · intro w1 h1 hk
    have cx_0_0 : w1.cell? ⟨w.heap.size, 0, none⟩ = some (.int .i8 x.k) := Fut.cell h1 (by first | exact c0_0_0 | go_simp)
    have cx_0_1 : w1.cell? ⟨w.heap.size, 1, none⟩ = some (.int .i64 x.n) := Fut.cell h1 (by first | exact c0_0_1 | go_simp)
    have cx_0_2 : w1.cell? ⟨w.heap.size, 2, none⟩ = some (.string x.s) := Fut.cell h1 (by first | exact c0_0_2 | go_simp)
    have cx_1_0 : w1.cell? ⟨w.heap.size + 1, 0, none⟩ = some (.int .i8 y.k) := Fut.cell h1 (by first | exact c0_1_0 | go_simp)
    have cx_1_1 : w1.cell? ⟨w.heap.size + 1, 1, none⟩ = some (.int .i64 y.n) := Fut.cell h1 (by first | exact c0_1_1 | go_simp)
    have cx_1_2 : w1.cell? ⟨w.heap.size + 1, 2, none⟩ = some (.string y.s) := Fut.cell h1 (by first | exact c0_1_2 | go_simp)
    have cx_2_0 : w1.cell? ⟨w.heap.size + 2, 0, none⟩ = some (.int .i8 z.k) := Fut.cell h1 (by first | exact c0_2_0 | go_simp)
    have cx_2_1 : w1.cell? ⟨w.heap.size + 2, 1, none⟩ = some (.int .i64 z.n) := Fut.cell h1 (by first | exact c0_2_1 | go_simp)
    have cx_2_2 : w1.cell? ⟨w.heap.size + 2, 2, none⟩ = some (.string z.s) := Fut.cell h1 (by first | exact c0_2_2 | go_simp)
    go_simp; rfl
  simp only [Act.put, List.setIfInBounds_toArray, List.set_cons_succ, List.set_cons_zero, List.nil_append, List.cons_append]
  apply Run.valG (by go_simp)
  · intro w1 h1 hk
    have cx_0_0 : w1.cell? ⟨w.heap.size, 0, none⟩ = some (.int .i8 x.k) := Fut.cell h1 (by first | exact c0_0_0 | go_simp)
    have cx_0_1 : w1.cell? ⟨w.heap.size, 1, none⟩ = some (.int .i64 x.n) := Fut.cell h1 (by first | exact c0_0_1 | go_simp)
    have cx_0_2 : w1.cell? ⟨w.heap.size, 2, none⟩ = some (.string x.s) := Fut.cell h1 (by first | exact c0_0_2 | go_simp)
    have cx_1_0 : w1.cell? ⟨w.heap.size + 1, 0, none⟩ = some (.int .i8 y.k) := Fut.cell h1 (by first | exact c0_1_0 | go_simp)
    have cx_1_1 : w1.cell? ⟨w.heap.size + 1, 1, none⟩ = some (.int .i64 y.n) := Fut.cell h1 (by first | exact c0_1_1 | go_simp)
    have cx_1_2 : w1.cell? ⟨w.heap.size + 1, 2, none⟩ = some (.string y.s) := Fut.cell h1 (by first | exact c0_1_2 | go_simp)
    have cx_2_0 : w1.cell? ⟨w.heap.size + 2, 0, none⟩ = some (.int .i8 z.k) := Fut.cell h1 (by first | exact c0_2_0 | go_simp)
    have cx_2_1 : w1.cell? ⟨w.heap.size + 2, 1, none⟩ = some (.int .i64 z.n) := Fut.cell h1 (by first | exact c0_2_1 | go_simp)
    have cx_2_2 : w1.cell? ⟨w.heap.size + 2, 2, none⟩ = some (.string z.s) := Fut.cell h1 (by first | exact c0_2_2 | go_simp)
    go_simp; rfl
  simp only [Act.put, List.setIfInBounds_toArray, List.set_cons_succ, List.set_cons_zero, List.nil_append, List.cons_append]
  apply Run.valG (by go_simp)
  · intro w1 h1 hk
    have cx_0_0 : w1.cell? ⟨w.heap.size, 0, none⟩ = some (.int .i8 x.k) := Fut.cell h1 (by first | exact c0_0_0 | go_simp)
    have cx_0_1 : w1.cell? ⟨w.heap.size, 1, none⟩ = some (.int .i64 x.n) := Fut.cell h1 (by first | exact c0_0_1 | go_simp)
    have cx_0_2 : w1.cell? ⟨w.heap.size, 2, none⟩ = some (.string x.s) := Fut.cell h1 (by first | exact c0_0_2 | go_simp)
    have cx_1_0 : w1.cell? ⟨w.heap.size + 1, 0, none⟩ = some (.int .i8 y.k) := Fut.cell h1 (by first | exact c0_1_0 | go_simp)
    have cx_1_1 : w1.cell? ⟨w.heap.size + 1, 1, none⟩ = some (.int .i64 y.n) := Fut.cell h1 (by first | exact c0_1_1 | go_simp)
    have cx_1_2 : w1.cell? ⟨w.heap.size + 1, 2, none⟩ = some (.string y.s) := Fut.cell h1 (by first | exact c0_1_2 | go_simp)
    have cx_2_0 : w1.cell? ⟨w.heap.size + 2, 0, none⟩ = some (.int .i8 z.k) := Fut.cell h1 (by first | exact c0_2_0 | go_simp)
    have cx_2_1 : w1.cell? ⟨w.heap.size + 2, 1, none⟩ = some (.int .i64 z.n) := Fut.cell h1 (by first | exact c0_2_1 | go_simp)
    have cx_2_2 : w1.cell? ⟨w.heap.size + 2, 2, none⟩ = some (.string z.s) := Fut.cell h1 (by first | exact c0_2_2 | go_simp)
    exact exec_eqV rfl y z rfl rfl w1
  simp only [Act.put, List.setIfInBounds_toArray, List.set_cons_succ, List.set_cons_zero, List.nil_append, List.cons_append]
  apply Run.valG (by go_simp)
  · intro w1 h1 hk
    have cx_0_0 : w1.cell? ⟨w.heap.size, 0, none⟩ = some (.int .i8 x.k) := Fut.cell h1 (by first | exact c0_0_0 | go_simp)
    have cx_0_1 : w1.cell? ⟨w.heap.size, 1, none⟩ = some (.int .i64 x.n) := Fut.cell h1 (by first | exact c0_0_1 | go_simp)
    have cx_0_2 : w1.cell? ⟨w.heap.size, 2, none⟩ = some (.string x.s) := Fut.cell h1 (by first | exact c0_0_2 | go_simp)
    have cx_1_0 : w1.cell? ⟨w.heap.size + 1, 0, none⟩ = some (.int .i8 y.k) := Fut.cell h1 (by first | exact c0_1_0 | go_simp)
    have cx_1_1 : w1.cell? ⟨w.heap.size + 1, 1, none⟩ = some (.int .i64 y.n) := Fut.cell h1 (by first | exact c0_1_1 | go_simp)
    have cx_1_2 : w1.cell? ⟨w.heap.size + 1, 2, none⟩ = some (.string y.s) := Fut.cell h1 (by first | exact c0_1_2 | go_simp)
    have cx_2_0 : w1.cell? ⟨w.heap.size + 2, 0, none⟩ = some (.int .i8 z.k) := Fut.cell h1 (by first | exact c0_2_0 | go_simp)
    have cx_2_1 : w1.cell? ⟨w.heap.size + 2, 1, none⟩ = some (.int .i64 z.n) := Fut.cell h1 (by first | exact c0_2_1 | go_simp)
    have cx_2_2 : w1.cell? ⟨w.heap.size + 2, 2, none⟩ = some (.string z.s) := Fut.cell h1 (by first | exact c0_2_2 | go_simp)
    go_simp; rfl
  simp only [Act.put, List.setIfInBounds_toArray, List.set_cons_succ, List.set_cons_zero, List.nil_append, List.cons_append]
  apply Run.valG (by go_simp)
  · intro w1 h1 hk
    have cx_0_0 : w1.cell? ⟨w.heap.size, 0, none⟩ = some (.int .i8 x.k) := Fut.cell h1 (by first | exact c0_0_0 | go_simp)
    have cx_0_1 : w1.cell? ⟨w.heap.size, 1, none⟩ = some (.int .i64 x.n) := Fut.cell h1 (by first | exact c0_0_1 | go_simp)
    have cx_0_2 : w1.cell? ⟨w.heap.size, 2, none⟩ = some (.string x.s) := Fut.cell h1 (by first | exact c0_0_2 | go_simp)
    have cx_1_0 : w1.cell? ⟨w.heap.size + 1, 0, none⟩ = some (.int .i8 y.k) := Fut.cell h1 (by first | exact c0_1_0 | go_simp)
    have cx_1_1 : w1.cell? ⟨w.heap.size + 1, 1, none⟩ = some (.int .i64 y.n) := Fut.cell h1 (by first | exact c0_1_1 | go_simp)
    have cx_1_2 : w1.cell? ⟨w.heap.size + 1, 2, none⟩ = some (.string y.s) := Fut.cell h1 (by first | exact c0_1_2 | go_simp)
    have cx_2_0 : w1.cell? ⟨w.heap.size + 2, 0, none⟩ = some (.int .i8 z.k) := Fut.cell h1 (by first | exact c0_2_0 | go_simp)
    have cx_2_1 : w1.cell? ⟨w.heap.size + 2, 1, none⟩ = some (.int .i64 z.n) := Fut.cell h1 (by first | exact c0_2_1 | go_simp)
    have cx_2_2 : w1.cell? ⟨w.heap.size + 2, 2, none⟩ = some (.string z.s) := Fut.cell h1 (by first | exact c0_2_2 | go_simp)
    go_simp; rfl
  simp only [Act.put, List.setIfInBounds_toArray, List.set_cons_succ, List.set_cons_zero, List.nil_append, List.cons_append]
  apply Run.valG (by go_simp)
  · intro w1 h1 hk
    have cx_0_0 : w1.cell? ⟨w.heap.size, 0, none⟩ = some (.int .i8 x.k) := Fut.cell h1 (by first | exact c0_0_0 | go_simp)
    have cx_0_1 : w1.cell? ⟨w.heap.size, 1, none⟩ = some (.int .i64 x.n) := Fut.cell h1 (by first | exact c0_0_1 | go_simp)
    have cx_0_2 : w1.cell? ⟨w.heap.size, 2, none⟩ = some (.string x.s) := Fut.cell h1 (by first | exact c0_0_2 | go_simp)
    have cx_1_0 : w1.cell? ⟨w.heap.size + 1, 0, none⟩ = some (.int .i8 y.k) := Fut.cell h1 (by first | exact c0_1_0 | go_simp)
    have cx_1_1 : w1.cell? ⟨w.heap.size + 1, 1, none⟩ = some (.int .i64 y.n) := Fut.cell h1 (by first | exact c0_1_1 | go_simp)
    have cx_1_2 : w1.cell? ⟨w.heap.size + 1, 2, none⟩ = some (.string y.s) := Fut.cell h1 (by first | exact c0_1_2 | go_simp)
    have cx_2_0 : w1.cell? ⟨w.heap.size + 2, 0, none⟩ = some (.int .i8 z.k) := Fut.cell h1 (by first | exact c0_2_0 | go_simp)
    have cx_2_1 : w1.cell? ⟨w.heap.size + 2, 1, none⟩ = some (.int .i64 z.n) := Fut.cell h1 (by first | exact c0_2_1 | go_simp)
    have cx_2_2 : w1.cell? ⟨w.heap.size + 2, 2, none⟩ = some (.string z.s) := Fut.cell h1 (by first | exact c0_2_2 | go_simp)
    exact exec_eqV rfl x z rfl rfl w1
  simp only [Act.put, List.setIfInBounds_toArray, List.set_cons_succ, List.set_cons_zero, List.nil_append, List.cons_append]
  apply Run.call (by go_simp) (fun _ _ => by go_simp; exact ⟨rfl, rfl⟩)
  · intro w1 h1 hk
    have cx_0_0 : w1.cell? ⟨w.heap.size, 0, none⟩ = some (.int .i8 x.k) := Fut.cell h1 (by first | exact c0_0_0 | go_simp)
    have cx_0_1 : w1.cell? ⟨w.heap.size, 1, none⟩ = some (.int .i64 x.n) := Fut.cell h1 (by first | exact c0_0_1 | go_simp)
    have cx_0_2 : w1.cell? ⟨w.heap.size, 2, none⟩ = some (.string x.s) := Fut.cell h1 (by first | exact c0_0_2 | go_simp)
    have cx_1_0 : w1.cell? ⟨w.heap.size + 1, 0, none⟩ = some (.int .i8 y.k) := Fut.cell h1 (by first | exact c0_1_0 | go_simp)
    have cx_1_1 : w1.cell? ⟨w.heap.size + 1, 1, none⟩ = some (.int .i64 y.n) := Fut.cell h1 (by first | exact c0_1_1 | go_simp)
    have cx_1_2 : w1.cell? ⟨w.heap.size + 1, 2, none⟩ = some (.string y.s) := Fut.cell h1 (by first | exact c0_1_2 | go_simp)
    have cx_2_0 : w1.cell? ⟨w.heap.size + 2, 0, none⟩ = some (.int .i8 z.k) := Fut.cell h1 (by first | exact c0_2_0 | go_simp)
    have cx_2_1 : w1.cell? ⟨w.heap.size + 2, 1, none⟩ = some (.int .i64 z.n) := Fut.cell h1 (by first | exact c0_2_1 | go_simp)
    have cx_2_2 : w1.cell? ⟨w.heap.size + 2, 2, none⟩ = some (.string z.s) := Fut.cell h1 (by first | exact c0_2_2 | go_simp)
    have := ordered_any ordV x y z w1; rw [qe] at this; exact this
  simp only [Act.put, List.setIfInBounds_toArray, List.set_cons_succ, List.set_cons_zero, List.nil_append, List.cons_append]
  apply Run.valG (by go_simp)
  · intro w1 h1 hk
    have cx_0_0 : w1.cell? ⟨w.heap.size, 0, none⟩ = some (.int .i8 x.k) := Fut.cell h1 (by first | exact c0_0_0 | go_simp)
    have cx_0_1 : w1.cell? ⟨w.heap.size, 1, none⟩ = some (.int .i64 x.n) := Fut.cell h1 (by first | exact c0_0_1 | go_simp)
    have cx_0_2 : w1.cell? ⟨w.heap.size, 2, none⟩ = some (.string x.s) := Fut.cell h1 (by first | exact c0_0_2 | go_simp)
    have cx_1_0 : w1.cell? ⟨w.heap.size + 1, 0, none⟩ = some (.int .i8 y.k) := Fut.cell h1 (by first | exact c0_1_0 | go_simp)
    have cx_1_1 : w1.cell? ⟨w.heap.size + 1, 1, none⟩ = some (.int .i64 y.n) := Fut.cell h1 (by first | exact c0_1_1 | go_simp)
    have cx_1_2 : w1.cell? ⟨w.heap.size + 1, 2, none⟩ = some (.string y.s) := Fut.cell h1 (by first | exact c0_1_2 | go_simp)
    have cx_2_0 : w1.cell? ⟨w.heap.size + 2, 0, none⟩ = some (.int .i8 z.k) := Fut.cell h1 (by first | exact c0_2_0 | go_simp)
    have cx_2_1 : w1.cell? ⟨w.heap.size + 2, 1, none⟩ = some (.int .i64 z.n) := Fut.cell h1 (by first | exact c0_2_1 | go_simp)
    have cx_2_2 : w1.cell? ⟨w.heap.size + 2, 2, none⟩ = some (.string z.s) := Fut.cell h1 (by first | exact c0_2_2 | go_simp)
    go_simp; rfl
  simp only [Act.put, List.setIfInBounds_toArray, List.set_cons_succ, List.set_cons_zero, List.nil_append, List.cons_append]
  apply Run.valG (wanted_none rfl _)
  · intro w1 h1 hk
    have cx_0_0 : w1.cell? ⟨w.heap.size, 0, none⟩ = some (.int .i8 x.k) := Fut.cell h1 (by first | exact c0_0_0 | go_simp)
    have cx_0_1 : w1.cell? ⟨w.heap.size, 1, none⟩ = some (.int .i64 x.n) := Fut.cell h1 (by first | exact c0_0_1 | go_simp)
    have cx_0_2 : w1.cell? ⟨w.heap.size, 2, none⟩ = some (.string x.s) := Fut.cell h1 (by first | exact c0_0_2 | go_simp)
    have cx_1_0 : w1.cell? ⟨w.heap.size + 1, 0, none⟩ = some (.int .i8 y.k) := Fut.cell h1 (by first | exact c0_1_0 | go_simp)
    have cx_1_1 : w1.cell? ⟨w.heap.size + 1, 1, none⟩ = some (.int .i64 y.n) := Fut.cell h1 (by first | exact c0_1_1 | go_simp)
    have cx_1_2 : w1.cell? ⟨w.heap.size + 1, 2, none⟩ = some (.string y.s) := Fut.cell h1 (by first | exact c0_1_2 | go_simp)
    have cx_2_0 : w1.cell? ⟨w.heap.size + 2, 0, none⟩ = some (.int .i8 z.k) := Fut.cell h1 (by first | exact c0_2_0 | go_simp)
    have cx_2_1 : w1.cell? ⟨w.heap.size + 2, 1, none⟩ = some (.int .i64 z.n) := Fut.cell h1 (by first | exact c0_2_1 | go_simp)
    have cx_2_2 : w1.cell? ⟨w.heap.size + 2, 2, none⟩ = some (.string z.s) := Fut.cell h1 (by first | exact c0_2_2 | go_simp)
    go_simp; rfl
  simp only [Act.put, List.setIfInBounds_toArray, List.set_cons_succ, List.set_cons_zero, List.nil_append, List.cons_append]
  apply Run.done
  intro w2 h2 hk
  have c2_0_0 : w2.cell? ⟨w.heap.size, 0, none⟩ = some (.int .i8 x.k) := Fut.cell h2 (by first | exact c0_0_0 | go_simp)
  have c2_0_1 : w2.cell? ⟨w.heap.size, 1, none⟩ = some (.int .i64 x.n) := Fut.cell h2 (by first | exact c0_0_1 | go_simp)
  have c2_0_2 : w2.cell? ⟨w.heap.size, 2, none⟩ = some (.string x.s) := Fut.cell h2 (by first | exact c0_0_2 | go_simp)
  have c2_1_0 : w2.cell? ⟨w.heap.size + 1, 0, none⟩ = some (.int .i8 y.k) := Fut.cell h2 (by first | exact c0_1_0 | go_simp)
  have c2_1_1 : w2.cell? ⟨w.heap.size + 1, 1, none⟩ = some (.int .i64 y.n) := Fut.cell h2 (by first | exact c0_1_1 | go_simp)
  have c2_1_2 : w2.cell? ⟨w.heap.size + 1, 2, none⟩ = some (.string y.s) := Fut.cell h2 (by first | exact c0_1_2 | go_simp)
  have c2_2_0 : w2.cell? ⟨w.heap.size + 2, 0, none⟩ = some (.int .i8 z.k) := Fut.cell h2 (by first | exact c0_2_0 | go_simp)
  have c2_2_1 : w2.cell? ⟨w.heap.size + 2, 1, none⟩ = some (.int .i64 z.n) := Fut.cell h2 (by first | exact c0_2_1 | go_simp)
  have c2_2_2 : w2.cell? ⟨w.heap.size + 2, 2, none⟩ = some (.string z.s) := Fut.cell h2 (by first | exact c0_2_2 | go_simp)
  clear hk
  have hF2 : Fut w w2 := ((Fut.alloc _ _).trans ((Fut.alloc _ _).trans ((Fut.alloc _ _).trans (Fut.drew _)))).trans h2
  have hF3 := hF2
  go_wp2_with fail
  (skip; refine (rcheck_any x.k x.n x.s _ hs1.out).mono ?_; rintro e w4 ⟨rfl, h4⟩; have c4_0_0 : w4.cell? ⟨w.heap.size, 0, none⟩ = some (.int .i8 x.k) := Fut.cell h4 (by first | exact c2_0_0 | go_simp); have c4_0_1 : w4.cell? ⟨w.heap.size, 1, none⟩ = some (.int .i64 x.n) := Fut.cell h4 (by first | exact c2_0_1 | go_simp); have c4_0_2 : w4.cell? ⟨w.heap.size, 2, none⟩ = some (.string x.s) := Fut.cell h4 (by first | exact c2_0_2 | go_simp); have c4_1_0 : w4.cell? ⟨w.heap.size + 1, 0, none⟩ = some (.int .i8 y.k) := Fut.cell h4 (by first | exact c2_1_0 | go_simp); have c4_1_1 : w4.cell? ⟨w.heap.size + 1, 1, none⟩ = some (.int .i64 y.n) := Fut.cell h4 (by first | exact c2_1_1 | go_simp); have c4_1_2 : w4.cell? ⟨w.heap.size + 1, 2, none⟩ = some (.string y.s) := Fut.cell h4 (by first | exact c2_1_2 | go_simp); have c4_2_0 : w4.cell? ⟨w.heap.size + 2, 0, none⟩ = some (.int .i8 z.k) := Fut.cell h4 (by first | exact c2_2_0 | go_simp); have c4_2_1 : w4.cell? ⟨w.heap.size + 2, 1, none⟩ = some (.int .i64 z.n) := Fut.cell h4 (by first | exact c2_2_1 | go_simp); have c4_2_2 : w4.cell? ⟨w.heap.size + 2, 2, none⟩ = some (.string z.s) := Fut.cell h4 (by first | exact c2_2_2 | go_simp))
  have hF4 := hF3.trans h4
  by_cases g1 : chk x.k x.n x.s = 0
  · have d1 : (chk x.k x.n x.s == 0) = true := by simpa using g1
    have G1 := Lib.hid g1; clear g1
    go_wp2_with fail
    (skip; refine (rcheck_any y.k y.n y.s _ hs2.out).mono ?_; rintro e w5 ⟨rfl, h5⟩; have c5_0_0 : w5.cell? ⟨w.heap.size, 0, none⟩ = some (.int .i8 x.k) := Fut.cell h5 (by first | exact c4_0_0 | go_simp); have c5_0_1 : w5.cell? ⟨w.heap.size, 1, none⟩ = some (.int .i64 x.n) := Fut.cell h5 (by first | exact c4_0_1 | go_simp); have c5_0_2 : w5.cell? ⟨w.heap.size, 2, none⟩ = some (.string x.s) := Fut.cell h5 (by first | exact c4_0_2 | go_simp); have c5_1_0 : w5.cell? ⟨w.heap.size + 1, 0, none⟩ = some (.int .i8 y.k) := Fut.cell h5 (by first | exact c4_1_0 | go_simp); have c5_1_1 : w5.cell? ⟨w.heap.size + 1, 1, none⟩ = some (.int .i64 y.n) := Fut.cell h5 (by first | exact c4_1_1 | go_simp); have c5_1_2 : w5.cell? ⟨w.heap.size + 1, 2, none⟩ = some (.string y.s) := Fut.cell h5 (by first | exact c4_1_2 | go_simp); have c5_2_0 : w5.cell? ⟨w.heap.size + 2, 0, none⟩ = some (.int .i8 z.k) := Fut.cell h5 (by first | exact c4_2_0 | go_simp); have c5_2_1 : w5.cell? ⟨w.heap.size + 2, 1, none⟩ = some (.int .i64 z.n) := Fut.cell h5 (by first | exact c4_2_1 | go_simp); have c5_2_2 : w5.cell? ⟨w.heap.size + 2, 2, none⟩ = some (.string z.s) := Fut.cell h5 (by first | exact c4_2_2 | go_simp))
    have hF5 := hF4.trans h5
    by_cases g2 : chk y.k y.n y.s = 0
    · have d2 : (chk y.k y.n y.s == 0) = true := by simpa using g2
      have G2 := Lib.hid g2; clear g2
      have e1 := G1.out; have e2 := G2.out; have e3 := HC.out; have e4 := HS.out
      have H : ∀ (r : Int) (b : Bool) (w : World), holdsV r x y = b → Calls Tryd.prog 31 #[.int .i8 r, .agg #[.int .i8 x.k, .int .i64 x.n, .string x.s], .agg #[.int .i8 y.k, .int .i64 y.n, .string y.s]] w fun e w' => e = .returned (.bool b) ∧ Fut w w' := fun r b w hb => by have := holds_any r x y w HX.out HY.out; rw [hb] at this; exact this
      have H' : ∀ (r : Int) (b : Bool) (w : World), holdsV r y x = b → Calls Tryd.prog 31 #[.int .i8 r, .agg #[.int .i8 y.k, .int .i64 y.n, .string y.s], .agg #[.int .i8 x.k, .int .i64 x.n, .string x.s]] w fun e w' => e = .returned (.bool b) ∧ Fut w w' := fun r b w hb => by have := holds_any r y x w HY.out HX.out; rw [hb] at this; exact this
      have t1 := fun w => H 1 true w (by simp [holdsV, e1, e2, e3])
      have t2 := fun w => H 2 false w (by simp [holdsV, e1, e2, e3])
      have t3 := fun w => H 3 false w (by simp [holdsV, e1, e2, e3])
      have t4 := fun w => H 4 true w (by simp [holdsV, e1, e2, e3])
      have t5 := fun w => H 5 false w (by simp [holdsV, e1, e2, e3])
      have t6 := fun w => H 6 true w (by simp [holdsV, e1, e2, e3])
      have u3 := fun w => H' 3 false w (by simp [holdsV, e1, e2, e4])
      have u5 := fun w => H' 5 false w (by simp [holdsV, e1, e2, e4])
      clear e1 e2 e3 e4 H H'
      go_wp2_with fail
      (skip; refine (t1 _).mono ?_; rintro e w6 ⟨rfl, h6⟩; have c6_0_0 : w6.cell? ⟨w.heap.size, 0, none⟩ = some (.int .i8 x.k) := Fut.cell h6 (by first | exact c5_0_0 | go_simp); have c6_0_1 : w6.cell? ⟨w.heap.size, 1, none⟩ = some (.int .i64 x.n) := Fut.cell h6 (by first | exact c5_0_1 | go_simp); have c6_0_2 : w6.cell? ⟨w.heap.size, 2, none⟩ = some (.string x.s) := Fut.cell h6 (by first | exact c5_0_2 | go_simp); have c6_1_0 : w6.cell? ⟨w.heap.size + 1, 0, none⟩ = some (.int .i8 y.k) := Fut.cell h6 (by first | exact c5_1_0 | go_simp); have c6_1_1 : w6.cell? ⟨w.heap.size + 1, 1, none⟩ = some (.int .i64 y.n) := Fut.cell h6 (by first | exact c5_1_1 | go_simp); have c6_1_2 : w6.cell? ⟨w.heap.size + 1, 2, none⟩ = some (.string y.s) := Fut.cell h6 (by first | exact c5_1_2 | go_simp); have c6_2_0 : w6.cell? ⟨w.heap.size + 2, 0, none⟩ = some (.int .i8 z.k) := Fut.cell h6 (by first | exact c5_2_0 | go_simp); have c6_2_1 : w6.cell? ⟨w.heap.size + 2, 1, none⟩ = some (.int .i64 z.n) := Fut.cell h6 (by first | exact c5_2_1 | go_simp); have c6_2_2 : w6.cell? ⟨w.heap.size + 2, 2, none⟩ = some (.string z.s) := Fut.cell h6 (by first | exact c5_2_2 | go_simp))
      go_wp2_with fail
      (skip; refine (t3 _).mono ?_; rintro e w7 ⟨rfl, h7⟩; have c7_0_0 : w7.cell? ⟨w.heap.size, 0, none⟩ = some (.int .i8 x.k) := Fut.cell h7 (by first | exact c6_0_0 | go_simp); have c7_0_1 : w7.cell? ⟨w.heap.size, 1, none⟩ = some (.int .i64 x.n) := Fut.cell h7 (by first | exact c6_0_1 | go_simp); have c7_0_2 : w7.cell? ⟨w.heap.size, 2, none⟩ = some (.string x.s) := Fut.cell h7 (by first | exact c6_0_2 | go_simp); have c7_1_0 : w7.cell? ⟨w.heap.size + 1, 0, none⟩ = some (.int .i8 y.k) := Fut.cell h7 (by first | exact c6_1_0 | go_simp); have c7_1_1 : w7.cell? ⟨w.heap.size + 1, 1, none⟩ = some (.int .i64 y.n) := Fut.cell h7 (by first | exact c6_1_1 | go_simp); have c7_1_2 : w7.cell? ⟨w.heap.size + 1, 2, none⟩ = some (.string y.s) := Fut.cell h7 (by first | exact c6_1_2 | go_simp); have c7_2_0 : w7.cell? ⟨w.heap.size + 2, 0, none⟩ = some (.int .i8 z.k) := Fut.cell h7 (by first | exact c6_2_0 | go_simp); have c7_2_1 : w7.cell? ⟨w.heap.size + 2, 1, none⟩ = some (.int .i64 z.n) := Fut.cell h7 (by first | exact c6_2_1 | go_simp); have c7_2_2 : w7.cell? ⟨w.heap.size + 2, 2, none⟩ = some (.string z.s) := Fut.cell h7 (by first | exact c6_2_2 | go_simp))
      go_wp2_with fail
      (skip; refine (t5 _).mono ?_; rintro e w8 ⟨rfl, h8⟩; have c8_0_0 : w8.cell? ⟨w.heap.size, 0, none⟩ = some (.int .i8 x.k) := Fut.cell h8 (by first | exact c7_0_0 | go_simp); have c8_0_1 : w8.cell? ⟨w.heap.size, 1, none⟩ = some (.int .i64 x.n) := Fut.cell h8 (by first | exact c7_0_1 | go_simp); have c8_0_2 : w8.cell? ⟨w.heap.size, 2, none⟩ = some (.string x.s) := Fut.cell h8 (by first | exact c7_0_2 | go_simp); have c8_1_0 : w8.cell? ⟨w.heap.size + 1, 0, none⟩ = some (.int .i8 y.k) := Fut.cell h8 (by first | exact c7_1_0 | go_simp); have c8_1_1 : w8.cell? ⟨w.heap.size + 1, 1, none⟩ = some (.int .i64 y.n) := Fut.cell h8 (by first | exact c7_1_1 | go_simp); have c8_1_2 : w8.cell? ⟨w.heap.size + 1, 2, none⟩ = some (.string y.s) := Fut.cell h8 (by first | exact c7_1_2 | go_simp); have c8_2_0 : w8.cell? ⟨w.heap.size + 2, 0, none⟩ = some (.int .i8 z.k) := Fut.cell h8 (by first | exact c7_2_0 | go_simp); have c8_2_1 : w8.cell? ⟨w.heap.size + 2, 1, none⟩ = some (.int .i64 z.n) := Fut.cell h8 (by first | exact c7_2_1 | go_simp); have c8_2_2 : w8.cell? ⟨w.heap.size + 2, 2, none⟩ = some (.string z.s) := Fut.cell h8 (by first | exact c7_2_2 | go_simp))
      go_wp2_with fail
      (skip; refine (t2 _).mono ?_; rintro e w9 ⟨rfl, h9⟩; have c9_0_0 : w9.cell? ⟨w.heap.size, 0, none⟩ = some (.int .i8 x.k) := Fut.cell h9 (by first | exact c8_0_0 | go_simp); have c9_0_1 : w9.cell? ⟨w.heap.size, 1, none⟩ = some (.int .i64 x.n) := Fut.cell h9 (by first | exact c8_0_1 | go_simp); have c9_0_2 : w9.cell? ⟨w.heap.size, 2, none⟩ = some (.string x.s) := Fut.cell h9 (by first | exact c8_0_2 | go_simp); have c9_1_0 : w9.cell? ⟨w.heap.size + 1, 0, none⟩ = some (.int .i8 y.k) := Fut.cell h9 (by first | exact c8_1_0 | go_simp); have c9_1_1 : w9.cell? ⟨w.heap.size + 1, 1, none⟩ = some (.int .i64 y.n) := Fut.cell h9 (by first | exact c8_1_1 | go_simp); have c9_1_2 : w9.cell? ⟨w.heap.size + 1, 2, none⟩ = some (.string y.s) := Fut.cell h9 (by first | exact c8_1_2 | go_simp); have c9_2_0 : w9.cell? ⟨w.heap.size + 2, 0, none⟩ = some (.int .i8 z.k) := Fut.cell h9 (by first | exact c8_2_0 | go_simp); have c9_2_1 : w9.cell? ⟨w.heap.size + 2, 1, none⟩ = some (.int .i64 z.n) := Fut.cell h9 (by first | exact c8_2_1 | go_simp); have c9_2_2 : w9.cell? ⟨w.heap.size + 2, 2, none⟩ = some (.string z.s) := Fut.cell h9 (by first | exact c8_2_2 | go_simp))
      go_wp2_with fail
      (skip; refine (u5 _).mono ?_; rintro e w10 ⟨rfl, h10⟩; have c10_0_0 : w10.cell? ⟨w.heap.size, 0, none⟩ = some (.int .i8 x.k) := Fut.cell h10 (by first | exact c9_0_0 | go_simp); have c10_0_1 : w10.cell? ⟨w.heap.size, 1, none⟩ = some (.int .i64 x.n) := Fut.cell h10 (by first | exact c9_0_1 | go_simp); have c10_0_2 : w10.cell? ⟨w.heap.size, 2, none⟩ = some (.string x.s) := Fut.cell h10 (by first | exact c9_0_2 | go_simp); have c10_1_0 : w10.cell? ⟨w.heap.size + 1, 0, none⟩ = some (.int .i8 y.k) := Fut.cell h10 (by first | exact c9_1_0 | go_simp); have c10_1_1 : w10.cell? ⟨w.heap.size + 1, 1, none⟩ = some (.int .i64 y.n) := Fut.cell h10 (by first | exact c9_1_1 | go_simp); have c10_1_2 : w10.cell? ⟨w.heap.size + 1, 2, none⟩ = some (.string y.s) := Fut.cell h10 (by first | exact c9_1_2 | go_simp); have c10_2_0 : w10.cell? ⟨w.heap.size + 2, 0, none⟩ = some (.int .i8 z.k) := Fut.cell h10 (by first | exact c9_2_0 | go_simp); have c10_2_1 : w10.cell? ⟨w.heap.size + 2, 1, none⟩ = some (.int .i64 z.n) := Fut.cell h10 (by first | exact c9_2_1 | go_simp); have c10_2_2 : w10.cell? ⟨w.heap.size + 2, 2, none⟩ = some (.string z.s) := Fut.cell h10 (by first | exact c9_2_2 | go_simp))
      go_wp2_with fail
      (skip; refine (u3 _).mono ?_; rintro e w11 ⟨rfl, h11⟩; have c11_0_0 : w11.cell? ⟨w.heap.size, 0, none⟩ = some (.int .i8 x.k) := Fut.cell h11 (by first | exact c10_0_0 | go_simp); have c11_0_1 : w11.cell? ⟨w.heap.size, 1, none⟩ = some (.int .i64 x.n) := Fut.cell h11 (by first | exact c10_0_1 | go_simp); have c11_0_2 : w11.cell? ⟨w.heap.size, 2, none⟩ = some (.string x.s) := Fut.cell h11 (by first | exact c10_0_2 | go_simp); have c11_1_0 : w11.cell? ⟨w.heap.size + 1, 0, none⟩ = some (.int .i8 y.k) := Fut.cell h11 (by first | exact c10_1_0 | go_simp); have c11_1_1 : w11.cell? ⟨w.heap.size + 1, 1, none⟩ = some (.int .i64 y.n) := Fut.cell h11 (by first | exact c10_1_1 | go_simp); have c11_1_2 : w11.cell? ⟨w.heap.size + 1, 2, none⟩ = some (.string y.s) := Fut.cell h11 (by first | exact c10_1_2 | go_simp); have c11_2_0 : w11.cell? ⟨w.heap.size + 2, 0, none⟩ = some (.int .i8 z.k) := Fut.cell h11 (by first | exact c10_2_0 | go_simp); have c11_2_1 : w11.cell? ⟨w.heap.size + 2, 1, none⟩ = some (.int .i64 z.n) := Fut.cell h11 (by first | exact c10_2_1 | go_simp); have c11_2_2 : w11.cell? ⟨w.heap.size + 2, 2, none⟩ = some (.string z.s) := Fut.cell h11 (by first | exact c10_2_2 | go_simp))
      go_wp2_with fail
      (skip; refine (t4 _).mono ?_; rintro e w12 ⟨rfl, h12⟩; have c12_0_0 : w12.cell? ⟨w.heap.size, 0, none⟩ = some (.int .i8 x.k) := Fut.cell h12 (by first | exact c11_0_0 | go_simp); have c12_0_1 : w12.cell? ⟨w.heap.size, 1, none⟩ = some (.int .i64 x.n) := Fut.cell h12 (by first | exact c11_0_1 | go_simp); have c12_0_2 : w12.cell? ⟨w.heap.size, 2, none⟩ = some (.string x.s) := Fut.cell h12 (by first | exact c11_0_2 | go_simp); have c12_1_0 : w12.cell? ⟨w.heap.size + 1, 0, none⟩ = some (.int .i8 y.k) := Fut.cell h12 (by first | exact c11_1_0 | go_simp); have c12_1_1 : w12.cell? ⟨w.heap.size + 1, 1, none⟩ = some (.int .i64 y.n) := Fut.cell h12 (by first | exact c11_1_1 | go_simp); have c12_1_2 : w12.cell? ⟨w.heap.size + 1, 2, none⟩ = some (.string y.s) := Fut.cell h12 (by first | exact c11_1_2 | go_simp); have c12_2_0 : w12.cell? ⟨w.heap.size + 2, 0, none⟩ = some (.int .i8 z.k) := Fut.cell h12 (by first | exact c11_2_0 | go_simp); have c12_2_1 : w12.cell? ⟨w.heap.size + 2, 1, none⟩ = some (.int .i64 z.n) := Fut.cell h12 (by first | exact c11_2_1 | go_simp); have c12_2_2 : w12.cell? ⟨w.heap.size + 2, 2, none⟩ = some (.string z.s) := Fut.cell h12 (by first | exact c11_2_2 | go_simp))
      go_wp2_with fail
      (skip; refine (t6 _).mono ?_; rintro e w13 ⟨rfl, h13⟩; have c13_0_0 : w13.cell? ⟨w.heap.size, 0, none⟩ = some (.int .i8 x.k) := Fut.cell h13 (by first | exact c12_0_0 | go_simp); have c13_0_1 : w13.cell? ⟨w.heap.size, 1, none⟩ = some (.int .i64 x.n) := Fut.cell h13 (by first | exact c12_0_1 | go_simp); have c13_0_2 : w13.cell? ⟨w.heap.size, 2, none⟩ = some (.string x.s) := Fut.cell h13 (by first | exact c12_0_2 | go_simp); have c13_1_0 : w13.cell? ⟨w.heap.size + 1, 0, none⟩ = some (.int .i8 y.k) := Fut.cell h13 (by first | exact c12_1_0 | go_simp); have c13_1_1 : w13.cell? ⟨w.heap.size + 1, 1, none⟩ = some (.int .i64 y.n) := Fut.cell h13 (by first | exact c12_1_1 | go_simp); have c13_1_2 : w13.cell? ⟨w.heap.size + 1, 2, none⟩ = some (.string y.s) := Fut.cell h13 (by first | exact c12_1_2 | go_simp); have c13_2_0 : w13.cell? ⟨w.heap.size + 2, 0, none⟩ = some (.int .i8 z.k) := Fut.cell h13 (by first | exact c12_2_0 | go_simp); have c13_2_1 : w13.cell? ⟨w.heap.size + 2, 1, none⟩ = some (.int .i64 z.n) := Fut.cell h13 (by first | exact c12_2_1 | go_simp); have c13_2_2 : w13.cell? ⟨w.heap.size + 2, 2, none⟩ = some (.string z.s) := Fut.cell h13 (by first | exact c12_2_2 | go_simp))
      go_wp2_with fail
      (skip; refine (C _).mono ?_; rintro e w14 ⟨rfl, h14⟩; have c14_0_0 : w14.cell? ⟨w.heap.size, 0, none⟩ = some (.int .i8 x.k) := Fut.cell h14 (by first | exact c13_0_0 | go_simp); have c14_0_1 : w14.cell? ⟨w.heap.size, 1, none⟩ = some (.int .i64 x.n) := Fut.cell h14 (by first | exact c13_0_1 | go_simp); have c14_0_2 : w14.cell? ⟨w.heap.size, 2, none⟩ = some (.string x.s) := Fut.cell h14 (by first | exact c13_0_2 | go_simp); have c14_1_0 : w14.cell? ⟨w.heap.size + 1, 0, none⟩ = some (.int .i8 y.k) := Fut.cell h14 (by first | exact c13_1_0 | go_simp); have c14_1_1 : w14.cell? ⟨w.heap.size + 1, 1, none⟩ = some (.int .i64 y.n) := Fut.cell h14 (by first | exact c13_1_1 | go_simp); have c14_1_2 : w14.cell? ⟨w.heap.size + 1, 2, none⟩ = some (.string y.s) := Fut.cell h14 (by first | exact c13_1_2 | go_simp); have c14_2_0 : w14.cell? ⟨w.heap.size + 2, 0, none⟩ = some (.int .i8 z.k) := Fut.cell h14 (by first | exact c13_2_0 | go_simp); have c14_2_1 : w14.cell? ⟨w.heap.size + 2, 1, none⟩ = some (.int .i64 z.n) := Fut.cell h14 (by first | exact c13_2_1 | go_simp); have c14_2_2 : w14.cell? ⟨w.heap.size + 2, 2, none⟩ = some (.string z.s) := Fut.cell h14 (by first | exact c13_2_2 | go_simp))
      go_wp2
      go_ret
      exact ⟨rfl, hF5.trans (h6.trans ( h7.trans ( h8.trans ( h9.trans ( h10.trans ( h11.trans ( h12.trans ( h13.trans (h14)))))))))⟩
    · have d2 : (chk y.k y.n y.s == 0) = false := by simpa using g2
      have G2 := Lib.hid g2; clear g2
      have H : ∀ (r : Int) (w : World), Calls Tryd.prog 31 #[.int .i8 r, .agg #[.int .i8 x.k, .int .i64 x.n, .string x.s], .agg #[.int .i8 y.k, .int .i64 y.n, .string y.s]] w fun e w' => e = .returned (.bool false) ∧ Fut w w' := fun r w => by have := holds_any r x y w HX.out HY.out; rw [show holdsV r x y = false by simp [holdsV, G2.out]] at this; exact this
      go_wp2_with fail
      (skip; refine (H 1 _).mono ?_; rintro e w6 ⟨rfl, h6⟩; have c6_0_0 : w6.cell? ⟨w.heap.size, 0, none⟩ = some (.int .i8 x.k) := Fut.cell h6 (by first | exact c5_0_0 | go_simp); have c6_0_1 : w6.cell? ⟨w.heap.size, 1, none⟩ = some (.int .i64 x.n) := Fut.cell h6 (by first | exact c5_0_1 | go_simp); have c6_0_2 : w6.cell? ⟨w.heap.size, 2, none⟩ = some (.string x.s) := Fut.cell h6 (by first | exact c5_0_2 | go_simp); have c6_1_0 : w6.cell? ⟨w.heap.size + 1, 0, none⟩ = some (.int .i8 y.k) := Fut.cell h6 (by first | exact c5_1_0 | go_simp); have c6_1_1 : w6.cell? ⟨w.heap.size + 1, 1, none⟩ = some (.int .i64 y.n) := Fut.cell h6 (by first | exact c5_1_1 | go_simp); have c6_1_2 : w6.cell? ⟨w.heap.size + 1, 2, none⟩ = some (.string y.s) := Fut.cell h6 (by first | exact c5_1_2 | go_simp); have c6_2_0 : w6.cell? ⟨w.heap.size + 2, 0, none⟩ = some (.int .i8 z.k) := Fut.cell h6 (by first | exact c5_2_0 | go_simp); have c6_2_1 : w6.cell? ⟨w.heap.size + 2, 1, none⟩ = some (.int .i64 z.n) := Fut.cell h6 (by first | exact c5_2_1 | go_simp); have c6_2_2 : w6.cell? ⟨w.heap.size + 2, 2, none⟩ = some (.string z.s) := Fut.cell h6 (by first | exact c5_2_2 | go_simp))
      go_wp2_with fail
      (skip; refine (H 3 _).mono ?_; rintro e w7 ⟨rfl, h7⟩; have c7_0_0 : w7.cell? ⟨w.heap.size, 0, none⟩ = some (.int .i8 x.k) := Fut.cell h7 (by first | exact c6_0_0 | go_simp); have c7_0_1 : w7.cell? ⟨w.heap.size, 1, none⟩ = some (.int .i64 x.n) := Fut.cell h7 (by first | exact c6_0_1 | go_simp); have c7_0_2 : w7.cell? ⟨w.heap.size, 2, none⟩ = some (.string x.s) := Fut.cell h7 (by first | exact c6_0_2 | go_simp); have c7_1_0 : w7.cell? ⟨w.heap.size + 1, 0, none⟩ = some (.int .i8 y.k) := Fut.cell h7 (by first | exact c6_1_0 | go_simp); have c7_1_1 : w7.cell? ⟨w.heap.size + 1, 1, none⟩ = some (.int .i64 y.n) := Fut.cell h7 (by first | exact c6_1_1 | go_simp); have c7_1_2 : w7.cell? ⟨w.heap.size + 1, 2, none⟩ = some (.string y.s) := Fut.cell h7 (by first | exact c6_1_2 | go_simp); have c7_2_0 : w7.cell? ⟨w.heap.size + 2, 0, none⟩ = some (.int .i8 z.k) := Fut.cell h7 (by first | exact c6_2_0 | go_simp); have c7_2_1 : w7.cell? ⟨w.heap.size + 2, 1, none⟩ = some (.int .i64 z.n) := Fut.cell h7 (by first | exact c6_2_1 | go_simp); have c7_2_2 : w7.cell? ⟨w.heap.size + 2, 2, none⟩ = some (.string z.s) := Fut.cell h7 (by first | exact c6_2_2 | go_simp))
      go_wp2_with fail
      (skip; refine (H 5 _).mono ?_; rintro e w8 ⟨rfl, h8⟩; have c8_0_0 : w8.cell? ⟨w.heap.size, 0, none⟩ = some (.int .i8 x.k) := Fut.cell h8 (by first | exact c7_0_0 | go_simp); have c8_0_1 : w8.cell? ⟨w.heap.size, 1, none⟩ = some (.int .i64 x.n) := Fut.cell h8 (by first | exact c7_0_1 | go_simp); have c8_0_2 : w8.cell? ⟨w.heap.size, 2, none⟩ = some (.string x.s) := Fut.cell h8 (by first | exact c7_0_2 | go_simp); have c8_1_0 : w8.cell? ⟨w.heap.size + 1, 0, none⟩ = some (.int .i8 y.k) := Fut.cell h8 (by first | exact c7_1_0 | go_simp); have c8_1_1 : w8.cell? ⟨w.heap.size + 1, 1, none⟩ = some (.int .i64 y.n) := Fut.cell h8 (by first | exact c7_1_1 | go_simp); have c8_1_2 : w8.cell? ⟨w.heap.size + 1, 2, none⟩ = some (.string y.s) := Fut.cell h8 (by first | exact c7_1_2 | go_simp); have c8_2_0 : w8.cell? ⟨w.heap.size + 2, 0, none⟩ = some (.int .i8 z.k) := Fut.cell h8 (by first | exact c7_2_0 | go_simp); have c8_2_1 : w8.cell? ⟨w.heap.size + 2, 1, none⟩ = some (.int .i64 z.n) := Fut.cell h8 (by first | exact c7_2_1 | go_simp); have c8_2_2 : w8.cell? ⟨w.heap.size + 2, 2, none⟩ = some (.string z.s) := Fut.cell h8 (by first | exact c7_2_2 | go_simp))
      go_wp2_with fail
      (skip; refine (H 2 _).mono ?_; rintro e w9 ⟨rfl, h9⟩; have c9_0_0 : w9.cell? ⟨w.heap.size, 0, none⟩ = some (.int .i8 x.k) := Fut.cell h9 (by first | exact c8_0_0 | go_simp); have c9_0_1 : w9.cell? ⟨w.heap.size, 1, none⟩ = some (.int .i64 x.n) := Fut.cell h9 (by first | exact c8_0_1 | go_simp); have c9_0_2 : w9.cell? ⟨w.heap.size, 2, none⟩ = some (.string x.s) := Fut.cell h9 (by first | exact c8_0_2 | go_simp); have c9_1_0 : w9.cell? ⟨w.heap.size + 1, 0, none⟩ = some (.int .i8 y.k) := Fut.cell h9 (by first | exact c8_1_0 | go_simp); have c9_1_1 : w9.cell? ⟨w.heap.size + 1, 1, none⟩ = some (.int .i64 y.n) := Fut.cell h9 (by first | exact c8_1_1 | go_simp); have c9_1_2 : w9.cell? ⟨w.heap.size + 1, 2, none⟩ = some (.string y.s) := Fut.cell h9 (by first | exact c8_1_2 | go_simp); have c9_2_0 : w9.cell? ⟨w.heap.size + 2, 0, none⟩ = some (.int .i8 z.k) := Fut.cell h9 (by first | exact c8_2_0 | go_simp); have c9_2_1 : w9.cell? ⟨w.heap.size + 2, 1, none⟩ = some (.int .i64 z.n) := Fut.cell h9 (by first | exact c8_2_1 | go_simp); have c9_2_2 : w9.cell? ⟨w.heap.size + 2, 2, none⟩ = some (.string z.s) := Fut.cell h9 (by first | exact c8_2_2 | go_simp))
      go_wp2_with fail
      (skip; refine (H 4 _).mono ?_; rintro e w10 ⟨rfl, h10⟩; have c10_0_0 : w10.cell? ⟨w.heap.size, 0, none⟩ = some (.int .i8 x.k) := Fut.cell h10 (by first | exact c9_0_0 | go_simp); have c10_0_1 : w10.cell? ⟨w.heap.size, 1, none⟩ = some (.int .i64 x.n) := Fut.cell h10 (by first | exact c9_0_1 | go_simp); have c10_0_2 : w10.cell? ⟨w.heap.size, 2, none⟩ = some (.string x.s) := Fut.cell h10 (by first | exact c9_0_2 | go_simp); have c10_1_0 : w10.cell? ⟨w.heap.size + 1, 0, none⟩ = some (.int .i8 y.k) := Fut.cell h10 (by first | exact c9_1_0 | go_simp); have c10_1_1 : w10.cell? ⟨w.heap.size + 1, 1, none⟩ = some (.int .i64 y.n) := Fut.cell h10 (by first | exact c9_1_1 | go_simp); have c10_1_2 : w10.cell? ⟨w.heap.size + 1, 2, none⟩ = some (.string y.s) := Fut.cell h10 (by first | exact c9_1_2 | go_simp); have c10_2_0 : w10.cell? ⟨w.heap.size + 2, 0, none⟩ = some (.int .i8 z.k) := Fut.cell h10 (by first | exact c9_2_0 | go_simp); have c10_2_1 : w10.cell? ⟨w.heap.size + 2, 1, none⟩ = some (.int .i64 z.n) := Fut.cell h10 (by first | exact c9_2_1 | go_simp); have c10_2_2 : w10.cell? ⟨w.heap.size + 2, 2, none⟩ = some (.string z.s) := Fut.cell h10 (by first | exact c9_2_2 | go_simp))
      go_wp2_with fail
      (skip; refine (H 6 _).mono ?_; rintro e w11 ⟨rfl, h11⟩; have c11_0_0 : w11.cell? ⟨w.heap.size, 0, none⟩ = some (.int .i8 x.k) := Fut.cell h11 (by first | exact c10_0_0 | go_simp); have c11_0_1 : w11.cell? ⟨w.heap.size, 1, none⟩ = some (.int .i64 x.n) := Fut.cell h11 (by first | exact c10_0_1 | go_simp); have c11_0_2 : w11.cell? ⟨w.heap.size, 2, none⟩ = some (.string x.s) := Fut.cell h11 (by first | exact c10_0_2 | go_simp); have c11_1_0 : w11.cell? ⟨w.heap.size + 1, 0, none⟩ = some (.int .i8 y.k) := Fut.cell h11 (by first | exact c10_1_0 | go_simp); have c11_1_1 : w11.cell? ⟨w.heap.size + 1, 1, none⟩ = some (.int .i64 y.n) := Fut.cell h11 (by first | exact c10_1_1 | go_simp); have c11_1_2 : w11.cell? ⟨w.heap.size + 1, 2, none⟩ = some (.string y.s) := Fut.cell h11 (by first | exact c10_1_2 | go_simp); have c11_2_0 : w11.cell? ⟨w.heap.size + 2, 0, none⟩ = some (.int .i8 z.k) := Fut.cell h11 (by first | exact c10_2_0 | go_simp); have c11_2_1 : w11.cell? ⟨w.heap.size + 2, 1, none⟩ = some (.int .i64 z.n) := Fut.cell h11 (by first | exact c10_2_1 | go_simp); have c11_2_2 : w11.cell? ⟨w.heap.size + 2, 2, none⟩ = some (.string z.s) := Fut.cell h11 (by first | exact c10_2_2 | go_simp))
      go_wp2
      go_ret
      exact ⟨rfl, hF5.trans (h6.trans ( h7.trans ( h8.trans ( h9.trans ( h10.trans (h11))))))⟩
  · have d1 : (chk x.k x.n x.s == 0) = false := by simpa using g1
    have G1 := Lib.hid g1; clear g1
    have H : ∀ (r : Int) (w : World), Calls Tryd.prog 31 #[.int .i8 r, .agg #[.int .i8 x.k, .int .i64 x.n, .string x.s], .agg #[.int .i8 y.k, .int .i64 y.n, .string y.s]] w fun e w' => e = .returned (.bool false) ∧ Fut w w' := fun r w => by have := holds_any r x y w HX.out HY.out; rw [show holdsV r x y = false by simp [holdsV, G1.out]] at this; exact this
    go_wp2_with fail
    (skip; refine (H 1 _).mono ?_; rintro e w5 ⟨rfl, h5⟩; have c5_0_0 : w5.cell? ⟨w.heap.size, 0, none⟩ = some (.int .i8 x.k) := Fut.cell h5 (by first | exact c4_0_0 | go_simp); have c5_0_1 : w5.cell? ⟨w.heap.size, 1, none⟩ = some (.int .i64 x.n) := Fut.cell h5 (by first | exact c4_0_1 | go_simp); have c5_0_2 : w5.cell? ⟨w.heap.size, 2, none⟩ = some (.string x.s) := Fut.cell h5 (by first | exact c4_0_2 | go_simp); have c5_1_0 : w5.cell? ⟨w.heap.size + 1, 0, none⟩ = some (.int .i8 y.k) := Fut.cell h5 (by first | exact c4_1_0 | go_simp); have c5_1_1 : w5.cell? ⟨w.heap.size + 1, 1, none⟩ = some (.int .i64 y.n) := Fut.cell h5 (by first | exact c4_1_1 | go_simp); have c5_1_2 : w5.cell? ⟨w.heap.size + 1, 2, none⟩ = some (.string y.s) := Fut.cell h5 (by first | exact c4_1_2 | go_simp); have c5_2_0 : w5.cell? ⟨w.heap.size + 2, 0, none⟩ = some (.int .i8 z.k) := Fut.cell h5 (by first | exact c4_2_0 | go_simp); have c5_2_1 : w5.cell? ⟨w.heap.size + 2, 1, none⟩ = some (.int .i64 z.n) := Fut.cell h5 (by first | exact c4_2_1 | go_simp); have c5_2_2 : w5.cell? ⟨w.heap.size + 2, 2, none⟩ = some (.string z.s) := Fut.cell h5 (by first | exact c4_2_2 | go_simp))
    go_wp2_with fail
    (skip; refine (H 3 _).mono ?_; rintro e w6 ⟨rfl, h6⟩; have c6_0_0 : w6.cell? ⟨w.heap.size, 0, none⟩ = some (.int .i8 x.k) := Fut.cell h6 (by first | exact c5_0_0 | go_simp); have c6_0_1 : w6.cell? ⟨w.heap.size, 1, none⟩ = some (.int .i64 x.n) := Fut.cell h6 (by first | exact c5_0_1 | go_simp); have c6_0_2 : w6.cell? ⟨w.heap.size, 2, none⟩ = some (.string x.s) := Fut.cell h6 (by first | exact c5_0_2 | go_simp); have c6_1_0 : w6.cell? ⟨w.heap.size + 1, 0, none⟩ = some (.int .i8 y.k) := Fut.cell h6 (by first | exact c5_1_0 | go_simp); have c6_1_1 : w6.cell? ⟨w.heap.size + 1, 1, none⟩ = some (.int .i64 y.n) := Fut.cell h6 (by first | exact c5_1_1 | go_simp); have c6_1_2 : w6.cell? ⟨w.heap.size + 1, 2, none⟩ = some (.string y.s) := Fut.cell h6 (by first | exact c5_1_2 | go_simp); have c6_2_0 : w6.cell? ⟨w.heap.size + 2, 0, none⟩ = some (.int .i8 z.k) := Fut.cell h6 (by first | exact c5_2_0 | go_simp); have c6_2_1 : w6.cell? ⟨w.heap.size + 2, 1, none⟩ = some (.int .i64 z.n) := Fut.cell h6 (by first | exact c5_2_1 | go_simp); have c6_2_2 : w6.cell? ⟨w.heap.size + 2, 2, none⟩ = some (.string z.s) := Fut.cell h6 (by first | exact c5_2_2 | go_simp))
    go_wp2_with fail
    (skip; refine (H 5 _).mono ?_; rintro e w7 ⟨rfl, h7⟩; have c7_0_0 : w7.cell? ⟨w.heap.size, 0, none⟩ = some (.int .i8 x.k) := Fut.cell h7 (by first | exact c6_0_0 | go_simp); have c7_0_1 : w7.cell? ⟨w.heap.size, 1, none⟩ = some (.int .i64 x.n) := Fut.cell h7 (by first | exact c6_0_1 | go_simp); have c7_0_2 : w7.cell? ⟨w.heap.size, 2, none⟩ = some (.string x.s) := Fut.cell h7 (by first | exact c6_0_2 | go_simp); have c7_1_0 : w7.cell? ⟨w.heap.size + 1, 0, none⟩ = some (.int .i8 y.k) := Fut.cell h7 (by first | exact c6_1_0 | go_simp); have c7_1_1 : w7.cell? ⟨w.heap.size + 1, 1, none⟩ = some (.int .i64 y.n) := Fut.cell h7 (by first | exact c6_1_1 | go_simp); have c7_1_2 : w7.cell? ⟨w.heap.size + 1, 2, none⟩ = some (.string y.s) := Fut.cell h7 (by first | exact c6_1_2 | go_simp); have c7_2_0 : w7.cell? ⟨w.heap.size + 2, 0, none⟩ = some (.int .i8 z.k) := Fut.cell h7 (by first | exact c6_2_0 | go_simp); have c7_2_1 : w7.cell? ⟨w.heap.size + 2, 1, none⟩ = some (.int .i64 z.n) := Fut.cell h7 (by first | exact c6_2_1 | go_simp); have c7_2_2 : w7.cell? ⟨w.heap.size + 2, 2, none⟩ = some (.string z.s) := Fut.cell h7 (by first | exact c6_2_2 | go_simp))
    go_wp2_with fail
    (skip; refine (H 2 _).mono ?_; rintro e w8 ⟨rfl, h8⟩; have c8_0_0 : w8.cell? ⟨w.heap.size, 0, none⟩ = some (.int .i8 x.k) := Fut.cell h8 (by first | exact c7_0_0 | go_simp); have c8_0_1 : w8.cell? ⟨w.heap.size, 1, none⟩ = some (.int .i64 x.n) := Fut.cell h8 (by first | exact c7_0_1 | go_simp); have c8_0_2 : w8.cell? ⟨w.heap.size, 2, none⟩ = some (.string x.s) := Fut.cell h8 (by first | exact c7_0_2 | go_simp); have c8_1_0 : w8.cell? ⟨w.heap.size + 1, 0, none⟩ = some (.int .i8 y.k) := Fut.cell h8 (by first | exact c7_1_0 | go_simp); have c8_1_1 : w8.cell? ⟨w.heap.size + 1, 1, none⟩ = some (.int .i64 y.n) := Fut.cell h8 (by first | exact c7_1_1 | go_simp); have c8_1_2 : w8.cell? ⟨w.heap.size + 1, 2, none⟩ = some (.string y.s) := Fut.cell h8 (by first | exact c7_1_2 | go_simp); have c8_2_0 : w8.cell? ⟨w.heap.size + 2, 0, none⟩ = some (.int .i8 z.k) := Fut.cell h8 (by first | exact c7_2_0 | go_simp); have c8_2_1 : w8.cell? ⟨w.heap.size + 2, 1, none⟩ = some (.int .i64 z.n) := Fut.cell h8 (by first | exact c7_2_1 | go_simp); have c8_2_2 : w8.cell? ⟨w.heap.size + 2, 2, none⟩ = some (.string z.s) := Fut.cell h8 (by first | exact c7_2_2 | go_simp))
    go_wp2_with fail
    (skip; refine (H 4 _).mono ?_; rintro e w9 ⟨rfl, h9⟩; have c9_0_0 : w9.cell? ⟨w.heap.size, 0, none⟩ = some (.int .i8 x.k) := Fut.cell h9 (by first | exact c8_0_0 | go_simp); have c9_0_1 : w9.cell? ⟨w.heap.size, 1, none⟩ = some (.int .i64 x.n) := Fut.cell h9 (by first | exact c8_0_1 | go_simp); have c9_0_2 : w9.cell? ⟨w.heap.size, 2, none⟩ = some (.string x.s) := Fut.cell h9 (by first | exact c8_0_2 | go_simp); have c9_1_0 : w9.cell? ⟨w.heap.size + 1, 0, none⟩ = some (.int .i8 y.k) := Fut.cell h9 (by first | exact c8_1_0 | go_simp); have c9_1_1 : w9.cell? ⟨w.heap.size + 1, 1, none⟩ = some (.int .i64 y.n) := Fut.cell h9 (by first | exact c8_1_1 | go_simp); have c9_1_2 : w9.cell? ⟨w.heap.size + 1, 2, none⟩ = some (.string y.s) := Fut.cell h9 (by first | exact c8_1_2 | go_simp); have c9_2_0 : w9.cell? ⟨w.heap.size + 2, 0, none⟩ = some (.int .i8 z.k) := Fut.cell h9 (by first | exact c8_2_0 | go_simp); have c9_2_1 : w9.cell? ⟨w.heap.size + 2, 1, none⟩ = some (.int .i64 z.n) := Fut.cell h9 (by first | exact c8_2_1 | go_simp); have c9_2_2 : w9.cell? ⟨w.heap.size + 2, 2, none⟩ = some (.string z.s) := Fut.cell h9 (by first | exact c8_2_2 | go_simp))
    go_wp2_with fail
    (skip; refine (H 6 _).mono ?_; rintro e w10 ⟨rfl, h10⟩; have c10_0_0 : w10.cell? ⟨w.heap.size, 0, none⟩ = some (.int .i8 x.k) := Fut.cell h10 (by first | exact c9_0_0 | go_simp); have c10_0_1 : w10.cell? ⟨w.heap.size, 1, none⟩ = some (.int .i64 x.n) := Fut.cell h10 (by first | exact c9_0_1 | go_simp); have c10_0_2 : w10.cell? ⟨w.heap.size, 2, none⟩ = some (.string x.s) := Fut.cell h10 (by first | exact c9_0_2 | go_simp); have c10_1_0 : w10.cell? ⟨w.heap.size + 1, 0, none⟩ = some (.int .i8 y.k) := Fut.cell h10 (by first | exact c9_1_0 | go_simp); have c10_1_1 : w10.cell? ⟨w.heap.size + 1, 1, none⟩ = some (.int .i64 y.n) := Fut.cell h10 (by first | exact c9_1_1 | go_simp); have c10_1_2 : w10.cell? ⟨w.heap.size + 1, 2, none⟩ = some (.string y.s) := Fut.cell h10 (by first | exact c9_1_2 | go_simp); have c10_2_0 : w10.cell? ⟨w.heap.size + 2, 0, none⟩ = some (.int .i8 z.k) := Fut.cell h10 (by first | exact c9_2_0 | go_simp); have c10_2_1 : w10.cell? ⟨w.heap.size + 2, 1, none⟩ = some (.int .i64 z.n) := Fut.cell h10 (by first | exact c9_2_1 | go_simp); have c10_2_2 : w10.cell? ⟨w.heap.size + 2, 2, none⟩ = some (.string z.s) := Fut.cell h10 (by first | exact c9_2_2 | go_simp))
    go_wp2
    go_ret
    exact ⟨rfl, hF4.trans (h5.trans ( h6.trans ( h7.trans ( h8.trans ( h9.trans (h10))))))⟩

end Go.Proofs.YtailfcodbibnjaaDoor
