/- The comparisons, for the sort: they make blocks of their own and turn nothing. -/
import Derived.Test.YtlihkmldclocoaaDoorGr
import Derived.Test.YtlihkmldclocoaaDoorFact
namespace Go.Proofs.YtlihkmldclocoaaDoor.Gr
open Go.RowKit
set_option linter.unusedSimpArgs false
set_option linter.unusedVariables false

set_option maxHeartbeats 400000 in
theorem compare_gr (x y : V) (w : World) :
    Calls Tryd.prog 50 #[x.val, y.val] w fun e w' => e = .returned (.int .i64 (cmpV x y)) ∧ Fut w w' := by
  obtain ⟨k, n, s⟩ := x
  obtain ⟨k', n', s'⟩ := y
  unfold V.val
  go_enter Tryd.func50, Tryd.ntmps50
  go_wp2
  refine wp_graph 18 [.d, .d, .d, .d, .d, .d, .d, .d, .d, .d, .d, .d, .d, .d, .d, .r (fun v w => SlRep 1 17592186044416 RI w v [cmpI k k', cmpI n n', cmpS s s']), .d, .d] (by kernel_rfl) (by kernel_rfl) (by kernel_rfl) ?_
  simp only [List.take_succ_cons, List.take_zero, List.drop_succ_cons, List.drop_zero, Exs]
  iterate 17 apply Exists.intro
  apply Run.valG (wanted_none rfl _)
  · intro w1 h1 hk
    have cx_0_0 : w1.cell? ⟨w.heap.size, 0, none⟩ = some (.int .i8 k) := Fut.cell h1 (by first | exact c0_0_0 | go_simp)
    have cx_0_1 : w1.cell? ⟨w.heap.size, 1, none⟩ = some (.int .i64 n) := Fut.cell h1 (by first | exact c0_0_1 | go_simp)
    have cx_0_2 : w1.cell? ⟨w.heap.size, 2, none⟩ = some (.string s) := Fut.cell h1 (by first | exact c0_0_2 | go_simp)
    have cx_1_0 : w1.cell? ⟨w.heap.size + 1, 0, none⟩ = some (.int .i8 k') := Fut.cell h1 (by first | exact c0_1_0 | go_simp)
    have cx_1_1 : w1.cell? ⟨w.heap.size + 1, 1, none⟩ = some (.int .i64 n') := Fut.cell h1 (by first | exact c0_1_1 | go_simp)
    have cx_1_2 : w1.cell? ⟨w.heap.size + 1, 2, none⟩ = some (.string s') := Fut.cell h1 (by first | exact c0_1_2 | go_simp)
    go_simp; rfl
  simp only [Act.put, List.setIfInBounds_toArray, List.set_cons_succ, List.set_cons_zero, List.nil_append, List.cons_append]
  apply Run.valG (wanted_none rfl _)
  · intro w1 h1 hk
    have cx_0_0 : w1.cell? ⟨w.heap.size, 0, none⟩ = some (.int .i8 k) := Fut.cell h1 (by first | exact c0_0_0 | go_simp)
    have cx_0_1 : w1.cell? ⟨w.heap.size, 1, none⟩ = some (.int .i64 n) := Fut.cell h1 (by first | exact c0_0_1 | go_simp)
    have cx_0_2 : w1.cell? ⟨w.heap.size, 2, none⟩ = some (.string s) := Fut.cell h1 (by first | exact c0_0_2 | go_simp)
    have cx_1_0 : w1.cell? ⟨w.heap.size + 1, 0, none⟩ = some (.int .i8 k') := Fut.cell h1 (by first | exact c0_1_0 | go_simp)
    have cx_1_1 : w1.cell? ⟨w.heap.size + 1, 1, none⟩ = some (.int .i64 n') := Fut.cell h1 (by first | exact c0_1_1 | go_simp)
    have cx_1_2 : w1.cell? ⟨w.heap.size + 1, 2, none⟩ = some (.string s') := Fut.cell h1 (by first | exact c0_1_2 | go_simp)
    go_simp; rfl
  simp only [Act.put, List.setIfInBounds_toArray, List.set_cons_succ, List.set_cons_zero, List.nil_append, List.cons_append]
  apply Run.valG (wanted_none rfl _)
  · intro w1 h1 hk
    have cx_0_0 : w1.cell? ⟨w.heap.size, 0, none⟩ = some (.int .i8 k) := Fut.cell h1 (by first | exact c0_0_0 | go_simp)
    have cx_0_1 : w1.cell? ⟨w.heap.size, 1, none⟩ = some (.int .i64 n) := Fut.cell h1 (by first | exact c0_0_1 | go_simp)
    have cx_0_2 : w1.cell? ⟨w.heap.size, 2, none⟩ = some (.string s) := Fut.cell h1 (by first | exact c0_0_2 | go_simp)
    have cx_1_0 : w1.cell? ⟨w.heap.size + 1, 0, none⟩ = some (.int .i8 k') := Fut.cell h1 (by first | exact c0_1_0 | go_simp)
    have cx_1_1 : w1.cell? ⟨w.heap.size + 1, 1, none⟩ = some (.int .i64 n') := Fut.cell h1 (by first | exact c0_1_1 | go_simp)
    have cx_1_2 : w1.cell? ⟨w.heap.size + 1, 2, none⟩ = some (.string s') := Fut.cell h1 (by first | exact c0_1_2 | go_simp)
    go_simp; rfl
  simp only [Act.put, List.setIfInBounds_toArray, List.set_cons_succ, List.set_cons_zero, List.nil_append, List.cons_append]
  apply Run.valG (wanted_none rfl _)
  · intro w1 h1 hk
    have cx_0_0 : w1.cell? ⟨w.heap.size, 0, none⟩ = some (.int .i8 k) := Fut.cell h1 (by first | exact c0_0_0 | go_simp)
    have cx_0_1 : w1.cell? ⟨w.heap.size, 1, none⟩ = some (.int .i64 n) := Fut.cell h1 (by first | exact c0_0_1 | go_simp)
    have cx_0_2 : w1.cell? ⟨w.heap.size, 2, none⟩ = some (.string s) := Fut.cell h1 (by first | exact c0_0_2 | go_simp)
    have cx_1_0 : w1.cell? ⟨w.heap.size + 1, 0, none⟩ = some (.int .i8 k') := Fut.cell h1 (by first | exact c0_1_0 | go_simp)
    have cx_1_1 : w1.cell? ⟨w.heap.size + 1, 1, none⟩ = some (.int .i64 n') := Fut.cell h1 (by first | exact c0_1_1 | go_simp)
    have cx_1_2 : w1.cell? ⟨w.heap.size + 1, 2, none⟩ = some (.string s') := Fut.cell h1 (by first | exact c0_1_2 | go_simp)
    go_simp; rfl
  simp only [Act.put, List.setIfInBounds_toArray, List.set_cons_succ, List.set_cons_zero, List.nil_append, List.cons_append]
  apply Run.call (wanted_none rfl _) (fun _ _ => by go_simp; exact ⟨rfl, rfl⟩)
  · intro w1 h1 hk
    have cx_0_0 : w1.cell? ⟨w.heap.size, 0, none⟩ = some (.int .i8 k) := Fut.cell h1 (by first | exact c0_0_0 | go_simp)
    have cx_0_1 : w1.cell? ⟨w.heap.size, 1, none⟩ = some (.int .i64 n) := Fut.cell h1 (by first | exact c0_0_1 | go_simp)
    have cx_0_2 : w1.cell? ⟨w.heap.size, 2, none⟩ = some (.string s) := Fut.cell h1 (by first | exact c0_0_2 | go_simp)
    have cx_1_0 : w1.cell? ⟨w.heap.size + 1, 0, none⟩ = some (.int .i8 k') := Fut.cell h1 (by first | exact c0_1_0 | go_simp)
    have cx_1_1 : w1.cell? ⟨w.heap.size + 1, 1, none⟩ = some (.int .i64 n') := Fut.cell h1 (by first | exact c0_1_1 | go_simp)
    have cx_1_2 : w1.cell? ⟨w.heap.size + 1, 2, none⟩ = some (.string s') := Fut.cell h1 (by first | exact c0_1_2 | go_simp)
    exact (cmpKind_any _ _ _).mono fun e w' ⟨h, hw⟩ => ⟨h, hw ▸ Fut.refl _⟩
  simp only [Act.put, List.setIfInBounds_toArray, List.set_cons_succ, List.set_cons_zero, List.nil_append, List.cons_append]
  apply Run.valG (wanted_none rfl _)
  · intro w1 h1 hk
    have cx_0_0 : w1.cell? ⟨w.heap.size, 0, none⟩ = some (.int .i8 k) := Fut.cell h1 (by first | exact c0_0_0 | go_simp)
    have cx_0_1 : w1.cell? ⟨w.heap.size, 1, none⟩ = some (.int .i64 n) := Fut.cell h1 (by first | exact c0_0_1 | go_simp)
    have cx_0_2 : w1.cell? ⟨w.heap.size, 2, none⟩ = some (.string s) := Fut.cell h1 (by first | exact c0_0_2 | go_simp)
    have cx_1_0 : w1.cell? ⟨w.heap.size + 1, 0, none⟩ = some (.int .i8 k') := Fut.cell h1 (by first | exact c0_1_0 | go_simp)
    have cx_1_1 : w1.cell? ⟨w.heap.size + 1, 1, none⟩ = some (.int .i64 n') := Fut.cell h1 (by first | exact c0_1_1 | go_simp)
    have cx_1_2 : w1.cell? ⟨w.heap.size + 1, 2, none⟩ = some (.string s') := Fut.cell h1 (by first | exact c0_1_2 | go_simp)
    go_simp; rfl
  simp only [Act.put, List.setIfInBounds_toArray, List.set_cons_succ, List.set_cons_zero, List.nil_append, List.cons_append]
  apply Run.valG (wanted_none rfl _)
  · intro w1 h1 hk
    have cx_0_0 : w1.cell? ⟨w.heap.size, 0, none⟩ = some (.int .i8 k) := Fut.cell h1 (by first | exact c0_0_0 | go_simp)
    have cx_0_1 : w1.cell? ⟨w.heap.size, 1, none⟩ = some (.int .i64 n) := Fut.cell h1 (by first | exact c0_0_1 | go_simp)
    have cx_0_2 : w1.cell? ⟨w.heap.size, 2, none⟩ = some (.string s) := Fut.cell h1 (by first | exact c0_0_2 | go_simp)
    have cx_1_0 : w1.cell? ⟨w.heap.size + 1, 0, none⟩ = some (.int .i8 k') := Fut.cell h1 (by first | exact c0_1_0 | go_simp)
    have cx_1_1 : w1.cell? ⟨w.heap.size + 1, 1, none⟩ = some (.int .i64 n') := Fut.cell h1 (by first | exact c0_1_1 | go_simp)
    have cx_1_2 : w1.cell? ⟨w.heap.size + 1, 2, none⟩ = some (.string s') := Fut.cell h1 (by first | exact c0_1_2 | go_simp)
    go_simp; rfl
  simp only [Act.put, List.setIfInBounds_toArray, List.set_cons_succ, List.set_cons_zero, List.nil_append, List.cons_append]
  apply Run.valG (wanted_none rfl _)
  · intro w1 h1 hk
    have cx_0_0 : w1.cell? ⟨w.heap.size, 0, none⟩ = some (.int .i8 k) := Fut.cell h1 (by first | exact c0_0_0 | go_simp)
    have cx_0_1 : w1.cell? ⟨w.heap.size, 1, none⟩ = some (.int .i64 n) := Fut.cell h1 (by first | exact c0_0_1 | go_simp)
    have cx_0_2 : w1.cell? ⟨w.heap.size, 2, none⟩ = some (.string s) := Fut.cell h1 (by first | exact c0_0_2 | go_simp)
    have cx_1_0 : w1.cell? ⟨w.heap.size + 1, 0, none⟩ = some (.int .i8 k') := Fut.cell h1 (by first | exact c0_1_0 | go_simp)
    have cx_1_1 : w1.cell? ⟨w.heap.size + 1, 1, none⟩ = some (.int .i64 n') := Fut.cell h1 (by first | exact c0_1_1 | go_simp)
    have cx_1_2 : w1.cell? ⟨w.heap.size + 1, 2, none⟩ = some (.string s') := Fut.cell h1 (by first | exact c0_1_2 | go_simp)
    go_simp; rfl
  simp only [Act.put, List.setIfInBounds_toArray, List.set_cons_succ, List.set_cons_zero, List.nil_append, List.cons_append]
  apply Run.valG (wanted_none rfl _)
  · intro w1 h1 hk
    have cx_0_0 : w1.cell? ⟨w.heap.size, 0, none⟩ = some (.int .i8 k) := Fut.cell h1 (by first | exact c0_0_0 | go_simp)
    have cx_0_1 : w1.cell? ⟨w.heap.size, 1, none⟩ = some (.int .i64 n) := Fut.cell h1 (by first | exact c0_0_1 | go_simp)
    have cx_0_2 : w1.cell? ⟨w.heap.size, 2, none⟩ = some (.string s) := Fut.cell h1 (by first | exact c0_0_2 | go_simp)
    have cx_1_0 : w1.cell? ⟨w.heap.size + 1, 0, none⟩ = some (.int .i8 k') := Fut.cell h1 (by first | exact c0_1_0 | go_simp)
    have cx_1_1 : w1.cell? ⟨w.heap.size + 1, 1, none⟩ = some (.int .i64 n') := Fut.cell h1 (by first | exact c0_1_1 | go_simp)
    have cx_1_2 : w1.cell? ⟨w.heap.size + 1, 2, none⟩ = some (.string s') := Fut.cell h1 (by first | exact c0_1_2 | go_simp)
    go_simp; rfl
  simp only [Act.put, List.setIfInBounds_toArray, List.set_cons_succ, List.set_cons_zero, List.nil_append, List.cons_append]
  apply Run.call (wanted_none rfl _) (fun _ _ => by go_simp; exact ⟨rfl, rfl⟩)
  · intro w1 h1 hk
    have cx_0_0 : w1.cell? ⟨w.heap.size, 0, none⟩ = some (.int .i8 k) := Fut.cell h1 (by first | exact c0_0_0 | go_simp)
    have cx_0_1 : w1.cell? ⟨w.heap.size, 1, none⟩ = some (.int .i64 n) := Fut.cell h1 (by first | exact c0_0_1 | go_simp)
    have cx_0_2 : w1.cell? ⟨w.heap.size, 2, none⟩ = some (.string s) := Fut.cell h1 (by first | exact c0_0_2 | go_simp)
    have cx_1_0 : w1.cell? ⟨w.heap.size + 1, 0, none⟩ = some (.int .i8 k') := Fut.cell h1 (by first | exact c0_1_0 | go_simp)
    have cx_1_1 : w1.cell? ⟨w.heap.size + 1, 1, none⟩ = some (.int .i64 n') := Fut.cell h1 (by first | exact c0_1_1 | go_simp)
    have cx_1_2 : w1.cell? ⟨w.heap.size + 1, 2, none⟩ = some (.string s') := Fut.cell h1 (by first | exact c0_1_2 | go_simp)
    exact (cmpI64_any _ _ _).mono fun e w' ⟨h, hw⟩ => ⟨h, hw ▸ Fut.refl _⟩
  simp only [Act.put, List.setIfInBounds_toArray, List.set_cons_succ, List.set_cons_zero, List.nil_append, List.cons_append]
  apply Run.valG (wanted_none rfl _)
  · intro w1 h1 hk
    have cx_0_0 : w1.cell? ⟨w.heap.size, 0, none⟩ = some (.int .i8 k) := Fut.cell h1 (by first | exact c0_0_0 | go_simp)
    have cx_0_1 : w1.cell? ⟨w.heap.size, 1, none⟩ = some (.int .i64 n) := Fut.cell h1 (by first | exact c0_0_1 | go_simp)
    have cx_0_2 : w1.cell? ⟨w.heap.size, 2, none⟩ = some (.string s) := Fut.cell h1 (by first | exact c0_0_2 | go_simp)
    have cx_1_0 : w1.cell? ⟨w.heap.size + 1, 0, none⟩ = some (.int .i8 k') := Fut.cell h1 (by first | exact c0_1_0 | go_simp)
    have cx_1_1 : w1.cell? ⟨w.heap.size + 1, 1, none⟩ = some (.int .i64 n') := Fut.cell h1 (by first | exact c0_1_1 | go_simp)
    have cx_1_2 : w1.cell? ⟨w.heap.size + 1, 2, none⟩ = some (.string s') := Fut.cell h1 (by first | exact c0_1_2 | go_simp)
    go_simp; rfl
  simp only [Act.put, List.setIfInBounds_toArray, List.set_cons_succ, List.set_cons_zero, List.nil_append, List.cons_append]
  apply Run.valG (wanted_none rfl _)
  · intro w1 h1 hk
    have cx_0_0 : w1.cell? ⟨w.heap.size, 0, none⟩ = some (.int .i8 k) := Fut.cell h1 (by first | exact c0_0_0 | go_simp)
    have cx_0_1 : w1.cell? ⟨w.heap.size, 1, none⟩ = some (.int .i64 n) := Fut.cell h1 (by first | exact c0_0_1 | go_simp)
    have cx_0_2 : w1.cell? ⟨w.heap.size, 2, none⟩ = some (.string s) := Fut.cell h1 (by first | exact c0_0_2 | go_simp)
    have cx_1_0 : w1.cell? ⟨w.heap.size + 1, 0, none⟩ = some (.int .i8 k') := Fut.cell h1 (by first | exact c0_1_0 | go_simp)
    have cx_1_1 : w1.cell? ⟨w.heap.size + 1, 1, none⟩ = some (.int .i64 n') := Fut.cell h1 (by first | exact c0_1_1 | go_simp)
    have cx_1_2 : w1.cell? ⟨w.heap.size + 1, 2, none⟩ = some (.string s') := Fut.cell h1 (by first | exact c0_1_2 | go_simp)
    go_simp; rfl
  simp only [Act.put, List.setIfInBounds_toArray, List.set_cons_succ, List.set_cons_zero, List.nil_append, List.cons_append]
  apply Run.valG (wanted_none rfl _)
  · intro w1 h1 hk
    have cx_0_0 : w1.cell? ⟨w.heap.size, 0, none⟩ = some (.int .i8 k) := Fut.cell h1 (by first | exact c0_0_0 | go_simp)
    have cx_0_1 : w1.cell? ⟨w.heap.size, 1, none⟩ = some (.int .i64 n) := Fut.cell h1 (by first | exact c0_0_1 | go_simp)
    have cx_0_2 : w1.cell? ⟨w.heap.size, 2, none⟩ = some (.string s) := Fut.cell h1 (by first | exact c0_0_2 | go_simp)
    have cx_1_0 : w1.cell? ⟨w.heap.size + 1, 0, none⟩ = some (.int .i8 k') := Fut.cell h1 (by first | exact c0_1_0 | go_simp)
    have cx_1_1 : w1.cell? ⟨w.heap.size + 1, 1, none⟩ = some (.int .i64 n') := Fut.cell h1 (by first | exact c0_1_1 | go_simp)
    have cx_1_2 : w1.cell? ⟨w.heap.size + 1, 2, none⟩ = some (.string s') := Fut.cell h1 (by first | exact c0_1_2 | go_simp)
    go_simp; rfl
  simp only [Act.put, List.setIfInBounds_toArray, List.set_cons_succ, List.set_cons_zero, List.nil_append, List.cons_append]
  apply Run.valG (wanted_none rfl _)
  · intro w1 h1 hk
    have cx_0_0 : w1.cell? ⟨w.heap.size, 0, none⟩ = some (.int .i8 k) := Fut.cell h1 (by first | exact c0_0_0 | go_simp)
    have cx_0_1 : w1.cell? ⟨w.heap.size, 1, none⟩ = some (.int .i64 n) := Fut.cell h1 (by first | exact c0_0_1 | go_simp)
    have cx_0_2 : w1.cell? ⟨w.heap.size, 2, none⟩ = some (.string s) := Fut.cell h1 (by first | exact c0_0_2 | go_simp)
    have cx_1_0 : w1.cell? ⟨w.heap.size + 1, 0, none⟩ = some (.int .i8 k') := Fut.cell h1 (by first | exact c0_1_0 | go_simp)
    have cx_1_1 : w1.cell? ⟨w.heap.size + 1, 1, none⟩ = some (.int .i64 n') := Fut.cell h1 (by first | exact c0_1_1 | go_simp)
    have cx_1_2 : w1.cell? ⟨w.heap.size + 1, 2, none⟩ = some (.string s') := Fut.cell h1 (by first | exact c0_1_2 | go_simp)
    go_simp; rfl
  simp only [Act.put, List.setIfInBounds_toArray, List.set_cons_succ, List.set_cons_zero, List.nil_append, List.cons_append]
  apply Run.call (wanted_none rfl _) (fun _ _ => by go_simp; exact ⟨rfl, rfl⟩)
  · intro w1 h1 hk
    have cx_0_0 : w1.cell? ⟨w.heap.size, 0, none⟩ = some (.int .i8 k) := Fut.cell h1 (by first | exact c0_0_0 | go_simp)
    have cx_0_1 : w1.cell? ⟨w.heap.size, 1, none⟩ = some (.int .i64 n) := Fut.cell h1 (by first | exact c0_0_1 | go_simp)
    have cx_0_2 : w1.cell? ⟨w.heap.size, 2, none⟩ = some (.string s) := Fut.cell h1 (by first | exact c0_0_2 | go_simp)
    have cx_1_0 : w1.cell? ⟨w.heap.size + 1, 0, none⟩ = some (.int .i8 k') := Fut.cell h1 (by first | exact c0_1_0 | go_simp)
    have cx_1_1 : w1.cell? ⟨w.heap.size + 1, 1, none⟩ = some (.int .i64 n') := Fut.cell h1 (by first | exact c0_1_1 | go_simp)
    have cx_1_2 : w1.cell? ⟨w.heap.size + 1, 2, none⟩ = some (.string s') := Fut.cell h1 (by first | exact c0_1_2 | go_simp)
    exact (Tryd.strings_Compare _ _ _).mono fun e w' ⟨h, hw⟩ => ⟨h, hw ▸ Fut.refl _⟩
  simp only [Act.put, List.setIfInBounds_toArray, List.set_cons_succ, List.set_cons_zero, List.nil_append, List.cons_append]
  apply Run.valR (wanted_none rfl _) (by intro v w w' hf hs; exact hs.fut RI.stays hf.below)
  · intro w1 h1 hk
    have cx_0_0 : w1.cell? ⟨w.heap.size, 0, none⟩ = some (.int .i8 k) := Fut.cell h1 (by first | exact c0_0_0 | go_simp)
    have cx_0_1 : w1.cell? ⟨w.heap.size, 1, none⟩ = some (.int .i64 n) := Fut.cell h1 (by first | exact c0_0_1 | go_simp)
    have cx_0_2 : w1.cell? ⟨w.heap.size, 2, none⟩ = some (.string s) := Fut.cell h1 (by first | exact c0_0_2 | go_simp)
    have cx_1_0 : w1.cell? ⟨w.heap.size + 1, 0, none⟩ = some (.int .i8 k') := Fut.cell h1 (by first | exact c0_1_0 | go_simp)
    have cx_1_1 : w1.cell? ⟨w.heap.size + 1, 1, none⟩ = some (.int .i64 n') := Fut.cell h1 (by first | exact c0_1_1 | go_simp)
    have cx_1_2 : w1.cell? ⟨w.heap.size + 1, 2, none⟩ = some (.string s') := Fut.cell h1 (by first | exact c0_1_2 | go_simp)
    go_simp; exact ⟨_, _, ⟨rfl, rfl⟩, Fut.alloc _ _, ints_new w1 _ [cmpI k k', cmpI n n', cmpS s s'] (by simp)⟩
  intro v15
  simp only [Act.put, List.setIfInBounds_toArray, List.set_cons_succ, List.set_cons_zero, List.nil_append, List.cons_append]
  apply Run.call (wanted_none rfl _) (fun _ _ => by go_simp; exact ⟨rfl, rfl⟩)
  · intro w1 h1 hk
    have f15 := Facts.get hk 0 rfl (by kernel_rfl)
    have cx_0_0 : w1.cell? ⟨w.heap.size, 0, none⟩ = some (.int .i8 k) := Fut.cell h1 (by first | exact c0_0_0 | go_simp)
    have cx_0_1 : w1.cell? ⟨w.heap.size, 1, none⟩ = some (.int .i64 n) := Fut.cell h1 (by first | exact c0_0_1 | go_simp)
    have cx_0_2 : w1.cell? ⟨w.heap.size, 2, none⟩ = some (.string s) := Fut.cell h1 (by first | exact c0_0_2 | go_simp)
    have cx_1_0 : w1.cell? ⟨w.heap.size + 1, 0, none⟩ = some (.int .i8 k') := Fut.cell h1 (by first | exact c0_1_0 | go_simp)
    have cx_1_1 : w1.cell? ⟨w.heap.size + 1, 1, none⟩ = some (.int .i64 n') := Fut.cell h1 (by first | exact c0_1_1 | go_simp)
    have cx_1_2 : w1.cell? ⟨w.heap.size + 1, 2, none⟩ = some (.string s') := Fut.cell h1 (by first | exact c0_1_2 | go_simp)
    exact (or_any _ _ _ f15).mono fun e w' ⟨h, hw⟩ => ⟨h, hw ▸ Fut.refl _⟩
  simp only [Act.put, List.setIfInBounds_toArray, List.set_cons_succ, List.set_cons_zero, List.nil_append, List.cons_append]
  apply Run.valG (wanted_none rfl _)
  · intro w1 h1 hk
    have cx_0_0 : w1.cell? ⟨w.heap.size, 0, none⟩ = some (.int .i8 k) := Fut.cell h1 (by first | exact c0_0_0 | go_simp)
    have cx_0_1 : w1.cell? ⟨w.heap.size, 1, none⟩ = some (.int .i64 n) := Fut.cell h1 (by first | exact c0_0_1 | go_simp)
    have cx_0_2 : w1.cell? ⟨w.heap.size, 2, none⟩ = some (.string s) := Fut.cell h1 (by first | exact c0_0_2 | go_simp)
    have cx_1_0 : w1.cell? ⟨w.heap.size + 1, 0, none⟩ = some (.int .i8 k') := Fut.cell h1 (by first | exact c0_1_0 | go_simp)
    have cx_1_1 : w1.cell? ⟨w.heap.size + 1, 1, none⟩ = some (.int .i64 n') := Fut.cell h1 (by first | exact c0_1_1 | go_simp)
    have cx_1_2 : w1.cell? ⟨w.heap.size + 1, 2, none⟩ = some (.string s') := Fut.cell h1 (by first | exact c0_1_2 | go_simp)
    go_simp; rfl
  simp only [Act.put, List.setIfInBounds_toArray, List.set_cons_succ, List.set_cons_zero, List.nil_append, List.cons_append]
  apply Run.done
  intro w2 h2 hk
  have c2_0_0 : w2.cell? ⟨w.heap.size, 0, none⟩ = some (.int .i8 k) := Fut.cell h2 (by first | exact c0_0_0 | go_simp)
  have c2_0_1 : w2.cell? ⟨w.heap.size, 1, none⟩ = some (.int .i64 n) := Fut.cell h2 (by first | exact c0_0_1 | go_simp)
  have c2_0_2 : w2.cell? ⟨w.heap.size, 2, none⟩ = some (.string s) := Fut.cell h2 (by first | exact c0_0_2 | go_simp)
  have c2_1_0 : w2.cell? ⟨w.heap.size + 1, 0, none⟩ = some (.int .i8 k') := Fut.cell h2 (by first | exact c0_1_0 | go_simp)
  have c2_1_1 : w2.cell? ⟨w.heap.size + 1, 1, none⟩ = some (.int .i64 n') := Fut.cell h2 (by first | exact c0_1_1 | go_simp)
  have c2_1_2 : w2.cell? ⟨w.heap.size + 1, 2, none⟩ = some (.string s') := Fut.cell h2 (by first | exact c0_1_2 | go_simp)
  obtain ⟨f15, _⟩ := hk
  go_wp2
  go_ret
  exact ⟨rfl, ((Fut.alloc _ _).trans (Fut.alloc _ _)).trans ((Fut.drew _).trans h2)⟩

set_option maxHeartbeats 800000 in
theorem cmpFunc_gr (a b : Value) (xs ys : List V) (w : World) (ha : Vals w a xs) (hb : Vals w b ys) :
    Calls Tryd.prog 92 #[a, b, .func (.func 50) #[] #[]] w fun e w' => e = .returned (.int .i64 (cmpT xs ys)) ∧ Fut w w' := by
  obtain ⟨A, cap, rfl, hl, hm⟩ := SlRep.form ha
  obtain ⟨B, cap', rfl, hl', hm'⟩ := SlRep.form hb
  go_enter Tryd.func92, Tryd.ntmps92
  go_wp2
  go_loopw [13] (fun i wr => ∃ k : Nat, k ≤ xs.length ∧ k ≤ ys.length ∧ i = .int .i64 k ∧ Hid (∀ i (_ : i < k) (hx : i < xs.length) (hy : i < ys.length), cmpV xs[i] ys[i] = 0) ∧ Hid (Fut w wr)) (fun i _ => xs.length - (intOf i).toNat)
  case atStart => exact ⟨0, Nat.zero_le _, Nat.zero_le _, rfl, fun i hi => absurd hi (by omega), Fut.refl w⟩
  case round =>
    obtain ⟨k, hk, hk', rfl, hz, hf⟩ := hrel
    by_cases hlt : k < xs.length
    · obtain ⟨b, off, rfl, _, x0, x1, x2⟩ := Vals.at_ (ha.fut RV.stays hf.out.below) hlt
      by_cases hlt' : k < ys.length
      · obtain ⟨b', off', rfl, _, y0, y1, y2⟩ := Vals.at_ (hb.fut RV.stays hf.out.below) hlt'
        have hb0 := lt_of_cell x0
        have hb0' := lt_of_cell y0
        simp only at hb0 hb0'
        by_cases he : cmpV xs[k] ys[k] = 0
        · have hd : (cmpV xs[k] ys[k] != 0) = false := by simpa using he
          have HE := Lib.hid he
          clear he
          go_wp2_with fail
          refine (compare_gr xs[k] ys[k] _).mono ?_
          rintro e w1 ⟨rfl, h1⟩
          go_wp2
          go_roundw
          case rel => exact ⟨k + 1, by omega, by omega, by go_num, fun i hi hx hy => by
            rcases Nat.lt_or_ge i k with h' | h'
            · exact hz.out i h' hx hy
            · obtain rfl : i = k := by omega
              exact HE.out, hf.out.trans (((Fut.alloc _ _).trans (Fut.alloc _ _)).trans h1)⟩
          case measure => simp [intOf]; omega
        · have hd : (cmpV xs[k] ys[k] != 0) = true := by simpa using he
          have HE := Lib.hid he
          clear he
          go_wp2_with fail
          refine (compare_gr xs[k] ys[k] _).mono ?_
          rintro e w1 ⟨rfl, h1⟩
          go_wp2
          go_ret
          refine ⟨?_, hf.out.trans (((Fut.alloc _ _).trans (Fut.alloc _ _)).trans h1)⟩
          rw [cmpT_step hlt hlt' hz.out HE.out]
          rfl
      · have hkl := Lib.hid (cmpT_end (k := k) (xs := xs) (ys := ys) (.inr (by omega)) hk hk' hz.out)
        go_wp2
        go_ret
        refine ⟨?_, hf.out.trans (Fut.alloc _ _)⟩
        rw [hkl.out, if_neg (by omega), if_pos (by omega)]
        rfl
    · have hkl := Lib.hid (cmpT_end (k := k) (xs := xs) (ys := ys) (.inl (by omega)) hk hk' hz.out)
      go_wp2
      all_goals go_ret
      all_goals refine ⟨?_, hf.out⟩
      all_goals first | (rw [hkl.out, if_pos (by omega)]; rfl) | (rw [hkl.out, if_neg (by omega), if_pos (by omega)]; rfl) | (rw [hkl.out, if_neg (by omega), if_neg (by omega)]; rfl)
set_option maxHeartbeats 400000 in
theorem cmpT_gr (a b : Value) (xs ys : List V) (w : World) (ha : Vals w a xs) (hb : Vals w b ys) :
    Calls Tryd.prog 61 #[a, b] w fun e w' => e = .returned (.int .i64 (cmpT xs ys)) ∧ Fut w w' := by
  go_enter Tryd.func61, Tryd.ntmps61
  go_wp2_with fail
  refine (cmpFunc_gr a b xs ys _ ha hb).mono ?_
  rintro e w1 ⟨rfl, h1⟩
  go_wp2
  go_ret
  exact ⟨rfl, h1⟩

set_option maxHeartbeats 400000 in
theorem cmpF_gr (f g : Fc) (u v : Value) (w : World) (hu : Vals w u f.a) (hv : Vals w v g.a) :
    Calls Tryd.prog 30 #[.agg #[.string f.p, u], .agg #[.string g.p, v]] w fun e w' => e = .returned (.int .i64 (cmpF f g)) ∧ Fut w w' := by
  obtain ⟨A, cap, rfl, hl, hm⟩ := SlRep.form hu
  obtain ⟨B, cap', rfl, hl', hm'⟩ := SlRep.form hv
  have hf0 : ∀ X Y, Fut w ((w.alloc X).alloc Y).drew := fun X Y => ((Fut.alloc _ _).trans (Fut.alloc _ _)).trans (Fut.drew _)
  go_enter Tryd.func30, Tryd.ntmps30
  go_wp2
  refine wp_graph 13 [.d, .d, .d, .d, .d, .d, .d, .d, .d, .d, .r (fun v w => SlRep 1 17592186044416 RI w v [cmpS f.p g.p, cmpT f.a g.a]), .d, .d] (by kernel_rfl) (by kernel_rfl) (by kernel_rfl) ?_
  simp only [List.take_succ_cons, List.take_zero, List.drop_succ_cons, List.drop_zero, Exs]
  iterate 12 apply Exists.intro
  apply Run.valG (wanted_none rfl _)
  · intro w1 h1 hk
    have cx_0_0 : w1.cell? ⟨w.heap.size, 0, none⟩ = some (.string f.p) := Fut.cell h1 (by first | exact c0_0_0 | go_simp)
    have cx_0_1 : w1.cell? ⟨w.heap.size, 1, none⟩ = some (.slice A f.a.length cap) := Fut.cell h1 (by first | exact c0_0_1 | go_simp)
    have cx_1_0 : w1.cell? ⟨w.heap.size + 1, 0, none⟩ = some (.string g.p) := Fut.cell h1 (by first | exact c0_1_0 | go_simp)
    have cx_1_1 : w1.cell? ⟨w.heap.size + 1, 1, none⟩ = some (.slice B g.a.length cap') := Fut.cell h1 (by first | exact c0_1_1 | go_simp)
    go_simp; rfl
  simp only [Act.put, List.setIfInBounds_toArray, List.set_cons_succ, List.set_cons_zero, List.nil_append, List.cons_append]
  apply Run.valG (wanted_none rfl _)
  · intro w1 h1 hk
    have cx_0_0 : w1.cell? ⟨w.heap.size, 0, none⟩ = some (.string f.p) := Fut.cell h1 (by first | exact c0_0_0 | go_simp)
    have cx_0_1 : w1.cell? ⟨w.heap.size, 1, none⟩ = some (.slice A f.a.length cap) := Fut.cell h1 (by first | exact c0_0_1 | go_simp)
    have cx_1_0 : w1.cell? ⟨w.heap.size + 1, 0, none⟩ = some (.string g.p) := Fut.cell h1 (by first | exact c0_1_0 | go_simp)
    have cx_1_1 : w1.cell? ⟨w.heap.size + 1, 1, none⟩ = some (.slice B g.a.length cap') := Fut.cell h1 (by first | exact c0_1_1 | go_simp)
    go_simp; rfl
  simp only [Act.put, List.setIfInBounds_toArray, List.set_cons_succ, List.set_cons_zero, List.nil_append, List.cons_append]
  apply Run.valG (wanted_none rfl _)
  · intro w1 h1 hk
    have cx_0_0 : w1.cell? ⟨w.heap.size, 0, none⟩ = some (.string f.p) := Fut.cell h1 (by first | exact c0_0_0 | go_simp)
    have cx_0_1 : w1.cell? ⟨w.heap.size, 1, none⟩ = some (.slice A f.a.length cap) := Fut.cell h1 (by first | exact c0_0_1 | go_simp)
    have cx_1_0 : w1.cell? ⟨w.heap.size + 1, 0, none⟩ = some (.string g.p) := Fut.cell h1 (by first | exact c0_1_0 | go_simp)
    have cx_1_1 : w1.cell? ⟨w.heap.size + 1, 1, none⟩ = some (.slice B g.a.length cap') := Fut.cell h1 (by first | exact c0_1_1 | go_simp)
    go_simp; rfl
  simp only [Act.put, List.setIfInBounds_toArray, List.set_cons_succ, List.set_cons_zero, List.nil_append, List.cons_append]
  apply Run.valG (wanted_none rfl _)
  · intro w1 h1 hk
    have cx_0_0 : w1.cell? ⟨w.heap.size, 0, none⟩ = some (.string f.p) := Fut.cell h1 (by first | exact c0_0_0 | go_simp)
    have cx_0_1 : w1.cell? ⟨w.heap.size, 1, none⟩ = some (.slice A f.a.length cap) := Fut.cell h1 (by first | exact c0_0_1 | go_simp)
    have cx_1_0 : w1.cell? ⟨w.heap.size + 1, 0, none⟩ = some (.string g.p) := Fut.cell h1 (by first | exact c0_1_0 | go_simp)
    have cx_1_1 : w1.cell? ⟨w.heap.size + 1, 1, none⟩ = some (.slice B g.a.length cap') := Fut.cell h1 (by first | exact c0_1_1 | go_simp)
    go_simp; rfl
  simp only [Act.put, List.setIfInBounds_toArray, List.set_cons_succ, List.set_cons_zero, List.nil_append, List.cons_append]
  apply Run.call (wanted_none rfl _) (fun _ _ => by go_simp; exact ⟨rfl, rfl⟩)
  · intro w1 h1 hk
    have cx_0_0 : w1.cell? ⟨w.heap.size, 0, none⟩ = some (.string f.p) := Fut.cell h1 (by first | exact c0_0_0 | go_simp)
    have cx_0_1 : w1.cell? ⟨w.heap.size, 1, none⟩ = some (.slice A f.a.length cap) := Fut.cell h1 (by first | exact c0_0_1 | go_simp)
    have cx_1_0 : w1.cell? ⟨w.heap.size + 1, 0, none⟩ = some (.string g.p) := Fut.cell h1 (by first | exact c0_1_0 | go_simp)
    have cx_1_1 : w1.cell? ⟨w.heap.size + 1, 1, none⟩ = some (.slice B g.a.length cap') := Fut.cell h1 (by first | exact c0_1_1 | go_simp)
    exact (Tryd.strings_Compare _ _ _).mono fun e w' ⟨h, hw⟩ => ⟨h, hw ▸ Fut.refl _⟩
  simp only [Act.put, List.setIfInBounds_toArray, List.set_cons_succ, List.set_cons_zero, List.nil_append, List.cons_append]
  apply Run.valG (wanted_none rfl _)
  · intro w1 h1 hk
    have cx_0_0 : w1.cell? ⟨w.heap.size, 0, none⟩ = some (.string f.p) := Fut.cell h1 (by first | exact c0_0_0 | go_simp)
    have cx_0_1 : w1.cell? ⟨w.heap.size, 1, none⟩ = some (.slice A f.a.length cap) := Fut.cell h1 (by first | exact c0_0_1 | go_simp)
    have cx_1_0 : w1.cell? ⟨w.heap.size + 1, 0, none⟩ = some (.string g.p) := Fut.cell h1 (by first | exact c0_1_0 | go_simp)
    have cx_1_1 : w1.cell? ⟨w.heap.size + 1, 1, none⟩ = some (.slice B g.a.length cap') := Fut.cell h1 (by first | exact c0_1_1 | go_simp)
    go_simp; rfl
  simp only [Act.put, List.setIfInBounds_toArray, List.set_cons_succ, List.set_cons_zero, List.nil_append, List.cons_append]
  apply Run.valG (wanted_none rfl _)
  · intro w1 h1 hk
    have cx_0_0 : w1.cell? ⟨w.heap.size, 0, none⟩ = some (.string f.p) := Fut.cell h1 (by first | exact c0_0_0 | go_simp)
    have cx_0_1 : w1.cell? ⟨w.heap.size, 1, none⟩ = some (.slice A f.a.length cap) := Fut.cell h1 (by first | exact c0_0_1 | go_simp)
    have cx_1_0 : w1.cell? ⟨w.heap.size + 1, 0, none⟩ = some (.string g.p) := Fut.cell h1 (by first | exact c0_1_0 | go_simp)
    have cx_1_1 : w1.cell? ⟨w.heap.size + 1, 1, none⟩ = some (.slice B g.a.length cap') := Fut.cell h1 (by first | exact c0_1_1 | go_simp)
    go_simp; rfl
  simp only [Act.put, List.setIfInBounds_toArray, List.set_cons_succ, List.set_cons_zero, List.nil_append, List.cons_append]
  apply Run.valG (wanted_none rfl _)
  · intro w1 h1 hk
    have cx_0_0 : w1.cell? ⟨w.heap.size, 0, none⟩ = some (.string f.p) := Fut.cell h1 (by first | exact c0_0_0 | go_simp)
    have cx_0_1 : w1.cell? ⟨w.heap.size, 1, none⟩ = some (.slice A f.a.length cap) := Fut.cell h1 (by first | exact c0_0_1 | go_simp)
    have cx_1_0 : w1.cell? ⟨w.heap.size + 1, 0, none⟩ = some (.string g.p) := Fut.cell h1 (by first | exact c0_1_0 | go_simp)
    have cx_1_1 : w1.cell? ⟨w.heap.size + 1, 1, none⟩ = some (.slice B g.a.length cap') := Fut.cell h1 (by first | exact c0_1_1 | go_simp)
    go_simp; rfl
  simp only [Act.put, List.setIfInBounds_toArray, List.set_cons_succ, List.set_cons_zero, List.nil_append, List.cons_append]
  apply Run.valG (wanted_none rfl _)
  · intro w1 h1 hk
    have cx_0_0 : w1.cell? ⟨w.heap.size, 0, none⟩ = some (.string f.p) := Fut.cell h1 (by first | exact c0_0_0 | go_simp)
    have cx_0_1 : w1.cell? ⟨w.heap.size, 1, none⟩ = some (.slice A f.a.length cap) := Fut.cell h1 (by first | exact c0_0_1 | go_simp)
    have cx_1_0 : w1.cell? ⟨w.heap.size + 1, 0, none⟩ = some (.string g.p) := Fut.cell h1 (by first | exact c0_1_0 | go_simp)
    have cx_1_1 : w1.cell? ⟨w.heap.size + 1, 1, none⟩ = some (.slice B g.a.length cap') := Fut.cell h1 (by first | exact c0_1_1 | go_simp)
    go_simp; rfl
  simp only [Act.put, List.setIfInBounds_toArray, List.set_cons_succ, List.set_cons_zero, List.nil_append, List.cons_append]
  apply Run.call (wanted_none rfl _) (fun _ _ => by go_simp; exact ⟨rfl, rfl⟩)
  · intro w1 h1 hk
    have cx_0_0 : w1.cell? ⟨w.heap.size, 0, none⟩ = some (.string f.p) := Fut.cell h1 (by first | exact c0_0_0 | go_simp)
    have cx_0_1 : w1.cell? ⟨w.heap.size, 1, none⟩ = some (.slice A f.a.length cap) := Fut.cell h1 (by first | exact c0_0_1 | go_simp)
    have cx_1_0 : w1.cell? ⟨w.heap.size + 1, 0, none⟩ = some (.string g.p) := Fut.cell h1 (by first | exact c0_1_0 | go_simp)
    have cx_1_1 : w1.cell? ⟨w.heap.size + 1, 1, none⟩ = some (.slice B g.a.length cap') := Fut.cell h1 (by first | exact c0_1_1 | go_simp)
    exact cmpT_gr _ _ f.a g.a _ (hu.fut RV.stays ((hf0 _ _).trans h1).below) (hv.fut RV.stays ((hf0 _ _).trans h1).below)
  simp only [Act.put, List.setIfInBounds_toArray, List.set_cons_succ, List.set_cons_zero, List.nil_append, List.cons_append]
  apply Run.valR (wanted_none rfl _) (by intro v w w' hf hs; exact hs.fut RI.stays hf.below)
  · intro w1 h1 hk
    have cx_0_0 : w1.cell? ⟨w.heap.size, 0, none⟩ = some (.string f.p) := Fut.cell h1 (by first | exact c0_0_0 | go_simp)
    have cx_0_1 : w1.cell? ⟨w.heap.size, 1, none⟩ = some (.slice A f.a.length cap) := Fut.cell h1 (by first | exact c0_0_1 | go_simp)
    have cx_1_0 : w1.cell? ⟨w.heap.size + 1, 0, none⟩ = some (.string g.p) := Fut.cell h1 (by first | exact c0_1_0 | go_simp)
    have cx_1_1 : w1.cell? ⟨w.heap.size + 1, 1, none⟩ = some (.slice B g.a.length cap') := Fut.cell h1 (by first | exact c0_1_1 | go_simp)
    go_simp; exact ⟨_, _, ⟨rfl, rfl⟩, Fut.alloc _ _, ints_new w1 _ [cmpS f.p g.p, cmpT f.a g.a] (by simp)⟩
  intro v10
  simp only [Act.put, List.setIfInBounds_toArray, List.set_cons_succ, List.set_cons_zero, List.nil_append, List.cons_append]
  apply Run.call (wanted_none rfl _) (fun _ _ => by go_simp; exact ⟨rfl, rfl⟩)
  · intro w1 h1 hk
    have f10 := Facts.get hk 0 rfl (by kernel_rfl)
    have cx_0_0 : w1.cell? ⟨w.heap.size, 0, none⟩ = some (.string f.p) := Fut.cell h1 (by first | exact c0_0_0 | go_simp)
    have cx_0_1 : w1.cell? ⟨w.heap.size, 1, none⟩ = some (.slice A f.a.length cap) := Fut.cell h1 (by first | exact c0_0_1 | go_simp)
    have cx_1_0 : w1.cell? ⟨w.heap.size + 1, 0, none⟩ = some (.string g.p) := Fut.cell h1 (by first | exact c0_1_0 | go_simp)
    have cx_1_1 : w1.cell? ⟨w.heap.size + 1, 1, none⟩ = some (.slice B g.a.length cap') := Fut.cell h1 (by first | exact c0_1_1 | go_simp)
    exact (or_any _ _ _ f10).mono fun e w' ⟨h, hw⟩ => ⟨h, hw ▸ Fut.refl _⟩
  simp only [Act.put, List.setIfInBounds_toArray, List.set_cons_succ, List.set_cons_zero, List.nil_append, List.cons_append]
  apply Run.valG (wanted_none rfl _)
  · intro w1 h1 hk
    have cx_0_0 : w1.cell? ⟨w.heap.size, 0, none⟩ = some (.string f.p) := Fut.cell h1 (by first | exact c0_0_0 | go_simp)
    have cx_0_1 : w1.cell? ⟨w.heap.size, 1, none⟩ = some (.slice A f.a.length cap) := Fut.cell h1 (by first | exact c0_0_1 | go_simp)
    have cx_1_0 : w1.cell? ⟨w.heap.size + 1, 0, none⟩ = some (.string g.p) := Fut.cell h1 (by first | exact c0_1_0 | go_simp)
    have cx_1_1 : w1.cell? ⟨w.heap.size + 1, 1, none⟩ = some (.slice B g.a.length cap') := Fut.cell h1 (by first | exact c0_1_1 | go_simp)
    go_simp; rfl
  simp only [Act.put, List.setIfInBounds_toArray, List.set_cons_succ, List.set_cons_zero, List.nil_append, List.cons_append]
  apply Run.done
  intro w2 h2 hk
  have c2_0_0 : w2.cell? ⟨w.heap.size, 0, none⟩ = some (.string f.p) := Fut.cell h2 (by first | exact c0_0_0 | go_simp)
  have c2_0_1 : w2.cell? ⟨w.heap.size, 1, none⟩ = some (.slice A f.a.length cap) := Fut.cell h2 (by first | exact c0_0_1 | go_simp)
  have c2_1_0 : w2.cell? ⟨w.heap.size + 1, 0, none⟩ = some (.string g.p) := Fut.cell h2 (by first | exact c0_1_0 | go_simp)
  have c2_1_1 : w2.cell? ⟨w.heap.size + 1, 1, none⟩ = some (.slice B g.a.length cap') := Fut.cell h2 (by first | exact c0_1_1 | go_simp)
  obtain ⟨f10, _⟩ := hk
  go_wp2
  go_ret
  exact ⟨rfl, (hf0 _ _).trans h2⟩
end Go.Proofs.YtlihkmldclocoaaDoor.Gr
