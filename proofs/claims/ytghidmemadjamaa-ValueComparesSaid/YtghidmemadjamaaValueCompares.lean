/- The law ValueCompares holds: for every api.Rel and any two api.Value, value.Compare and value.Holds answer as the reference's do. No condition. -/
import Derived.Test.YtghidmemadjamaaCmp
namespace Go.Proofs.Ytghidmemadjamaa
open Go.RowKit Go.ChangeShapes Go.WideShapes Go.ChangeAt
set_option linter.unusedSimpArgs false
set_option linter.unusedVariables false

set_option maxHeartbeats 400000 in
theorem valueCompares_any (r : Int) (x y : V) (w : World) (hx : x.ok) (hy : y.ok) :
    Calls Try.prog 5 #[.int .i8 r, x.val, y.val] w fun e w' => e = .returned (.bool true) ∧ Fut w w' := by
  obtain ⟨k, n, s⟩ := x
  obtain ⟨k', n', s'⟩ := y
  unfold V.val
  go_enter Try.func5, Try.ntmps5
  go_wp2
  refine wp_graph 19 [.d, .d, .d, .d, .d, .d, .d, .d, .d, .d, .d, .d, .d, .d, .d, .d, .d, .d, .d] (by kernel_rfl) (by kernel_rfl) (by kernel_rfl) ?_
  simp only [List.take_succ_cons, List.take_zero, List.drop_succ_cons, List.drop_zero, Exs]
  iterate 19 apply Exists.intro
  apply Run.valG (wanted_none rfl _)
  · intro w1 h1 hk
    have cx_0_0 : w1.cell? ⟨w.heap.size, 0, none⟩ = some (.int .i8 k) := Fut.cell h1 (by first | exact c0_0_0 | go_simp)
    have cx_0_1 : w1.cell? ⟨w.heap.size, 1, none⟩ = some (.int .i64 n) := Fut.cell h1 (by first | exact c0_0_1 | go_simp)
    have cx_0_2 : w1.cell? ⟨w.heap.size, 2, none⟩ = some (.string s) := Fut.cell h1 (by first | exact c0_0_2 | go_simp)
    have cx_1_0 : w1.cell? ⟨w.heap.size + 1, 0, none⟩ = some (.int .i8 k') := Fut.cell h1 (by first | exact c0_1_0 | go_simp)
    have cx_1_1 : w1.cell? ⟨w.heap.size + 1, 1, none⟩ = some (.int .i64 n') := Fut.cell h1 (by first | exact c0_1_1 | go_simp)
    have cx_1_2 : w1.cell? ⟨w.heap.size + 1, 2, none⟩ = some (.string s') := Fut.cell h1 (by first | exact c0_1_2 | go_simp)
    go_simp; rfl
  simp only [Act.put, List.setIfInBounds_toArray, List.set_cons_succ, List.set_cons_zero, List.nil_append, List.cons_append]
  apply Run.valG (wanted_none rfl _)
  · intro w1 h1 hk
    have cx_0_0 : w1.cell? ⟨w.heap.size, 0, none⟩ = some (.int .i8 k) := Fut.cell h1 (by first | exact c0_0_0 | go_simp)
    have cx_0_1 : w1.cell? ⟨w.heap.size, 1, none⟩ = some (.int .i64 n) := Fut.cell h1 (by first | exact c0_0_1 | go_simp)
    have cx_0_2 : w1.cell? ⟨w.heap.size, 2, none⟩ = some (.string s) := Fut.cell h1 (by first | exact c0_0_2 | go_simp)
    have cx_1_0 : w1.cell? ⟨w.heap.size + 1, 0, none⟩ = some (.int .i8 k') := Fut.cell h1 (by first | exact c0_1_0 | go_simp)
    have cx_1_1 : w1.cell? ⟨w.heap.size + 1, 1, none⟩ = some (.int .i64 n') := Fut.cell h1 (by first | exact c0_1_1 | go_simp)
    have cx_1_2 : w1.cell? ⟨w.heap.size + 1, 2, none⟩ = some (.string s') := Fut.cell h1 (by first | exact c0_1_2 | go_simp)
    go_simp; rfl
  simp only [Act.put, List.setIfInBounds_toArray, List.set_cons_succ, List.set_cons_zero, List.nil_append, List.cons_append]
  apply Run.call (wanted_none rfl _) (fun _ _ => by go_simp; exact ⟨rfl, rfl⟩)
  · intro w1 h1 hk
    have cx_0_0 : w1.cell? ⟨w.heap.size, 0, none⟩ = some (.int .i8 k) := Fut.cell h1 (by first | exact c0_0_0 | go_simp)
    have cx_0_1 : w1.cell? ⟨w.heap.size, 1, none⟩ = some (.int .i64 n) := Fut.cell h1 (by first | exact c0_0_1 | go_simp)
    have cx_0_2 : w1.cell? ⟨w.heap.size, 2, none⟩ = some (.string s) := Fut.cell h1 (by first | exact c0_0_2 | go_simp)
    have cx_1_0 : w1.cell? ⟨w.heap.size + 1, 0, none⟩ = some (.int .i8 k') := Fut.cell h1 (by first | exact c0_1_0 | go_simp)
    have cx_1_1 : w1.cell? ⟨w.heap.size + 1, 1, none⟩ = some (.int .i64 n') := Fut.cell h1 (by first | exact c0_1_1 | go_simp)
    have cx_1_2 : w1.cell? ⟨w.heap.size + 1, 2, none⟩ = some (.string s') := Fut.cell h1 (by first | exact c0_1_2 | go_simp)
    exact compare_any ⟨k, n, s⟩ ⟨k', n', s'⟩ _
  simp only [Act.put, List.setIfInBounds_toArray, List.set_cons_succ, List.set_cons_zero, List.nil_append, List.cons_append]
  apply Run.valG (wanted_none rfl _)
  · intro w1 h1 hk
    have cx_0_0 : w1.cell? ⟨w.heap.size, 0, none⟩ = some (.int .i8 k) := Fut.cell h1 (by first | exact c0_0_0 | go_simp)
    have cx_0_1 : w1.cell? ⟨w.heap.size, 1, none⟩ = some (.int .i64 n) := Fut.cell h1 (by first | exact c0_0_1 | go_simp)
    have cx_0_2 : w1.cell? ⟨w.heap.size, 2, none⟩ = some (.string s) := Fut.cell h1 (by first | exact c0_0_2 | go_simp)
    have cx_1_0 : w1.cell? ⟨w.heap.size + 1, 0, none⟩ = some (.int .i8 k') := Fut.cell h1 (by first | exact c0_1_0 | go_simp)
    have cx_1_1 : w1.cell? ⟨w.heap.size + 1, 1, none⟩ = some (.int .i64 n') := Fut.cell h1 (by first | exact c0_1_1 | go_simp)
    have cx_1_2 : w1.cell? ⟨w.heap.size + 1, 2, none⟩ = some (.string s') := Fut.cell h1 (by first | exact c0_1_2 | go_simp)
    go_simp; rfl
  simp only [Act.put, List.setIfInBounds_toArray, List.set_cons_succ, List.set_cons_zero, List.nil_append, List.cons_append]
  apply Run.valG (wanted_none rfl _)
  · intro w1 h1 hk
    have cx_0_0 : w1.cell? ⟨w.heap.size, 0, none⟩ = some (.int .i8 k) := Fut.cell h1 (by first | exact c0_0_0 | go_simp)
    have cx_0_1 : w1.cell? ⟨w.heap.size, 1, none⟩ = some (.int .i64 n) := Fut.cell h1 (by first | exact c0_0_1 | go_simp)
    have cx_0_2 : w1.cell? ⟨w.heap.size, 2, none⟩ = some (.string s) := Fut.cell h1 (by first | exact c0_0_2 | go_simp)
    have cx_1_0 : w1.cell? ⟨w.heap.size + 1, 0, none⟩ = some (.int .i8 k') := Fut.cell h1 (by first | exact c0_1_0 | go_simp)
    have cx_1_1 : w1.cell? ⟨w.heap.size + 1, 1, none⟩ = some (.int .i64 n') := Fut.cell h1 (by first | exact c0_1_1 | go_simp)
    have cx_1_2 : w1.cell? ⟨w.heap.size + 1, 2, none⟩ = some (.string s') := Fut.cell h1 (by first | exact c0_1_2 | go_simp)
    go_simp; rfl
  simp only [Act.put, List.setIfInBounds_toArray, List.set_cons_succ, List.set_cons_zero, List.nil_append, List.cons_append]
  apply Run.call (wanted_none rfl _) (fun _ _ => by go_simp; exact ⟨rfl, rfl⟩)
  · intro w1 h1 hk
    have cx_0_0 : w1.cell? ⟨w.heap.size, 0, none⟩ = some (.int .i8 k) := Fut.cell h1 (by first | exact c0_0_0 | go_simp)
    have cx_0_1 : w1.cell? ⟨w.heap.size, 1, none⟩ = some (.int .i64 n) := Fut.cell h1 (by first | exact c0_0_1 | go_simp)
    have cx_0_2 : w1.cell? ⟨w.heap.size, 2, none⟩ = some (.string s) := Fut.cell h1 (by first | exact c0_0_2 | go_simp)
    have cx_1_0 : w1.cell? ⟨w.heap.size + 1, 0, none⟩ = some (.int .i8 k') := Fut.cell h1 (by first | exact c0_1_0 | go_simp)
    have cx_1_1 : w1.cell? ⟨w.heap.size + 1, 1, none⟩ = some (.int .i64 n') := Fut.cell h1 (by first | exact c0_1_1 | go_simp)
    have cx_1_2 : w1.cell? ⟨w.heap.size + 1, 2, none⟩ = some (.string s') := Fut.cell h1 (by first | exact c0_1_2 | go_simp)
    exact rcompare_any ⟨k, n, s⟩ ⟨k', n', s'⟩ _
  simp only [Act.put, List.setIfInBounds_toArray, List.set_cons_succ, List.set_cons_zero, List.nil_append, List.cons_append]
  apply Run.valG (wanted_none rfl _)
  · intro w1 h1 hk
    have cx_0_0 : w1.cell? ⟨w.heap.size, 0, none⟩ = some (.int .i8 k) := Fut.cell h1 (by first | exact c0_0_0 | go_simp)
    have cx_0_1 : w1.cell? ⟨w.heap.size, 1, none⟩ = some (.int .i64 n) := Fut.cell h1 (by first | exact c0_0_1 | go_simp)
    have cx_0_2 : w1.cell? ⟨w.heap.size, 2, none⟩ = some (.string s) := Fut.cell h1 (by first | exact c0_0_2 | go_simp)
    have cx_1_0 : w1.cell? ⟨w.heap.size + 1, 0, none⟩ = some (.int .i8 k') := Fut.cell h1 (by first | exact c0_1_0 | go_simp)
    have cx_1_1 : w1.cell? ⟨w.heap.size + 1, 1, none⟩ = some (.int .i64 n') := Fut.cell h1 (by first | exact c0_1_1 | go_simp)
    have cx_1_2 : w1.cell? ⟨w.heap.size + 1, 2, none⟩ = some (.string s') := Fut.cell h1 (by first | exact c0_1_2 | go_simp)
    go_simp; rfl
  simp only [Act.put, List.setIfInBounds_toArray, List.set_cons_succ, List.set_cons_zero, List.nil_append, List.cons_append]
  apply Run.valG (wanted_none rfl _)
  · intro w1 h1 hk
    have cx_0_0 : w1.cell? ⟨w.heap.size, 0, none⟩ = some (.int .i8 k) := Fut.cell h1 (by first | exact c0_0_0 | go_simp)
    have cx_0_1 : w1.cell? ⟨w.heap.size, 1, none⟩ = some (.int .i64 n) := Fut.cell h1 (by first | exact c0_0_1 | go_simp)
    have cx_0_2 : w1.cell? ⟨w.heap.size, 2, none⟩ = some (.string s) := Fut.cell h1 (by first | exact c0_0_2 | go_simp)
    have cx_1_0 : w1.cell? ⟨w.heap.size + 1, 0, none⟩ = some (.int .i8 k') := Fut.cell h1 (by first | exact c0_1_0 | go_simp)
    have cx_1_1 : w1.cell? ⟨w.heap.size + 1, 1, none⟩ = some (.int .i64 n') := Fut.cell h1 (by first | exact c0_1_1 | go_simp)
    have cx_1_2 : w1.cell? ⟨w.heap.size + 1, 2, none⟩ = some (.string s') := Fut.cell h1 (by first | exact c0_1_2 | go_simp)
    go_simp; rfl
  simp only [Act.put, List.setIfInBounds_toArray, List.set_cons_succ, List.set_cons_zero, List.nil_append, List.cons_append]
  apply Run.valG (by go_simp)
  · intro w1 h1 hk
    have cx_0_0 : w1.cell? ⟨w.heap.size, 0, none⟩ = some (.int .i8 k) := Fut.cell h1 (by first | exact c0_0_0 | go_simp)
    have cx_0_1 : w1.cell? ⟨w.heap.size, 1, none⟩ = some (.int .i64 n) := Fut.cell h1 (by first | exact c0_0_1 | go_simp)
    have cx_0_2 : w1.cell? ⟨w.heap.size, 2, none⟩ = some (.string s) := Fut.cell h1 (by first | exact c0_0_2 | go_simp)
    have cx_1_0 : w1.cell? ⟨w.heap.size + 1, 0, none⟩ = some (.int .i8 k') := Fut.cell h1 (by first | exact c0_1_0 | go_simp)
    have cx_1_1 : w1.cell? ⟨w.heap.size + 1, 1, none⟩ = some (.int .i64 n') := Fut.cell h1 (by first | exact c0_1_1 | go_simp)
    have cx_1_2 : w1.cell? ⟨w.heap.size + 1, 2, none⟩ = some (.string s') := Fut.cell h1 (by first | exact c0_1_2 | go_simp)
    go_simp; rfl
  simp only [Act.put, List.setIfInBounds_toArray, List.set_cons_succ, List.set_cons_zero, List.nil_append, List.cons_append]
  apply Run.valG (by go_simp)
  · intro w1 h1 hk
    have cx_0_0 : w1.cell? ⟨w.heap.size, 0, none⟩ = some (.int .i8 k) := Fut.cell h1 (by first | exact c0_0_0 | go_simp)
    have cx_0_1 : w1.cell? ⟨w.heap.size, 1, none⟩ = some (.int .i64 n) := Fut.cell h1 (by first | exact c0_0_1 | go_simp)
    have cx_0_2 : w1.cell? ⟨w.heap.size, 2, none⟩ = some (.string s) := Fut.cell h1 (by first | exact c0_0_2 | go_simp)
    have cx_1_0 : w1.cell? ⟨w.heap.size + 1, 0, none⟩ = some (.int .i8 k') := Fut.cell h1 (by first | exact c0_1_0 | go_simp)
    have cx_1_1 : w1.cell? ⟨w.heap.size + 1, 1, none⟩ = some (.int .i64 n') := Fut.cell h1 (by first | exact c0_1_1 | go_simp)
    have cx_1_2 : w1.cell? ⟨w.heap.size + 1, 2, none⟩ = some (.string s') := Fut.cell h1 (by first | exact c0_1_2 | go_simp)
    go_simp; rfl
  simp only [Act.put, List.setIfInBounds_toArray, List.set_cons_succ, List.set_cons_zero, List.nil_append, List.cons_append]
  apply Run.valG (by go_simp)
  · intro w1 h1 hk
    have cx_0_0 : w1.cell? ⟨w.heap.size, 0, none⟩ = some (.int .i8 k) := Fut.cell h1 (by first | exact c0_0_0 | go_simp)
    have cx_0_1 : w1.cell? ⟨w.heap.size, 1, none⟩ = some (.int .i64 n) := Fut.cell h1 (by first | exact c0_0_1 | go_simp)
    have cx_0_2 : w1.cell? ⟨w.heap.size, 2, none⟩ = some (.string s) := Fut.cell h1 (by first | exact c0_0_2 | go_simp)
    have cx_1_0 : w1.cell? ⟨w.heap.size + 1, 0, none⟩ = some (.int .i8 k') := Fut.cell h1 (by first | exact c0_1_0 | go_simp)
    have cx_1_1 : w1.cell? ⟨w.heap.size + 1, 1, none⟩ = some (.int .i64 n') := Fut.cell h1 (by first | exact c0_1_1 | go_simp)
    have cx_1_2 : w1.cell? ⟨w.heap.size + 1, 2, none⟩ = some (.string s') := Fut.cell h1 (by first | exact c0_1_2 | go_simp)
    go_simp; rfl
  simp only [Act.put, List.setIfInBounds_toArray, List.set_cons_succ, List.set_cons_zero, List.nil_append, List.cons_append]
  apply Run.call (by go_simp) (fun _ _ => by go_simp; exact ⟨rfl, rfl⟩)
  · intro w1 h1 hk
    have cx_0_0 : w1.cell? ⟨w.heap.size, 0, none⟩ = some (.int .i8 k) := Fut.cell h1 (by first | exact c0_0_0 | go_simp)
    have cx_0_1 : w1.cell? ⟨w.heap.size, 1, none⟩ = some (.int .i64 n) := Fut.cell h1 (by first | exact c0_0_1 | go_simp)
    have cx_0_2 : w1.cell? ⟨w.heap.size, 2, none⟩ = some (.string s) := Fut.cell h1 (by first | exact c0_0_2 | go_simp)
    have cx_1_0 : w1.cell? ⟨w.heap.size + 1, 0, none⟩ = some (.int .i8 k') := Fut.cell h1 (by first | exact c0_1_0 | go_simp)
    have cx_1_1 : w1.cell? ⟨w.heap.size + 1, 1, none⟩ = some (.int .i64 n') := Fut.cell h1 (by first | exact c0_1_1 | go_simp)
    have cx_1_2 : w1.cell? ⟨w.heap.size + 1, 2, none⟩ = some (.string s') := Fut.cell h1 (by first | exact c0_1_2 | go_simp)
    exact holds_any r ⟨k, n, s⟩ ⟨k', n', s'⟩ _ hx hy
  simp only [Act.put, List.setIfInBounds_toArray, List.set_cons_succ, List.set_cons_zero, List.nil_append, List.cons_append]
  apply Run.valG (by go_simp)
  · intro w1 h1 hk
    have cx_0_0 : w1.cell? ⟨w.heap.size, 0, none⟩ = some (.int .i8 k) := Fut.cell h1 (by first | exact c0_0_0 | go_simp)
    have cx_0_1 : w1.cell? ⟨w.heap.size, 1, none⟩ = some (.int .i64 n) := Fut.cell h1 (by first | exact c0_0_1 | go_simp)
    have cx_0_2 : w1.cell? ⟨w.heap.size, 2, none⟩ = some (.string s) := Fut.cell h1 (by first | exact c0_0_2 | go_simp)
    have cx_1_0 : w1.cell? ⟨w.heap.size + 1, 0, none⟩ = some (.int .i8 k') := Fut.cell h1 (by first | exact c0_1_0 | go_simp)
    have cx_1_1 : w1.cell? ⟨w.heap.size + 1, 1, none⟩ = some (.int .i64 n') := Fut.cell h1 (by first | exact c0_1_1 | go_simp)
    have cx_1_2 : w1.cell? ⟨w.heap.size + 1, 2, none⟩ = some (.string s') := Fut.cell h1 (by first | exact c0_1_2 | go_simp)
    go_simp; rfl
  simp only [Act.put, List.setIfInBounds_toArray, List.set_cons_succ, List.set_cons_zero, List.nil_append, List.cons_append]
  apply Run.valG (by go_simp)
  · intro w1 h1 hk
    have cx_0_0 : w1.cell? ⟨w.heap.size, 0, none⟩ = some (.int .i8 k) := Fut.cell h1 (by first | exact c0_0_0 | go_simp)
    have cx_0_1 : w1.cell? ⟨w.heap.size, 1, none⟩ = some (.int .i64 n) := Fut.cell h1 (by first | exact c0_0_1 | go_simp)
    have cx_0_2 : w1.cell? ⟨w.heap.size, 2, none⟩ = some (.string s) := Fut.cell h1 (by first | exact c0_0_2 | go_simp)
    have cx_1_0 : w1.cell? ⟨w.heap.size + 1, 0, none⟩ = some (.int .i8 k') := Fut.cell h1 (by first | exact c0_1_0 | go_simp)
    have cx_1_1 : w1.cell? ⟨w.heap.size + 1, 1, none⟩ = some (.int .i64 n') := Fut.cell h1 (by first | exact c0_1_1 | go_simp)
    have cx_1_2 : w1.cell? ⟨w.heap.size + 1, 2, none⟩ = some (.string s') := Fut.cell h1 (by first | exact c0_1_2 | go_simp)
    go_simp; rfl
  simp only [Act.put, List.setIfInBounds_toArray, List.set_cons_succ, List.set_cons_zero, List.nil_append, List.cons_append]
  apply Run.valG (by go_simp)
  · intro w1 h1 hk
    have cx_0_0 : w1.cell? ⟨w.heap.size, 0, none⟩ = some (.int .i8 k) := Fut.cell h1 (by first | exact c0_0_0 | go_simp)
    have cx_0_1 : w1.cell? ⟨w.heap.size, 1, none⟩ = some (.int .i64 n) := Fut.cell h1 (by first | exact c0_0_1 | go_simp)
    have cx_0_2 : w1.cell? ⟨w.heap.size, 2, none⟩ = some (.string s) := Fut.cell h1 (by first | exact c0_0_2 | go_simp)
    have cx_1_0 : w1.cell? ⟨w.heap.size + 1, 0, none⟩ = some (.int .i8 k') := Fut.cell h1 (by first | exact c0_1_0 | go_simp)
    have cx_1_1 : w1.cell? ⟨w.heap.size + 1, 1, none⟩ = some (.int .i64 n') := Fut.cell h1 (by first | exact c0_1_1 | go_simp)
    have cx_1_2 : w1.cell? ⟨w.heap.size + 1, 2, none⟩ = some (.string s') := Fut.cell h1 (by first | exact c0_1_2 | go_simp)
    go_simp; rfl
  simp only [Act.put, List.setIfInBounds_toArray, List.set_cons_succ, List.set_cons_zero, List.nil_append, List.cons_append]
  apply Run.call (by go_simp) (fun _ _ => by go_simp; exact ⟨rfl, rfl⟩)
  · intro w1 h1 hk
    have cx_0_0 : w1.cell? ⟨w.heap.size, 0, none⟩ = some (.int .i8 k) := Fut.cell h1 (by first | exact c0_0_0 | go_simp)
    have cx_0_1 : w1.cell? ⟨w.heap.size, 1, none⟩ = some (.int .i64 n) := Fut.cell h1 (by first | exact c0_0_1 | go_simp)
    have cx_0_2 : w1.cell? ⟨w.heap.size, 2, none⟩ = some (.string s) := Fut.cell h1 (by first | exact c0_0_2 | go_simp)
    have cx_1_0 : w1.cell? ⟨w.heap.size + 1, 0, none⟩ = some (.int .i8 k') := Fut.cell h1 (by first | exact c0_1_0 | go_simp)
    have cx_1_1 : w1.cell? ⟨w.heap.size + 1, 1, none⟩ = some (.int .i64 n') := Fut.cell h1 (by first | exact c0_1_1 | go_simp)
    have cx_1_2 : w1.cell? ⟨w.heap.size + 1, 2, none⟩ = some (.string s') := Fut.cell h1 (by first | exact c0_1_2 | go_simp)
    exact rholds_any r ⟨k, n, s⟩ ⟨k', n', s'⟩ _ hx hy
  simp only [Act.put, List.setIfInBounds_toArray, List.set_cons_succ, List.set_cons_zero, List.nil_append, List.cons_append]
  apply Run.valG (by go_simp)
  · intro w1 h1 hk
    have cx_0_0 : w1.cell? ⟨w.heap.size, 0, none⟩ = some (.int .i8 k) := Fut.cell h1 (by first | exact c0_0_0 | go_simp)
    have cx_0_1 : w1.cell? ⟨w.heap.size, 1, none⟩ = some (.int .i64 n) := Fut.cell h1 (by first | exact c0_0_1 | go_simp)
    have cx_0_2 : w1.cell? ⟨w.heap.size, 2, none⟩ = some (.string s) := Fut.cell h1 (by first | exact c0_0_2 | go_simp)
    have cx_1_0 : w1.cell? ⟨w.heap.size + 1, 0, none⟩ = some (.int .i8 k') := Fut.cell h1 (by first | exact c0_1_0 | go_simp)
    have cx_1_1 : w1.cell? ⟨w.heap.size + 1, 1, none⟩ = some (.int .i64 n') := Fut.cell h1 (by first | exact c0_1_1 | go_simp)
    have cx_1_2 : w1.cell? ⟨w.heap.size + 1, 2, none⟩ = some (.string s') := Fut.cell h1 (by first | exact c0_1_2 | go_simp)
    go_simp; rfl
  simp only [Act.put, List.setIfInBounds_toArray, List.set_cons_succ, List.set_cons_zero, List.nil_append, List.cons_append]
  apply Run.valG (wanted_none rfl _)
  · intro w1 h1 hk
    have cx_0_0 : w1.cell? ⟨w.heap.size, 0, none⟩ = some (.int .i8 k) := Fut.cell h1 (by first | exact c0_0_0 | go_simp)
    have cx_0_1 : w1.cell? ⟨w.heap.size, 1, none⟩ = some (.int .i64 n) := Fut.cell h1 (by first | exact c0_0_1 | go_simp)
    have cx_0_2 : w1.cell? ⟨w.heap.size, 2, none⟩ = some (.string s) := Fut.cell h1 (by first | exact c0_0_2 | go_simp)
    have cx_1_0 : w1.cell? ⟨w.heap.size + 1, 0, none⟩ = some (.int .i8 k') := Fut.cell h1 (by first | exact c0_1_0 | go_simp)
    have cx_1_1 : w1.cell? ⟨w.heap.size + 1, 1, none⟩ = some (.int .i64 n') := Fut.cell h1 (by first | exact c0_1_1 | go_simp)
    have cx_1_2 : w1.cell? ⟨w.heap.size + 1, 2, none⟩ = some (.string s') := Fut.cell h1 (by first | exact c0_1_2 | go_simp)
    go_simp; rfl
  simp only [Act.put, List.setIfInBounds_toArray, List.set_cons_succ, List.set_cons_zero, List.nil_append, List.cons_append]
  apply Run.valG (wanted_none rfl _)
  · intro w1 h1 hk
    have cx_0_0 : w1.cell? ⟨w.heap.size, 0, none⟩ = some (.int .i8 k) := Fut.cell h1 (by first | exact c0_0_0 | go_simp)
    have cx_0_1 : w1.cell? ⟨w.heap.size, 1, none⟩ = some (.int .i64 n) := Fut.cell h1 (by first | exact c0_0_1 | go_simp)
    have cx_0_2 : w1.cell? ⟨w.heap.size, 2, none⟩ = some (.string s) := Fut.cell h1 (by first | exact c0_0_2 | go_simp)
    have cx_1_0 : w1.cell? ⟨w.heap.size + 1, 0, none⟩ = some (.int .i8 k') := Fut.cell h1 (by first | exact c0_1_0 | go_simp)
    have cx_1_1 : w1.cell? ⟨w.heap.size + 1, 1, none⟩ = some (.int .i64 n') := Fut.cell h1 (by first | exact c0_1_1 | go_simp)
    have cx_1_2 : w1.cell? ⟨w.heap.size + 1, 2, none⟩ = some (.string s') := Fut.cell h1 (by first | exact c0_1_2 | go_simp)
    go_simp; rfl
  simp only [Act.put, List.setIfInBounds_toArray, List.set_cons_succ, List.set_cons_zero, List.nil_append, List.cons_append]
  apply Run.done
  intro w2 h2 hk
  have c2_0_0 : w2.cell? ⟨w.heap.size, 0, none⟩ = some (.int .i8 k) := Fut.cell h2 (by first | exact c0_0_0 | go_simp)
  have c2_0_1 : w2.cell? ⟨w.heap.size, 1, none⟩ = some (.int .i64 n) := Fut.cell h2 (by first | exact c0_0_1 | go_simp)
  have c2_0_2 : w2.cell? ⟨w.heap.size, 2, none⟩ = some (.string s) := Fut.cell h2 (by first | exact c0_0_2 | go_simp)
  have c2_1_0 : w2.cell? ⟨w.heap.size + 1, 0, none⟩ = some (.int .i8 k') := Fut.cell h2 (by first | exact c0_1_0 | go_simp)
  have c2_1_1 : w2.cell? ⟨w.heap.size + 1, 1, none⟩ = some (.int .i64 n') := Fut.cell h2 (by first | exact c0_1_1 | go_simp)
  have c2_1_2 : w2.cell? ⟨w.heap.size + 1, 2, none⟩ = some (.string s') := Fut.cell h2 (by first | exact c0_1_2 | go_simp)
  clear hk
  go_wp2
  go_ret
  exact ⟨rfl, ((Fut.alloc _ _).trans (Fut.alloc _ _)).trans ((Fut.drew _).trans h2)⟩
theorem rV : Reads Try.prog 25 RV := reads_V Try.underlying25 (by kernel_rfl) Try.underlying23 Try.underlying2 Try.underlying9 rfl rfl rfl (by kernel_rfl) (by kernel_rfl) (by kernel_rfl)
theorem ValueCompares_own : ownKnob Try.prog.godebug = none := by kernel_rfl
theorem ValueCompares_laidOut : laidOutB Try.prog = true := by kernel_rfl
theorem ValueCompares_row_walk {H : Type} {enc : TypeId × Value → H} (W : World) (base : Nat) (args : Array Value) (ds : List (DataW H)) (p : List MemPlace)
    (hval : ∀ (j : Nat) t v, (#[38, 25, 25] : Array Nat)[j]? = some t → args[j]? = some v → Value.okWide Try.prog W .any base t v)
    (hA : DataW.TrodAll enc Try.prog W 0 (fun _ => true) true [38, 25, 25] args.toList ds p) :
    Calls Try.prog 5 args W fun e W' => e = .returned (.bool true) ∧ Fut W W' := by
  obtain ⟨v0, vs0, d0, ds0, p0, q0, hargs, rfl, rfl, h0, r0⟩ := trodAll_cons hA
  obtain ⟨v1, vs1, d1, ds1, p1, q1, rfl, rfl, rfl, h1, r1⟩ := trodAll_cons r0
  obtain ⟨v2, vs2, d2, ds2, p2, q2, rfl, rfl, rfl, h2, r2⟩ := trodAll_cons r1
  obtain ⟨rfl, rfl, rfl⟩ := trodAll_nil r2
  obtain rfl : args = #[v0, v1, v2] := by cases args; simp_all
  have k0 := hval 0 38 v0 rfl rfl
  have k1 := hval 1 25 v1 rfl rfl
  have k2 := hval 2 25 v2 rfl rfl
  clear hval hA
  obtain ⟨r, rfl, _, _, _⟩ := open_int Try.underlying38 k0 h0
  obtain ⟨x, hx⟩ := reads_arg rV h1
  obtain rfl := arg_V hx (arg_struct Try.underlying25 k1)
  obtain ⟨y, hy⟩ := reads_arg rV h2
  obtain rfl := arg_V hy (arg_struct Try.underlying25 k2)
  exact valueCompares_any r x y W hx.2 hy.2
set_option maxRecDepth 100000 in
theorem ValueCompares_lifted (os : Os) (started : os.Started) (H : Type) (enc : TypeId × Value → H) :
    ReturnsInHanded {} Try.checked os 5 .any (Rows.valueComparesSpec.pre6 enc Try.prog Try.f5 Rows.valueComparesRow.domain false) (Rows.valueComparesSpec.post enc Try.prog Try.f5 false true false false) := by
  refine returnsInHanded_of_change (C := Try.checked) ValueCompares_own started (by kernel_rfl) Try.func5
    (ChangeSpec.witness6 (enc := enc) (C := Try.checked) false ⟨#[], #[.int .i8 0, .agg #[.int .i8 0, .int .i64 0, .string ⟨#[]⟩], .agg #[.int .i8 0, .int .i64 0, .string ⟨#[]⟩]], []⟩ 8 (by kernel_rfl) (by kernel_rfl) (by kernel_rfl) (by kernel_rfl)) ?_
  intro W base args ds gs before hval0 hW _ _
  have hW' := hW
  obtain ⟨p, q, hA0, hV, rfl, _, _⟩ := hW
  have hA : DataW.TrodAll enc Try.prog W 0 (fun _ => true) true [38, 25, 25] args.toList ds p := hA0
  refine (ValueCompares_row_walk W base args ds p hval0 hA).mono fun e W' ⟨he, hf⟩ => ?_
  subst he
  obtain ⟨rfl, rfl⟩ := trodVars_none hV
  obtain ⟨v0, vs0, d0, ds0, p0, q0, _, rfl, _, _, r0⟩ := trodAll_cons hA
  obtain ⟨v1, vs1, d1, ds1, p1, q1, _, rfl, _, _, r1⟩ := trodAll_cons r0
  obtain ⟨v2, vs2, d2, ds2, p2, q2, _, rfl, _, _, r2⟩ := trodAll_cons r1
  obtain ⟨_, rfl, _⟩ := trodAll_nil r2
  exact ⟨_, rfl, law_post (tb := 4) ValueCompares_laidOut hW' rfl (by kernel_rfl) rfl Try.underlying4 rfl rfl rfl hf⟩
theorem ValueCompares_holds : Rows.ValueComparesSaid :=
  OpenClaim.holds_of_wide 5 Try.f5 rfl rfl rfl rfl rfl rfl rfl ⟨rfl, rfl, rfl, rfl, rfl⟩ rfl rfl rfl rfl rfl (by kernel_rfl) Try.func5 (by kernel_rfl)
    (of_decide_eq_true (by kernel_rfl)) (by unfold Func.isWrapper; first | (rw [if_pos (by decide +kernel)]; kernel_rfl) | (rw [if_neg (by decide +kernel)]; exact ⟨rfl, rfl⟩))
    (fun os started H enc _ => ValueCompares_lifted os started H enc)

end Go.Proofs.Ytghidmemadjamaa
