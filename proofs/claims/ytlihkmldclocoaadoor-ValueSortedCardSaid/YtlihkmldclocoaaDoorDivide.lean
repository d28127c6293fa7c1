/- value.divide: a deferred closure that recovers. -/
import Derived.Test.YtlihkmldclocoaaDoorArith
import Derived.Defers
import Derived.Recover
import Derived.Laws.Pointers
namespace Go.Proofs.YtlihkmldclocoaaDoor
open Go.RowKit
set_option linter.unusedSimpArgs false
set_option linter.unusedVariables false

theorem catch_panicking (p q : Addr) (x : Int) (y : Bool) (u : TypeId) (pv : Value) (older : List PanicEntry) (w : World) (hc : w.cell? p = some (.int .i64 x)) (hz : w.frozen? p = false) (hd : w.cell? q = some (.bool y)) (hy : w.frozen? q = false) (hpq : q ≠ p) :
    CallsD Tryd.prog 73 #[.pointer (some p), .pointer (some q)] (.panicking ({ v := .iface u pv, recovered := false } :: older)) w fun e u' w' =>
      e = .returned (.tuple #[]) ∧ u' = .panicking ({ v := .iface u pv, recovered := true } :: older) ∧ w' = (w.setCell p (.int .i64 0)).setCell q (.bool false) := by
  have hd' : (w.setCell p (.int .i64 0)).cell? q = some (.bool y) := by first | exact (World.cell?_setCell_other _ _ _ _ (Ne.symm hpq)).trans hd | exact (World.cell?_setCell_other _ _ _ _ hpq).trans hd
  have hy' : (w.setCell p (.int .i64 0)).frozen? q = false := by simpa [go_sem] using hy
  refine callsD_of_wpS Tryd.func73 rfl fun c₀ cs hu => ?_
  apply wpS_seq
  apply wpS_region
  simp [wpOpsS, go_sem, recoverD, hu, Tryd.ntmps73, Exit.thenS]
  refine wpS_cond (t := true) (by simp [Act.eval, Array.replicate]) ?_
  simp only [if_true]
  apply wpS_region
  simp [wpOpsS, go_sem, hc, hz, hd', hy', hy, hd, hpq, bodyPostS, results, Tryd.results73]

theorem catch_idle (p q : Addr) (w : World) :
    CallsD Tryd.prog 73 #[.pointer (some p), .pointer (some q)] .returning w fun e u' w' => e = .returned (.tuple #[]) ∧ u' = .returning ∧ w' = w := by
  refine callsD_of_wpS Tryd.func73 rfl fun c₀ cs hu => ?_
  apply wpS_seq
  apply wpS_region
  simp [wpOpsS, go_sem, recoverD, hu, Tryd.ntmps73, Exit.thenS]
  refine wpS_cond (t := false) (by simp [Act.eval, Array.replicate]) ?_
  simp only [Bool.false_eq_true, if_false]
  refine wpS_of_wp (wp_skip ?_)
  cases c₀
  simp_all [bodyPostS, results, Tryd.results73]

theorem divide5_zero (a : Int) (w : World) :
    Calls Tryd.prog 39 #[.int .i8 5, .int .i64 a, .int .i64 0] w fun e w' => e = .returned (.tuple #[.int .i64 0, .bool false]) ∧ Fut w w' := by
  have hmf : ∀ (fn : Fn) (first cap : Array Value) (w : World), (Instr.makeFunc fn first cap).run Tryd.prog w = .ok (.func fn first cap) w := fun _ _ _ _ => rfl
  go_enter_defers Tryd.func39, Tryd.ntmps39
  go_wp2
  refine leaves_cons (f := 73) (args := #[.pointer (some ⟨w.heap.size, 0, none⟩), .pointer (some ⟨w.heap.size + 1, 0, none⟩)]) (by simp) (by simp [go_sem]) ?_
  refine (catch_panicking ⟨w.heap.size, 0, none⟩ ⟨w.heap.size + 1, 0, none⟩ 0 false _ _ [] _ ?_ ?_ ?_ ?_ ?_).mono ?_
  · simp [go_sem]
  · simp [go_sem]
  · simp [go_sem]
  · simp [go_sem]
  · simp
  rintro e u' w'' ⟨rfl, rfl, rfl⟩
  simp [Leaves, settle, results, Tryd.results39, go_sem]

  exact (Fut.alloc _ _).trans (Fut.alloc _ _)
theorem divide6_zero (a : Int) (w : World) :
    Calls Tryd.prog 39 #[.int .i8 6, .int .i64 a, .int .i64 0] w fun e w' => e = .returned (.tuple #[.int .i64 0, .bool false]) ∧ Fut w w' := by
  have hmf : ∀ (fn : Fn) (first cap : Array Value) (w : World), (Instr.makeFunc fn first cap).run Tryd.prog w = .ok (.func fn first cap) w := fun _ _ _ _ => rfl
  go_enter_defers Tryd.func39, Tryd.ntmps39
  go_wp2
  refine leaves_cons (f := 73) (args := #[.pointer (some ⟨w.heap.size, 0, none⟩), .pointer (some ⟨w.heap.size + 1, 0, none⟩)]) (by simp) (by simp [go_sem]) ?_
  refine (catch_panicking ⟨w.heap.size, 0, none⟩ ⟨w.heap.size + 1, 0, none⟩ 0 false _ _ [] _ ?_ ?_ ?_ ?_ ?_).mono ?_
  · simp [go_sem]
  · simp [go_sem]
  · simp [go_sem]
  · simp [go_sem]
  · simp
  rintro e u' w'' ⟨rfl, rfl, rfl⟩
  simp [Leaves, settle, results, Tryd.results39, go_sem]

  exact (Fut.alloc _ _).trans (Fut.alloc _ _)

theorem divide5_some (a b : Int) (hb : ¬ b = 0) (w : World) :
    Calls Tryd.prog 39 #[.int .i8 5, .int .i64 a, .int .i64 b] w fun e w' => e = .returned (.tuple #[.int .i64 (wrap64 (a.tdiv b)), .bool true]) ∧ Fut w w' := by
  have hmf : ∀ (fn : Fn) (first cap : Array Value) (w : World), (Instr.makeFunc fn first cap).run Tryd.prog w = .ok (.func fn first cap) w := fun _ _ _ _ => rfl
  go_enter_defers Tryd.func39, Tryd.ntmps39
  go_wp2
  refine leaves_cons (f := 73) (args := #[.pointer (some ⟨w.heap.size, 0, none⟩), .pointer (some ⟨w.heap.size + 1, 0, none⟩)]) (by simp) (by simp [go_sem]) ?_
  refine (catch_idle ⟨w.heap.size, 0, none⟩ ⟨w.heap.size + 1, 0, none⟩ _).mono ?_
  rintro e u' w'' ⟨rfl, rfl, rfl⟩
  simp [Leaves, settle, results, Tryd.results39, go_sem, wrap64]

  exact (Fut.alloc _ _).trans (Fut.alloc _ _)
theorem divide6_some (a b : Int) (hb : ¬ b = 0) (w : World) :
    Calls Tryd.prog 39 #[.int .i8 6, .int .i64 a, .int .i64 b] w fun e w' => e = .returned (.tuple #[.int .i64 (a.tmod b), .bool true]) ∧ Fut w w' := by
  have hmf : ∀ (fn : Fn) (first cap : Array Value) (w : World), (Instr.makeFunc fn first cap).run Tryd.prog w = .ok (.func fn first cap) w := fun _ _ _ _ => rfl
  go_enter_defers Tryd.func39, Tryd.ntmps39
  go_wp2
  refine leaves_cons (f := 73) (args := #[.pointer (some ⟨w.heap.size, 0, none⟩), .pointer (some ⟨w.heap.size + 1, 0, none⟩)]) (by simp) (by simp [go_sem]) ?_
  refine (catch_idle ⟨w.heap.size, 0, none⟩ ⟨w.heap.size + 1, 0, none⟩ _).mono ?_
  rintro e u' w'' ⟨rfl, rfl, rfl⟩
  simp [Leaves, settle, results, Tryd.results39, go_sem, wrap64]

  exact (Fut.alloc _ _).trans (Fut.alloc _ _)


theorem dv5_some (a b : Int) (hb : ¬ b = 0) (w : World) :
    Calls Tryd.prog 39 #[.int .i8 5, .int .i64 a, .int .i64 b] w fun e w' => e = .returned (.tuple #[.int .i64 (wrap64 (a.tdiv b)), .bool true]) ∧ Fut w w' := divide5_some a b hb w
theorem dv5_zero (a b : Int) (hb : b = 0) (w : World) :
    Calls Tryd.prog 39 #[.int .i8 5, .int .i64 a, .int .i64 b] w fun e w' => e = .returned (.tuple #[.int .i64 0, .bool false]) ∧ Fut w w' := by subst hb; exact divide5_zero a w
theorem dv6_some (a b : Int) (hb : ¬ b = 0) (w : World) :
    Calls Tryd.prog 39 #[.int .i8 6, .int .i64 a, .int .i64 b] w fun e w' => e = .returned (.tuple #[.int .i64 (a.tmod b), .bool true]) ∧ Fut w w' := divide6_some a b hb w
theorem dv6_zero (a b : Int) (hb : b = 0) (w : World) :
    Calls Tryd.prog 39 #[.int .i8 6, .int .i64 a, .int .i64 b] w fun e w' => e = .returned (.tuple #[.int .i64 0, .bool false]) ∧ Fut w w' := by subst hb; exact divide6_zero a w

set_option maxHeartbeats 800000 in
theorem arith5y_any (a : Value) (x y : V) (w : World) (hT : Takes w) (ha : Vals w a [x, y]) (hx : good 1 x = true) (hy : good 1 y = true) (h0 : ¬ y.n = 0) :
    Calls Tryd.prog 10 #[.int .i8 5, a] w fun e w' => e = .returned (pairV (numV (wrap64 (x.n.tdiv y.n))) true) ∧ Fut w w' := by
  obtain ⟨A, cap, rfl, hl, hm⟩ := SlRep.form ha
  obtain ⟨b, off, rfl, _, _, x1, _⟩ := Vals.at_ ha (k := 0) (by simp)
  obtain ⟨b', off', he, _, _, y1, _⟩ := Vals.at_ ha (k := 1) (by simp)
  injection he with he
  injection he with he1 he2
  subst he1; subst he2
  have t0 : ∀ o, (w.alloc o).cell? ⟨0, 5, none⟩ = some (.int .i8 2) := fun o => (Fut.alloc w o).cell (hT 5 (by omega))
  simp only [List.getElem_cons_zero, List.getElem_cons_succ, Nat.zero_mul, Nat.one_mul, Nat.add_zero, List.length_cons, List.length_nil, Nat.zero_add, List.getD_cons_succ, List.getD_cons_zero] at ha x1 y1 hl
  have H0 := Lib.hid h0
  clear h0
  go_enter Tryd.func10, Tryd.ntmps10
  go_wp2_with fail
  refine (fits2_any _ [x, y] _ (ha.fut RV.stays (Fut.alloc _ _))).mono ?_
  rintro e w1 ⟨rfl, h1⟩
  rw [show fitsV 2 1 [x, y] = true by simp [fitsV, hx, hy]]
  have hF : Fut w w1 := (Fut.alloc _ _).trans h1
  have x1' := hF.cell x1
  have y1' := hF.cell y1
  have hsz : w.heap.size < w1.heap.size := by have := h1.size; simp at this; omega
  have c1_0_0 : w1.cell? ⟨w.heap.size, 0, none⟩ = some (.int .i8 0) := h1.cell (by go_simp)
  have c1_0_1 : w1.cell? ⟨w.heap.size, 1, none⟩ = some (.int .i64 0) := h1.cell (by go_simp)
  have c1_0_2 : w1.cell? ⟨w.heap.size, 2, none⟩ = some (.string ⟨#[]⟩) := h1.cell (by go_simp)
  have z1_0 : w1.frozen? ⟨w.heap.size, 0, none⟩ = false := h1.free (by simp) (by go_simp)
  have z1_1 : w1.frozen? ⟨w.heap.size, 1, none⟩ = false := h1.free (by simp) (by go_simp)
  have z1_2 : w1.frozen? ⟨w.heap.size, 2, none⟩ = false := h1.free (by simp) (by go_simp)
  go_wp2
  refine wp_graph 15 [.d, .d, .d, .d, .d, .d, .d, .d, .d, .d, .d, .d, .d, .d, .d] (by kernel_rfl) (by kernel_rfl) (by kernel_rfl) ?_
  simp only [List.take_succ_cons, List.take_zero, List.drop_succ_cons, List.drop_zero, Exs]
  iterate 15 apply Exists.intro
  apply Run.valG (wanted_none rfl _)
  · intro w1 h1 hk
    have cx_0_0 : w1.cell? ⟨w.heap.size, 0, none⟩ = some (.int .i8 0) := Fut.cell h1 (by first | exact c1_0_0 | go_simp)
    have cx_0_1 : w1.cell? ⟨w.heap.size, 1, none⟩ = some (.int .i64 0) := Fut.cell h1 (by first | exact c1_0_1 | go_simp)
    have cx_0_2 : w1.cell? ⟨w.heap.size, 2, none⟩ = some (.string ⟨#[]⟩) := Fut.cell h1 (by first | exact c1_0_2 | go_simp)
    have x1w := h1.cell x1'; have y1w := h1.cell y1'
    go_simp; rfl
  simp only [Act.put, List.setIfInBounds_toArray, List.set_cons_succ, List.set_cons_zero, List.nil_append, List.cons_append]
  apply Run.valG (wanted_none rfl _)
  · intro w1 h1 hk
    have cx_0_0 : w1.cell? ⟨w.heap.size, 0, none⟩ = some (.int .i8 0) := Fut.cell h1 (by first | exact c1_0_0 | go_simp)
    have cx_0_1 : w1.cell? ⟨w.heap.size, 1, none⟩ = some (.int .i64 0) := Fut.cell h1 (by first | exact c1_0_1 | go_simp)
    have cx_0_2 : w1.cell? ⟨w.heap.size, 2, none⟩ = some (.string ⟨#[]⟩) := Fut.cell h1 (by first | exact c1_0_2 | go_simp)
    have x1w := h1.cell x1'; have y1w := h1.cell y1'
    go_simp; rfl
  simp only [Act.put, List.setIfInBounds_toArray, List.set_cons_succ, List.set_cons_zero, List.nil_append, List.cons_append]
  apply Run.valG (wanted_none rfl _)
  · intro w1 h1 hk
    have cx_0_0 : w1.cell? ⟨w.heap.size, 0, none⟩ = some (.int .i8 0) := Fut.cell h1 (by first | exact c1_0_0 | go_simp)
    have cx_0_1 : w1.cell? ⟨w.heap.size, 1, none⟩ = some (.int .i64 0) := Fut.cell h1 (by first | exact c1_0_1 | go_simp)
    have cx_0_2 : w1.cell? ⟨w.heap.size, 2, none⟩ = some (.string ⟨#[]⟩) := Fut.cell h1 (by first | exact c1_0_2 | go_simp)
    have x1w := h1.cell x1'; have y1w := h1.cell y1'
    go_simp; rfl
  simp only [Act.put, List.setIfInBounds_toArray, List.set_cons_succ, List.set_cons_zero, List.nil_append, List.cons_append]
  apply Run.valG (wanted_none rfl _)
  · intro w1 h1 hk
    have cx_0_0 : w1.cell? ⟨w.heap.size, 0, none⟩ = some (.int .i8 0) := Fut.cell h1 (by first | exact c1_0_0 | go_simp)
    have cx_0_1 : w1.cell? ⟨w.heap.size, 1, none⟩ = some (.int .i64 0) := Fut.cell h1 (by first | exact c1_0_1 | go_simp)
    have cx_0_2 : w1.cell? ⟨w.heap.size, 2, none⟩ = some (.string ⟨#[]⟩) := Fut.cell h1 (by first | exact c1_0_2 | go_simp)
    have x1w := h1.cell x1'; have y1w := h1.cell y1'
    go_simp; rfl
  simp only [Act.put, List.setIfInBounds_toArray, List.set_cons_succ, List.set_cons_zero, List.nil_append, List.cons_append]
  apply Run.valG (wanted_none rfl _)
  · intro w1 h1 hk
    have cx_0_0 : w1.cell? ⟨w.heap.size, 0, none⟩ = some (.int .i8 0) := Fut.cell h1 (by first | exact c1_0_0 | go_simp)
    have cx_0_1 : w1.cell? ⟨w.heap.size, 1, none⟩ = some (.int .i64 0) := Fut.cell h1 (by first | exact c1_0_1 | go_simp)
    have cx_0_2 : w1.cell? ⟨w.heap.size, 2, none⟩ = some (.string ⟨#[]⟩) := Fut.cell h1 (by first | exact c1_0_2 | go_simp)
    have x1w := h1.cell x1'; have y1w := h1.cell y1'
    go_simp; rfl
  simp only [Act.put, List.setIfInBounds_toArray, List.set_cons_succ, List.set_cons_zero, List.nil_append, List.cons_append]
  apply Run.valG (wanted_none rfl _)
  · intro w1 h1 hk
    have cx_0_0 : w1.cell? ⟨w.heap.size, 0, none⟩ = some (.int .i8 0) := Fut.cell h1 (by first | exact c1_0_0 | go_simp)
    have cx_0_1 : w1.cell? ⟨w.heap.size, 1, none⟩ = some (.int .i64 0) := Fut.cell h1 (by first | exact c1_0_1 | go_simp)
    have cx_0_2 : w1.cell? ⟨w.heap.size, 2, none⟩ = some (.string ⟨#[]⟩) := Fut.cell h1 (by first | exact c1_0_2 | go_simp)
    have x1w := h1.cell x1'; have y1w := h1.cell y1'
    go_simp; rfl
  simp only [Act.put, List.setIfInBounds_toArray, List.set_cons_succ, List.set_cons_zero, List.nil_append, List.cons_append]
  apply Run.valG (wanted_none rfl _)
  · intro w1 h1 hk
    have cx_0_0 : w1.cell? ⟨w.heap.size, 0, none⟩ = some (.int .i8 0) := Fut.cell h1 (by first | exact c1_0_0 | go_simp)
    have cx_0_1 : w1.cell? ⟨w.heap.size, 1, none⟩ = some (.int .i64 0) := Fut.cell h1 (by first | exact c1_0_1 | go_simp)
    have cx_0_2 : w1.cell? ⟨w.heap.size, 2, none⟩ = some (.string ⟨#[]⟩) := Fut.cell h1 (by first | exact c1_0_2 | go_simp)
    have x1w := h1.cell x1'; have y1w := h1.cell y1'
    go_simp; rfl
  simp only [Act.put, List.setIfInBounds_toArray, List.set_cons_succ, List.set_cons_zero, List.nil_append, List.cons_append]
  apply Run.valG (wanted_none rfl _)
  · intro w1 h1 hk
    have cx_0_0 : w1.cell? ⟨w.heap.size, 0, none⟩ = some (.int .i8 0) := Fut.cell h1 (by first | exact c1_0_0 | go_simp)
    have cx_0_1 : w1.cell? ⟨w.heap.size, 1, none⟩ = some (.int .i64 0) := Fut.cell h1 (by first | exact c1_0_1 | go_simp)
    have cx_0_2 : w1.cell? ⟨w.heap.size, 2, none⟩ = some (.string ⟨#[]⟩) := Fut.cell h1 (by first | exact c1_0_2 | go_simp)
    have x1w := h1.cell x1'; have y1w := h1.cell y1'
    go_simp; rfl
  simp only [Act.put, List.setIfInBounds_toArray, List.set_cons_succ, List.set_cons_zero, List.nil_append, List.cons_append]
  apply Run.valG (wanted_none rfl _)
  · intro w1 h1 hk
    have cx_0_0 : w1.cell? ⟨w.heap.size, 0, none⟩ = some (.int .i8 0) := Fut.cell h1 (by first | exact c1_0_0 | go_simp)
    have cx_0_1 : w1.cell? ⟨w.heap.size, 1, none⟩ = some (.int .i64 0) := Fut.cell h1 (by first | exact c1_0_1 | go_simp)
    have cx_0_2 : w1.cell? ⟨w.heap.size, 2, none⟩ = some (.string ⟨#[]⟩) := Fut.cell h1 (by first | exact c1_0_2 | go_simp)
    have x1w := h1.cell x1'; have y1w := h1.cell y1'
    go_simp; rfl
  simp only [Act.put, List.setIfInBounds_toArray, List.set_cons_succ, List.set_cons_zero, List.nil_append, List.cons_append]
  apply Run.call (wanted_none rfl _) (fun _ _ => by go_simp; exact ⟨rfl, rfl⟩)
  · intro w1 h1 hk
    have cx_0_0 : w1.cell? ⟨w.heap.size, 0, none⟩ = some (.int .i8 0) := Fut.cell h1 (by first | exact c1_0_0 | go_simp)
    have cx_0_1 : w1.cell? ⟨w.heap.size, 1, none⟩ = some (.int .i64 0) := Fut.cell h1 (by first | exact c1_0_1 | go_simp)
    have cx_0_2 : w1.cell? ⟨w.heap.size, 2, none⟩ = some (.string ⟨#[]⟩) := Fut.cell h1 (by first | exact c1_0_2 | go_simp)
    have x1w := h1.cell x1'; have y1w := h1.cell y1'
    exact dv5_some _ _ H0.out _
  simp only [Act.put, List.setIfInBounds_toArray, List.set_cons_succ, List.set_cons_zero, List.nil_append, List.cons_append]
  apply Run.valG (wanted_none rfl _)
  · intro w1 h1 hk
    have cx_0_0 : w1.cell? ⟨w.heap.size, 0, none⟩ = some (.int .i8 0) := Fut.cell h1 (by first | exact c1_0_0 | go_simp)
    have cx_0_1 : w1.cell? ⟨w.heap.size, 1, none⟩ = some (.int .i64 0) := Fut.cell h1 (by first | exact c1_0_1 | go_simp)
    have cx_0_2 : w1.cell? ⟨w.heap.size, 2, none⟩ = some (.string ⟨#[]⟩) := Fut.cell h1 (by first | exact c1_0_2 | go_simp)
    have x1w := h1.cell x1'; have y1w := h1.cell y1'
    go_simp; rfl
  simp only [Act.put, List.setIfInBounds_toArray, List.set_cons_succ, List.set_cons_zero, List.nil_append, List.cons_append]
  apply Run.valG (wanted_none rfl _)
  · intro w1 h1 hk
    have cx_0_0 : w1.cell? ⟨w.heap.size, 0, none⟩ = some (.int .i8 0) := Fut.cell h1 (by first | exact c1_0_0 | go_simp)
    have cx_0_1 : w1.cell? ⟨w.heap.size, 1, none⟩ = some (.int .i64 0) := Fut.cell h1 (by first | exact c1_0_1 | go_simp)
    have cx_0_2 : w1.cell? ⟨w.heap.size, 2, none⟩ = some (.string ⟨#[]⟩) := Fut.cell h1 (by first | exact c1_0_2 | go_simp)
    have x1w := h1.cell x1'; have y1w := h1.cell y1'
    go_simp; rfl
  simp only [Act.put, List.setIfInBounds_toArray, List.set_cons_succ, List.set_cons_zero, List.nil_append, List.cons_append]
  apply Run.valG (wanted_none rfl _)
  · intro w1 h1 hk
    have cx_0_0 : w1.cell? ⟨w.heap.size, 0, none⟩ = some (.int .i8 0) := Fut.cell h1 (by first | exact c1_0_0 | go_simp)
    have cx_0_1 : w1.cell? ⟨w.heap.size, 1, none⟩ = some (.int .i64 0) := Fut.cell h1 (by first | exact c1_0_1 | go_simp)
    have cx_0_2 : w1.cell? ⟨w.heap.size, 2, none⟩ = some (.string ⟨#[]⟩) := Fut.cell h1 (by first | exact c1_0_2 | go_simp)
    have x1w := h1.cell x1'; have y1w := h1.cell y1'
    go_simp; rfl
  simp only [Act.put, List.setIfInBounds_toArray, List.set_cons_succ, List.set_cons_zero, List.nil_append, List.cons_append]
  apply Run.valG (wanted_none rfl _)
  · intro w1 h1 hk
    have cx_0_0 : w1.cell? ⟨w.heap.size, 0, none⟩ = some (.int .i8 0) := Fut.cell h1 (by first | exact c1_0_0 | go_simp)
    have cx_0_1 : w1.cell? ⟨w.heap.size, 1, none⟩ = some (.int .i64 0) := Fut.cell h1 (by first | exact c1_0_1 | go_simp)
    have cx_0_2 : w1.cell? ⟨w.heap.size, 2, none⟩ = some (.string ⟨#[]⟩) := Fut.cell h1 (by first | exact c1_0_2 | go_simp)
    have x1w := h1.cell x1'; have y1w := h1.cell y1'
    go_simp; rfl
  simp only [Act.put, List.setIfInBounds_toArray, List.set_cons_succ, List.set_cons_zero, List.nil_append, List.cons_append]
  apply Run.valG (wanted_none rfl _)
  · intro w1 h1 hk
    have cx_0_0 : w1.cell? ⟨w.heap.size, 0, none⟩ = some (.int .i8 0) := Fut.cell h1 (by first | exact c1_0_0 | go_simp)
    have cx_0_1 : w1.cell? ⟨w.heap.size, 1, none⟩ = some (.int .i64 0) := Fut.cell h1 (by first | exact c1_0_1 | go_simp)
    have cx_0_2 : w1.cell? ⟨w.heap.size, 2, none⟩ = some (.string ⟨#[]⟩) := Fut.cell h1 (by first | exact c1_0_2 | go_simp)
    have x1w := h1.cell x1'; have y1w := h1.cell y1'
    go_simp; rfl
  simp only [Act.put, List.setIfInBounds_toArray, List.set_cons_succ, List.set_cons_zero, List.nil_append, List.cons_append]
  apply Run.done
  intro w2 h2 hk
  have c2_0_0 : w2.cell? ⟨w.heap.size, 0, none⟩ = some (.int .i8 0) := Fut.cell h2 (by first | exact c1_0_0 | go_simp)
  have c2_0_1 : w2.cell? ⟨w.heap.size, 1, none⟩ = some (.int .i64 0) := Fut.cell h2 (by first | exact c1_0_1 | go_simp)
  have c2_0_2 : w2.cell? ⟨w.heap.size, 2, none⟩ = some (.string ⟨#[]⟩) := Fut.cell h2 (by first | exact c1_0_2 | go_simp)
  clear hk
  have hF2 : Fut w w2 := hF.trans ((Fut.drew _).trans h2)
  have hsz2 : w.heap.size < w2.heap.size := by have := h2.size; simp at this; omega
  have z2_0 : w2.frozen? ⟨w.heap.size, 0, none⟩ = false := h2.free hsz z1_0
  have z2_1 : w2.frozen? ⟨w.heap.size, 1, none⟩ = false := h2.free hsz z1_1
  have z2_2 : w2.frozen? ⟨w.heap.size, 2, none⟩ = false := h2.free hsz z1_2
  go_wp2_with fail
  refine (number_any _ _).mono ?_
  rintro e w3 ⟨rfl, h3⟩
  have c3_0_0 := h3.cell c2_0_0
  have c3_0_1 := h3.cell c2_0_1
  have c3_0_2 := h3.cell c2_0_2
  have z3_0 : w3.frozen? ⟨w.heap.size, 0, none⟩ = false := h3.free hsz2 z2_0
  have z3_1 : w3.frozen? ⟨w.heap.size, 1, none⟩ = false := h3.free hsz2 z2_1
  have z3_2 : w3.frozen? ⟨w.heap.size, 2, none⟩ = false := h3.free hsz2 z2_2
  simp only [pairV, numV, V.val]
  go_wp2
  exact bodyPost_ret (v := pairV (numV (wrap64 (x.n.tdiv y.n))) true) (by simp [results, Tryd.results10, go_sem, pairV, numV, V.val, z3_0, z3_1, z3_2, c3_0_0, c3_0_1, c3_0_2]) rfl ⟨rfl, (((hF2.trans h3).set (Nat.le_refl _) _).set (Nat.le_refl _) _).set (Nat.le_refl _) _⟩
set_option maxHeartbeats 800000 in
theorem arith6y_any (a : Value) (x y : V) (w : World) (hT : Takes w) (ha : Vals w a [x, y]) (hx : good 1 x = true) (hy : good 1 y = true) (h0 : ¬ y.n = 0) :
    Calls Tryd.prog 10 #[.int .i8 6, a] w fun e w' => e = .returned (pairV (numV (x.n.tmod y.n)) true) ∧ Fut w w' := by
  obtain ⟨A, cap, rfl, hl, hm⟩ := SlRep.form ha
  obtain ⟨b, off, rfl, _, _, x1, _⟩ := Vals.at_ ha (k := 0) (by simp)
  obtain ⟨b', off', he, _, _, y1, _⟩ := Vals.at_ ha (k := 1) (by simp)
  injection he with he
  injection he with he1 he2
  subst he1; subst he2
  have t0 : ∀ o, (w.alloc o).cell? ⟨0, 6, none⟩ = some (.int .i8 2) := fun o => (Fut.alloc w o).cell (hT 6 (by omega))
  simp only [List.getElem_cons_zero, List.getElem_cons_succ, Nat.zero_mul, Nat.one_mul, Nat.add_zero, List.length_cons, List.length_nil, Nat.zero_add, List.getD_cons_succ, List.getD_cons_zero] at ha x1 y1 hl
  have H0 := Lib.hid h0
  clear h0
  go_enter Tryd.func10, Tryd.ntmps10
  go_wp2_with fail
  refine (fits2_any _ [x, y] _ (ha.fut RV.stays (Fut.alloc _ _))).mono ?_
  rintro e w1 ⟨rfl, h1⟩
  rw [show fitsV 2 1 [x, y] = true by simp [fitsV, hx, hy]]
  have hF : Fut w w1 := (Fut.alloc _ _).trans h1
  have x1' := hF.cell x1
  have y1' := hF.cell y1
  have hsz : w.heap.size < w1.heap.size := by have := h1.size; simp at this; omega
  have c1_0_0 : w1.cell? ⟨w.heap.size, 0, none⟩ = some (.int .i8 0) := h1.cell (by go_simp)
  have c1_0_1 : w1.cell? ⟨w.heap.size, 1, none⟩ = some (.int .i64 0) := h1.cell (by go_simp)
  have c1_0_2 : w1.cell? ⟨w.heap.size, 2, none⟩ = some (.string ⟨#[]⟩) := h1.cell (by go_simp)
  have z1_0 : w1.frozen? ⟨w.heap.size, 0, none⟩ = false := h1.free (by simp) (by go_simp)
  have z1_1 : w1.frozen? ⟨w.heap.size, 1, none⟩ = false := h1.free (by simp) (by go_simp)
  have z1_2 : w1.frozen? ⟨w.heap.size, 2, none⟩ = false := h1.free (by simp) (by go_simp)
  go_wp2
  refine wp_graph 15 [.d, .d, .d, .d, .d, .d, .d, .d, .d, .d, .d, .d, .d, .d, .d] (by kernel_rfl) (by kernel_rfl) (by kernel_rfl) ?_
  simp only [List.take_succ_cons, List.take_zero, List.drop_succ_cons, List.drop_zero, Exs]
  iterate 15 apply Exists.intro
  apply Run.valG (wanted_none rfl _)
  · intro w1 h1 hk
    have cx_0_0 : w1.cell? ⟨w.heap.size, 0, none⟩ = some (.int .i8 0) := Fut.cell h1 (by first | exact c1_0_0 | go_simp)
    have cx_0_1 : w1.cell? ⟨w.heap.size, 1, none⟩ = some (.int .i64 0) := Fut.cell h1 (by first | exact c1_0_1 | go_simp)
    have cx_0_2 : w1.cell? ⟨w.heap.size, 2, none⟩ = some (.string ⟨#[]⟩) := Fut.cell h1 (by first | exact c1_0_2 | go_simp)
    have x1w := h1.cell x1'; have y1w := h1.cell y1'
    go_simp; rfl
  simp only [Act.put, List.setIfInBounds_toArray, List.set_cons_succ, List.set_cons_zero, List.nil_append, List.cons_append]
  apply Run.valG (wanted_none rfl _)
  · intro w1 h1 hk
    have cx_0_0 : w1.cell? ⟨w.heap.size, 0, none⟩ = some (.int .i8 0) := Fut.cell h1 (by first | exact c1_0_0 | go_simp)
    have cx_0_1 : w1.cell? ⟨w.heap.size, 1, none⟩ = some (.int .i64 0) := Fut.cell h1 (by first | exact c1_0_1 | go_simp)
    have cx_0_2 : w1.cell? ⟨w.heap.size, 2, none⟩ = some (.string ⟨#[]⟩) := Fut.cell h1 (by first | exact c1_0_2 | go_simp)
    have x1w := h1.cell x1'; have y1w := h1.cell y1'
    go_simp; rfl
  simp only [Act.put, List.setIfInBounds_toArray, List.set_cons_succ, List.set_cons_zero, List.nil_append, List.cons_append]
  apply Run.valG (wanted_none rfl _)
  · intro w1 h1 hk
    have cx_0_0 : w1.cell? ⟨w.heap.size, 0, none⟩ = some (.int .i8 0) := Fut.cell h1 (by first | exact c1_0_0 | go_simp)
    have cx_0_1 : w1.cell? ⟨w.heap.size, 1, none⟩ = some (.int .i64 0) := Fut.cell h1 (by first | exact c1_0_1 | go_simp)
    have cx_0_2 : w1.cell? ⟨w.heap.size, 2, none⟩ = some (.string ⟨#[]⟩) := Fut.cell h1 (by first | exact c1_0_2 | go_simp)
    have x1w := h1.cell x1'; have y1w := h1.cell y1'
    go_simp; rfl
  simp only [Act.put, List.setIfInBounds_toArray, List.set_cons_succ, List.set_cons_zero, List.nil_append, List.cons_append]
  apply Run.valG (wanted_none rfl _)
  · intro w1 h1 hk
    have cx_0_0 : w1.cell? ⟨w.heap.size, 0, none⟩ = some (.int .i8 0) := Fut.cell h1 (by first | exact c1_0_0 | go_simp)
    have cx_0_1 : w1.cell? ⟨w.heap.size, 1, none⟩ = some (.int .i64 0) := Fut.cell h1 (by first | exact c1_0_1 | go_simp)
    have cx_0_2 : w1.cell? ⟨w.heap.size, 2, none⟩ = some (.string ⟨#[]⟩) := Fut.cell h1 (by first | exact c1_0_2 | go_simp)
    have x1w := h1.cell x1'; have y1w := h1.cell y1'
    go_simp; rfl
  simp only [Act.put, List.setIfInBounds_toArray, List.set_cons_succ, List.set_cons_zero, List.nil_append, List.cons_append]
  apply Run.valG (wanted_none rfl _)
  · intro w1 h1 hk
    have cx_0_0 : w1.cell? ⟨w.heap.size, 0, none⟩ = some (.int .i8 0) := Fut.cell h1 (by first | exact c1_0_0 | go_simp)
    have cx_0_1 : w1.cell? ⟨w.heap.size, 1, none⟩ = some (.int .i64 0) := Fut.cell h1 (by first | exact c1_0_1 | go_simp)
    have cx_0_2 : w1.cell? ⟨w.heap.size, 2, none⟩ = some (.string ⟨#[]⟩) := Fut.cell h1 (by first | exact c1_0_2 | go_simp)
    have x1w := h1.cell x1'; have y1w := h1.cell y1'
    go_simp; rfl
  simp only [Act.put, List.setIfInBounds_toArray, List.set_cons_succ, List.set_cons_zero, List.nil_append, List.cons_append]
  apply Run.valG (wanted_none rfl _)
  · intro w1 h1 hk
    have cx_0_0 : w1.cell? ⟨w.heap.size, 0, none⟩ = some (.int .i8 0) := Fut.cell h1 (by first | exact c1_0_0 | go_simp)
    have cx_0_1 : w1.cell? ⟨w.heap.size, 1, none⟩ = some (.int .i64 0) := Fut.cell h1 (by first | exact c1_0_1 | go_simp)
    have cx_0_2 : w1.cell? ⟨w.heap.size, 2, none⟩ = some (.string ⟨#[]⟩) := Fut.cell h1 (by first | exact c1_0_2 | go_simp)
    have x1w := h1.cell x1'; have y1w := h1.cell y1'
    go_simp; rfl
  simp only [Act.put, List.setIfInBounds_toArray, List.set_cons_succ, List.set_cons_zero, List.nil_append, List.cons_append]
  apply Run.valG (wanted_none rfl _)
  · intro w1 h1 hk
    have cx_0_0 : w1.cell? ⟨w.heap.size, 0, none⟩ = some (.int .i8 0) := Fut.cell h1 (by first | exact c1_0_0 | go_simp)
    have cx_0_1 : w1.cell? ⟨w.heap.size, 1, none⟩ = some (.int .i64 0) := Fut.cell h1 (by first | exact c1_0_1 | go_simp)
    have cx_0_2 : w1.cell? ⟨w.heap.size, 2, none⟩ = some (.string ⟨#[]⟩) := Fut.cell h1 (by first | exact c1_0_2 | go_simp)
    have x1w := h1.cell x1'; have y1w := h1.cell y1'
    go_simp; rfl
  simp only [Act.put, List.setIfInBounds_toArray, List.set_cons_succ, List.set_cons_zero, List.nil_append, List.cons_append]
  apply Run.valG (wanted_none rfl _)
  · intro w1 h1 hk
    have cx_0_0 : w1.cell? ⟨w.heap.size, 0, none⟩ = some (.int .i8 0) := Fut.cell h1 (by first | exact c1_0_0 | go_simp)
    have cx_0_1 : w1.cell? ⟨w.heap.size, 1, none⟩ = some (.int .i64 0) := Fut.cell h1 (by first | exact c1_0_1 | go_simp)
    have cx_0_2 : w1.cell? ⟨w.heap.size, 2, none⟩ = some (.string ⟨#[]⟩) := Fut.cell h1 (by first | exact c1_0_2 | go_simp)
    have x1w := h1.cell x1'; have y1w := h1.cell y1'
    go_simp; rfl
  simp only [Act.put, List.setIfInBounds_toArray, List.set_cons_succ, List.set_cons_zero, List.nil_append, List.cons_append]
  apply Run.valG (wanted_none rfl _)
  · intro w1 h1 hk
    have cx_0_0 : w1.cell? ⟨w.heap.size, 0, none⟩ = some (.int .i8 0) := Fut.cell h1 (by first | exact c1_0_0 | go_simp)
    have cx_0_1 : w1.cell? ⟨w.heap.size, 1, none⟩ = some (.int .i64 0) := Fut.cell h1 (by first | exact c1_0_1 | go_simp)
    have cx_0_2 : w1.cell? ⟨w.heap.size, 2, none⟩ = some (.string ⟨#[]⟩) := Fut.cell h1 (by first | exact c1_0_2 | go_simp)
    have x1w := h1.cell x1'; have y1w := h1.cell y1'
    go_simp; rfl
  simp only [Act.put, List.setIfInBounds_toArray, List.set_cons_succ, List.set_cons_zero, List.nil_append, List.cons_append]
  apply Run.call (wanted_none rfl _) (fun _ _ => by go_simp; exact ⟨rfl, rfl⟩)
  · intro w1 h1 hk
    have cx_0_0 : w1.cell? ⟨w.heap.size, 0, none⟩ = some (.int .i8 0) := Fut.cell h1 (by first | exact c1_0_0 | go_simp)
    have cx_0_1 : w1.cell? ⟨w.heap.size, 1, none⟩ = some (.int .i64 0) := Fut.cell h1 (by first | exact c1_0_1 | go_simp)
    have cx_0_2 : w1.cell? ⟨w.heap.size, 2, none⟩ = some (.string ⟨#[]⟩) := Fut.cell h1 (by first | exact c1_0_2 | go_simp)
    have x1w := h1.cell x1'; have y1w := h1.cell y1'
    exact dv6_some _ _ H0.out _
  simp only [Act.put, List.setIfInBounds_toArray, List.set_cons_succ, List.set_cons_zero, List.nil_append, List.cons_append]
  apply Run.valG (wanted_none rfl _)
  · intro w1 h1 hk
    have cx_0_0 : w1.cell? ⟨w.heap.size, 0, none⟩ = some (.int .i8 0) := Fut.cell h1 (by first | exact c1_0_0 | go_simp)
    have cx_0_1 : w1.cell? ⟨w.heap.size, 1, none⟩ = some (.int .i64 0) := Fut.cell h1 (by first | exact c1_0_1 | go_simp)
    have cx_0_2 : w1.cell? ⟨w.heap.size, 2, none⟩ = some (.string ⟨#[]⟩) := Fut.cell h1 (by first | exact c1_0_2 | go_simp)
    have x1w := h1.cell x1'; have y1w := h1.cell y1'
    go_simp; rfl
  simp only [Act.put, List.setIfInBounds_toArray, List.set_cons_succ, List.set_cons_zero, List.nil_append, List.cons_append]
  apply Run.valG (wanted_none rfl _)
  · intro w1 h1 hk
    have cx_0_0 : w1.cell? ⟨w.heap.size, 0, none⟩ = some (.int .i8 0) := Fut.cell h1 (by first | exact c1_0_0 | go_simp)
    have cx_0_1 : w1.cell? ⟨w.heap.size, 1, none⟩ = some (.int .i64 0) := Fut.cell h1 (by first | exact c1_0_1 | go_simp)
    have cx_0_2 : w1.cell? ⟨w.heap.size, 2, none⟩ = some (.string ⟨#[]⟩) := Fut.cell h1 (by first | exact c1_0_2 | go_simp)
    have x1w := h1.cell x1'; have y1w := h1.cell y1'
    go_simp; rfl
  simp only [Act.put, List.setIfInBounds_toArray, List.set_cons_succ, List.set_cons_zero, List.nil_append, List.cons_append]
  apply Run.valG (wanted_none rfl _)
  · intro w1 h1 hk
    have cx_0_0 : w1.cell? ⟨w.heap.size, 0, none⟩ = some (.int .i8 0) := Fut.cell h1 (by first | exact c1_0_0 | go_simp)
    have cx_0_1 : w1.cell? ⟨w.heap.size, 1, none⟩ = some (.int .i64 0) := Fut.cell h1 (by first | exact c1_0_1 | go_simp)
    have cx_0_2 : w1.cell? ⟨w.heap.size, 2, none⟩ = some (.string ⟨#[]⟩) := Fut.cell h1 (by first | exact c1_0_2 | go_simp)
    have x1w := h1.cell x1'; have y1w := h1.cell y1'
    go_simp; rfl
  simp only [Act.put, List.setIfInBounds_toArray, List.set_cons_succ, List.set_cons_zero, List.nil_append, List.cons_append]
  apply Run.valG (wanted_none rfl _)
  · intro w1 h1 hk
    have cx_0_0 : w1.cell? ⟨w.heap.size, 0, none⟩ = some (.int .i8 0) := Fut.cell h1 (by first | exact c1_0_0 | go_simp)
    have cx_0_1 : w1.cell? ⟨w.heap.size, 1, none⟩ = some (.int .i64 0) := Fut.cell h1 (by first | exact c1_0_1 | go_simp)
    have cx_0_2 : w1.cell? ⟨w.heap.size, 2, none⟩ = some (.string ⟨#[]⟩) := Fut.cell h1 (by first | exact c1_0_2 | go_simp)
    have x1w := h1.cell x1'; have y1w := h1.cell y1'
    go_simp; rfl
  simp only [Act.put, List.setIfInBounds_toArray, List.set_cons_succ, List.set_cons_zero, List.nil_append, List.cons_append]
  apply Run.valG (wanted_none rfl _)
  · intro w1 h1 hk
    have cx_0_0 : w1.cell? ⟨w.heap.size, 0, none⟩ = some (.int .i8 0) := Fut.cell h1 (by first | exact c1_0_0 | go_simp)
    have cx_0_1 : w1.cell? ⟨w.heap.size, 1, none⟩ = some (.int .i64 0) := Fut.cell h1 (by first | exact c1_0_1 | go_simp)
    have cx_0_2 : w1.cell? ⟨w.heap.size, 2, none⟩ = some (.string ⟨#[]⟩) := Fut.cell h1 (by first | exact c1_0_2 | go_simp)
    have x1w := h1.cell x1'; have y1w := h1.cell y1'
    go_simp; rfl
  simp only [Act.put, List.setIfInBounds_toArray, List.set_cons_succ, List.set_cons_zero, List.nil_append, List.cons_append]
  apply Run.done
  intro w2 h2 hk
  have c2_0_0 : w2.cell? ⟨w.heap.size, 0, none⟩ = some (.int .i8 0) := Fut.cell h2 (by first | exact c1_0_0 | go_simp)
  have c2_0_1 : w2.cell? ⟨w.heap.size, 1, none⟩ = some (.int .i64 0) := Fut.cell h2 (by first | exact c1_0_1 | go_simp)
  have c2_0_2 : w2.cell? ⟨w.heap.size, 2, none⟩ = some (.string ⟨#[]⟩) := Fut.cell h2 (by first | exact c1_0_2 | go_simp)
  clear hk
  have hF2 : Fut w w2 := hF.trans ((Fut.drew _).trans h2)
  have hsz2 : w.heap.size < w2.heap.size := by have := h2.size; simp at this; omega
  have z2_0 : w2.frozen? ⟨w.heap.size, 0, none⟩ = false := h2.free hsz z1_0
  have z2_1 : w2.frozen? ⟨w.heap.size, 1, none⟩ = false := h2.free hsz z1_1
  have z2_2 : w2.frozen? ⟨w.heap.size, 2, none⟩ = false := h2.free hsz z1_2
  go_wp2_with fail
  refine (number_any _ _).mono ?_
  rintro e w3 ⟨rfl, h3⟩
  have c3_0_0 := h3.cell c2_0_0
  have c3_0_1 := h3.cell c2_0_1
  have c3_0_2 := h3.cell c2_0_2
  have z3_0 : w3.frozen? ⟨w.heap.size, 0, none⟩ = false := h3.free hsz2 z2_0
  have z3_1 : w3.frozen? ⟨w.heap.size, 1, none⟩ = false := h3.free hsz2 z2_1
  have z3_2 : w3.frozen? ⟨w.heap.size, 2, none⟩ = false := h3.free hsz2 z2_2
  simp only [pairV, numV, V.val]
  go_wp2
  exact bodyPost_ret (v := pairV (numV (x.n.tmod y.n)) true) (by simp [results, Tryd.results10, go_sem, pairV, numV, V.val, z3_0, z3_1, z3_2, c3_0_0, c3_0_1, c3_0_2]) rfl ⟨rfl, (((hF2.trans h3).set (Nat.le_refl _) _).set (Nat.le_refl _) _).set (Nat.le_refl _) _⟩

set_option maxHeartbeats 800000 in
theorem arith5n_any (a : Value) (x y : V) (w : World) (hT : Takes w) (ha : Vals w a [x, y]) (hx : good 1 x = true) (hy : good 1 y = true) (h0 : y.n = 0) :
    Calls Tryd.prog 10 #[.int .i8 5, a] w fun e w' => e = .returned (pairV noV false) ∧ Fut w w' := by
  obtain ⟨A, cap, rfl, hl, hm⟩ := SlRep.form ha
  obtain ⟨b, off, rfl, _, _, x1, _⟩ := Vals.at_ ha (k := 0) (by simp)
  obtain ⟨b', off', he, _, _, y1, _⟩ := Vals.at_ ha (k := 1) (by simp)
  injection he with he
  injection he with he1 he2
  subst he1; subst he2
  have t0 : ∀ o, (w.alloc o).cell? ⟨0, 5, none⟩ = some (.int .i8 2) := fun o => (Fut.alloc w o).cell (hT 5 (by omega))
  simp only [List.getElem_cons_zero, List.getElem_cons_succ, Nat.zero_mul, Nat.one_mul, Nat.add_zero, List.length_cons, List.length_nil, Nat.zero_add, List.getD_cons_succ, List.getD_cons_zero] at ha x1 y1 hl
  have H0 := Lib.hid h0
  clear h0
  go_enter Tryd.func10, Tryd.ntmps10
  go_wp2_with fail
  refine (fits2_any _ [x, y] _ (ha.fut RV.stays (Fut.alloc _ _))).mono ?_
  rintro e w1 ⟨rfl, h1⟩
  rw [show fitsV 2 1 [x, y] = true by simp [fitsV, hx, hy]]
  have hF : Fut w w1 := (Fut.alloc _ _).trans h1
  have x1' := hF.cell x1
  have y1' := hF.cell y1
  have hsz : w.heap.size < w1.heap.size := by have := h1.size; simp at this; omega
  have c1_0_0 : w1.cell? ⟨w.heap.size, 0, none⟩ = some (.int .i8 0) := h1.cell (by go_simp)
  have c1_0_1 : w1.cell? ⟨w.heap.size, 1, none⟩ = some (.int .i64 0) := h1.cell (by go_simp)
  have c1_0_2 : w1.cell? ⟨w.heap.size, 2, none⟩ = some (.string ⟨#[]⟩) := h1.cell (by go_simp)
  have z1_0 : w1.frozen? ⟨w.heap.size, 0, none⟩ = false := h1.free (by simp) (by go_simp)
  have z1_1 : w1.frozen? ⟨w.heap.size, 1, none⟩ = false := h1.free (by simp) (by go_simp)
  have z1_2 : w1.frozen? ⟨w.heap.size, 2, none⟩ = false := h1.free (by simp) (by go_simp)
  go_wp2
  refine wp_graph 15 [.d, .d, .d, .d, .d, .d, .d, .d, .d, .d, .d, .d, .d, .d, .d] (by kernel_rfl) (by kernel_rfl) (by kernel_rfl) ?_
  simp only [List.take_succ_cons, List.take_zero, List.drop_succ_cons, List.drop_zero, Exs]
  iterate 15 apply Exists.intro
  apply Run.valG (wanted_none rfl _)
  · intro w1 h1 hk
    have cx_0_0 : w1.cell? ⟨w.heap.size, 0, none⟩ = some (.int .i8 0) := Fut.cell h1 (by first | exact c1_0_0 | go_simp)
    have cx_0_1 : w1.cell? ⟨w.heap.size, 1, none⟩ = some (.int .i64 0) := Fut.cell h1 (by first | exact c1_0_1 | go_simp)
    have cx_0_2 : w1.cell? ⟨w.heap.size, 2, none⟩ = some (.string ⟨#[]⟩) := Fut.cell h1 (by first | exact c1_0_2 | go_simp)
    have x1w := h1.cell x1'; have y1w := h1.cell y1'
    go_simp; rfl
  simp only [Act.put, List.setIfInBounds_toArray, List.set_cons_succ, List.set_cons_zero, List.nil_append, List.cons_append]
  apply Run.valG (wanted_none rfl _)
  · intro w1 h1 hk
    have cx_0_0 : w1.cell? ⟨w.heap.size, 0, none⟩ = some (.int .i8 0) := Fut.cell h1 (by first | exact c1_0_0 | go_simp)
    have cx_0_1 : w1.cell? ⟨w.heap.size, 1, none⟩ = some (.int .i64 0) := Fut.cell h1 (by first | exact c1_0_1 | go_simp)
    have cx_0_2 : w1.cell? ⟨w.heap.size, 2, none⟩ = some (.string ⟨#[]⟩) := Fut.cell h1 (by first | exact c1_0_2 | go_simp)
    have x1w := h1.cell x1'; have y1w := h1.cell y1'
    go_simp; rfl
  simp only [Act.put, List.setIfInBounds_toArray, List.set_cons_succ, List.set_cons_zero, List.nil_append, List.cons_append]
  apply Run.valG (wanted_none rfl _)
  · intro w1 h1 hk
    have cx_0_0 : w1.cell? ⟨w.heap.size, 0, none⟩ = some (.int .i8 0) := Fut.cell h1 (by first | exact c1_0_0 | go_simp)
    have cx_0_1 : w1.cell? ⟨w.heap.size, 1, none⟩ = some (.int .i64 0) := Fut.cell h1 (by first | exact c1_0_1 | go_simp)
    have cx_0_2 : w1.cell? ⟨w.heap.size, 2, none⟩ = some (.string ⟨#[]⟩) := Fut.cell h1 (by first | exact c1_0_2 | go_simp)
    have x1w := h1.cell x1'; have y1w := h1.cell y1'
    go_simp; rfl
  simp only [Act.put, List.setIfInBounds_toArray, List.set_cons_succ, List.set_cons_zero, List.nil_append, List.cons_append]
  apply Run.valG (wanted_none rfl _)
  · intro w1 h1 hk
    have cx_0_0 : w1.cell? ⟨w.heap.size, 0, none⟩ = some (.int .i8 0) := Fut.cell h1 (by first | exact c1_0_0 | go_simp)
    have cx_0_1 : w1.cell? ⟨w.heap.size, 1, none⟩ = some (.int .i64 0) := Fut.cell h1 (by first | exact c1_0_1 | go_simp)
    have cx_0_2 : w1.cell? ⟨w.heap.size, 2, none⟩ = some (.string ⟨#[]⟩) := Fut.cell h1 (by first | exact c1_0_2 | go_simp)
    have x1w := h1.cell x1'; have y1w := h1.cell y1'
    go_simp; rfl
  simp only [Act.put, List.setIfInBounds_toArray, List.set_cons_succ, List.set_cons_zero, List.nil_append, List.cons_append]
  apply Run.valG (wanted_none rfl _)
  · intro w1 h1 hk
    have cx_0_0 : w1.cell? ⟨w.heap.size, 0, none⟩ = some (.int .i8 0) := Fut.cell h1 (by first | exact c1_0_0 | go_simp)
    have cx_0_1 : w1.cell? ⟨w.heap.size, 1, none⟩ = some (.int .i64 0) := Fut.cell h1 (by first | exact c1_0_1 | go_simp)
    have cx_0_2 : w1.cell? ⟨w.heap.size, 2, none⟩ = some (.string ⟨#[]⟩) := Fut.cell h1 (by first | exact c1_0_2 | go_simp)
    have x1w := h1.cell x1'; have y1w := h1.cell y1'
    go_simp; rfl
  simp only [Act.put, List.setIfInBounds_toArray, List.set_cons_succ, List.set_cons_zero, List.nil_append, List.cons_append]
  apply Run.valG (wanted_none rfl _)
  · intro w1 h1 hk
    have cx_0_0 : w1.cell? ⟨w.heap.size, 0, none⟩ = some (.int .i8 0) := Fut.cell h1 (by first | exact c1_0_0 | go_simp)
    have cx_0_1 : w1.cell? ⟨w.heap.size, 1, none⟩ = some (.int .i64 0) := Fut.cell h1 (by first | exact c1_0_1 | go_simp)
    have cx_0_2 : w1.cell? ⟨w.heap.size, 2, none⟩ = some (.string ⟨#[]⟩) := Fut.cell h1 (by first | exact c1_0_2 | go_simp)
    have x1w := h1.cell x1'; have y1w := h1.cell y1'
    go_simp; rfl
  simp only [Act.put, List.setIfInBounds_toArray, List.set_cons_succ, List.set_cons_zero, List.nil_append, List.cons_append]
  apply Run.valG (wanted_none rfl _)
  · intro w1 h1 hk
    have cx_0_0 : w1.cell? ⟨w.heap.size, 0, none⟩ = some (.int .i8 0) := Fut.cell h1 (by first | exact c1_0_0 | go_simp)
    have cx_0_1 : w1.cell? ⟨w.heap.size, 1, none⟩ = some (.int .i64 0) := Fut.cell h1 (by first | exact c1_0_1 | go_simp)
    have cx_0_2 : w1.cell? ⟨w.heap.size, 2, none⟩ = some (.string ⟨#[]⟩) := Fut.cell h1 (by first | exact c1_0_2 | go_simp)
    have x1w := h1.cell x1'; have y1w := h1.cell y1'
    go_simp; rfl
  simp only [Act.put, List.setIfInBounds_toArray, List.set_cons_succ, List.set_cons_zero, List.nil_append, List.cons_append]
  apply Run.valG (wanted_none rfl _)
  · intro w1 h1 hk
    have cx_0_0 : w1.cell? ⟨w.heap.size, 0, none⟩ = some (.int .i8 0) := Fut.cell h1 (by first | exact c1_0_0 | go_simp)
    have cx_0_1 : w1.cell? ⟨w.heap.size, 1, none⟩ = some (.int .i64 0) := Fut.cell h1 (by first | exact c1_0_1 | go_simp)
    have cx_0_2 : w1.cell? ⟨w.heap.size, 2, none⟩ = some (.string ⟨#[]⟩) := Fut.cell h1 (by first | exact c1_0_2 | go_simp)
    have x1w := h1.cell x1'; have y1w := h1.cell y1'
    go_simp; rfl
  simp only [Act.put, List.setIfInBounds_toArray, List.set_cons_succ, List.set_cons_zero, List.nil_append, List.cons_append]
  apply Run.valG (wanted_none rfl _)
  · intro w1 h1 hk
    have cx_0_0 : w1.cell? ⟨w.heap.size, 0, none⟩ = some (.int .i8 0) := Fut.cell h1 (by first | exact c1_0_0 | go_simp)
    have cx_0_1 : w1.cell? ⟨w.heap.size, 1, none⟩ = some (.int .i64 0) := Fut.cell h1 (by first | exact c1_0_1 | go_simp)
    have cx_0_2 : w1.cell? ⟨w.heap.size, 2, none⟩ = some (.string ⟨#[]⟩) := Fut.cell h1 (by first | exact c1_0_2 | go_simp)
    have x1w := h1.cell x1'; have y1w := h1.cell y1'
    go_simp; rfl
  simp only [Act.put, List.setIfInBounds_toArray, List.set_cons_succ, List.set_cons_zero, List.nil_append, List.cons_append]
  apply Run.call (wanted_none rfl _) (fun _ _ => by go_simp; exact ⟨rfl, rfl⟩)
  · intro w1 h1 hk
    have cx_0_0 : w1.cell? ⟨w.heap.size, 0, none⟩ = some (.int .i8 0) := Fut.cell h1 (by first | exact c1_0_0 | go_simp)
    have cx_0_1 : w1.cell? ⟨w.heap.size, 1, none⟩ = some (.int .i64 0) := Fut.cell h1 (by first | exact c1_0_1 | go_simp)
    have cx_0_2 : w1.cell? ⟨w.heap.size, 2, none⟩ = some (.string ⟨#[]⟩) := Fut.cell h1 (by first | exact c1_0_2 | go_simp)
    have x1w := h1.cell x1'; have y1w := h1.cell y1'
    exact dv5_zero _ _ H0.out _
  simp only [Act.put, List.setIfInBounds_toArray, List.set_cons_succ, List.set_cons_zero, List.nil_append, List.cons_append]
  apply Run.valG (wanted_none rfl _)
  · intro w1 h1 hk
    have cx_0_0 : w1.cell? ⟨w.heap.size, 0, none⟩ = some (.int .i8 0) := Fut.cell h1 (by first | exact c1_0_0 | go_simp)
    have cx_0_1 : w1.cell? ⟨w.heap.size, 1, none⟩ = some (.int .i64 0) := Fut.cell h1 (by first | exact c1_0_1 | go_simp)
    have cx_0_2 : w1.cell? ⟨w.heap.size, 2, none⟩ = some (.string ⟨#[]⟩) := Fut.cell h1 (by first | exact c1_0_2 | go_simp)
    have x1w := h1.cell x1'; have y1w := h1.cell y1'
    go_simp; rfl
  simp only [Act.put, List.setIfInBounds_toArray, List.set_cons_succ, List.set_cons_zero, List.nil_append, List.cons_append]
  apply Run.valG (wanted_none rfl _)
  · intro w1 h1 hk
    have cx_0_0 : w1.cell? ⟨w.heap.size, 0, none⟩ = some (.int .i8 0) := Fut.cell h1 (by first | exact c1_0_0 | go_simp)
    have cx_0_1 : w1.cell? ⟨w.heap.size, 1, none⟩ = some (.int .i64 0) := Fut.cell h1 (by first | exact c1_0_1 | go_simp)
    have cx_0_2 : w1.cell? ⟨w.heap.size, 2, none⟩ = some (.string ⟨#[]⟩) := Fut.cell h1 (by first | exact c1_0_2 | go_simp)
    have x1w := h1.cell x1'; have y1w := h1.cell y1'
    go_simp; rfl
  simp only [Act.put, List.setIfInBounds_toArray, List.set_cons_succ, List.set_cons_zero, List.nil_append, List.cons_append]
  apply Run.valG (wanted_none rfl _)
  · intro w1 h1 hk
    have cx_0_0 : w1.cell? ⟨w.heap.size, 0, none⟩ = some (.int .i8 0) := Fut.cell h1 (by first | exact c1_0_0 | go_simp)
    have cx_0_1 : w1.cell? ⟨w.heap.size, 1, none⟩ = some (.int .i64 0) := Fut.cell h1 (by first | exact c1_0_1 | go_simp)
    have cx_0_2 : w1.cell? ⟨w.heap.size, 2, none⟩ = some (.string ⟨#[]⟩) := Fut.cell h1 (by first | exact c1_0_2 | go_simp)
    have x1w := h1.cell x1'; have y1w := h1.cell y1'
    go_simp; rfl
  simp only [Act.put, List.setIfInBounds_toArray, List.set_cons_succ, List.set_cons_zero, List.nil_append, List.cons_append]
  apply Run.valG (wanted_none rfl _)
  · intro w1 h1 hk
    have cx_0_0 : w1.cell? ⟨w.heap.size, 0, none⟩ = some (.int .i8 0) := Fut.cell h1 (by first | exact c1_0_0 | go_simp)
    have cx_0_1 : w1.cell? ⟨w.heap.size, 1, none⟩ = some (.int .i64 0) := Fut.cell h1 (by first | exact c1_0_1 | go_simp)
    have cx_0_2 : w1.cell? ⟨w.heap.size, 2, none⟩ = some (.string ⟨#[]⟩) := Fut.cell h1 (by first | exact c1_0_2 | go_simp)
    have x1w := h1.cell x1'; have y1w := h1.cell y1'
    go_simp; rfl
  simp only [Act.put, List.setIfInBounds_toArray, List.set_cons_succ, List.set_cons_zero, List.nil_append, List.cons_append]
  apply Run.valG (wanted_none rfl _)
  · intro w1 h1 hk
    have cx_0_0 : w1.cell? ⟨w.heap.size, 0, none⟩ = some (.int .i8 0) := Fut.cell h1 (by first | exact c1_0_0 | go_simp)
    have cx_0_1 : w1.cell? ⟨w.heap.size, 1, none⟩ = some (.int .i64 0) := Fut.cell h1 (by first | exact c1_0_1 | go_simp)
    have cx_0_2 : w1.cell? ⟨w.heap.size, 2, none⟩ = some (.string ⟨#[]⟩) := Fut.cell h1 (by first | exact c1_0_2 | go_simp)
    have x1w := h1.cell x1'; have y1w := h1.cell y1'
    go_simp; rfl
  simp only [Act.put, List.setIfInBounds_toArray, List.set_cons_succ, List.set_cons_zero, List.nil_append, List.cons_append]
  apply Run.done
  intro w2 h2 hk
  have c2_0_0 : w2.cell? ⟨w.heap.size, 0, none⟩ = some (.int .i8 0) := Fut.cell h2 (by first | exact c1_0_0 | go_simp)
  have c2_0_1 : w2.cell? ⟨w.heap.size, 1, none⟩ = some (.int .i64 0) := Fut.cell h2 (by first | exact c1_0_1 | go_simp)
  have c2_0_2 : w2.cell? ⟨w.heap.size, 2, none⟩ = some (.string ⟨#[]⟩) := Fut.cell h2 (by first | exact c1_0_2 | go_simp)
  clear hk
  have hF2 : Fut w w2 := hF.trans ((Fut.drew _).trans h2)
  have z2_0 : w2.frozen? ⟨w.heap.size, 0, none⟩ = false := h2.free hsz z1_0
  have z2_1 : w2.frozen? ⟨w.heap.size, 1, none⟩ = false := h2.free hsz z1_1
  have z2_2 : w2.frozen? ⟨w.heap.size, 2, none⟩ = false := h2.free hsz z1_2
  go_wp2
  exact bodyPost_ret (v := pairV noV false) (by simp [results, Tryd.results10, go_sem, pairV, noV, V.val, z2_0, z2_1, z2_2, c2_0_0, c2_0_1, c2_0_2]) rfl ⟨rfl, (((hF2).set (Nat.le_refl _) _).set (Nat.le_refl _) _).set (Nat.le_refl _) _⟩
set_option maxHeartbeats 800000 in
theorem arith6n_any (a : Value) (x y : V) (w : World) (hT : Takes w) (ha : Vals w a [x, y]) (hx : good 1 x = true) (hy : good 1 y = true) (h0 : y.n = 0) :
    Calls Tryd.prog 10 #[.int .i8 6, a] w fun e w' => e = .returned (pairV noV false) ∧ Fut w w' := by
  obtain ⟨A, cap, rfl, hl, hm⟩ := SlRep.form ha
  obtain ⟨b, off, rfl, _, _, x1, _⟩ := Vals.at_ ha (k := 0) (by simp)
  obtain ⟨b', off', he, _, _, y1, _⟩ := Vals.at_ ha (k := 1) (by simp)
  injection he with he
  injection he with he1 he2
  subst he1; subst he2
  have t0 : ∀ o, (w.alloc o).cell? ⟨0, 6, none⟩ = some (.int .i8 2) := fun o => (Fut.alloc w o).cell (hT 6 (by omega))
  simp only [List.getElem_cons_zero, List.getElem_cons_succ, Nat.zero_mul, Nat.one_mul, Nat.add_zero, List.length_cons, List.length_nil, Nat.zero_add, List.getD_cons_succ, List.getD_cons_zero] at ha x1 y1 hl
  have H0 := Lib.hid h0
  clear h0
  go_enter Tryd.func10, Tryd.ntmps10
  go_wp2_with fail
  refine (fits2_any _ [x, y] _ (ha.fut RV.stays (Fut.alloc _ _))).mono ?_
  rintro e w1 ⟨rfl, h1⟩
  rw [show fitsV 2 1 [x, y] = true by simp [fitsV, hx, hy]]
  have hF : Fut w w1 := (Fut.alloc _ _).trans h1
  have x1' := hF.cell x1
  have y1' := hF.cell y1
  have hsz : w.heap.size < w1.heap.size := by have := h1.size; simp at this; omega
  have c1_0_0 : w1.cell? ⟨w.heap.size, 0, none⟩ = some (.int .i8 0) := h1.cell (by go_simp)
  have c1_0_1 : w1.cell? ⟨w.heap.size, 1, none⟩ = some (.int .i64 0) := h1.cell (by go_simp)
  have c1_0_2 : w1.cell? ⟨w.heap.size, 2, none⟩ = some (.string ⟨#[]⟩) := h1.cell (by go_simp)
  have z1_0 : w1.frozen? ⟨w.heap.size, 0, none⟩ = false := h1.free (by simp) (by go_simp)
  have z1_1 : w1.frozen? ⟨w.heap.size, 1, none⟩ = false := h1.free (by simp) (by go_simp)
  have z1_2 : w1.frozen? ⟨w.heap.size, 2, none⟩ = false := h1.free (by simp) (by go_simp)
  go_wp2
  refine wp_graph 15 [.d, .d, .d, .d, .d, .d, .d, .d, .d, .d, .d, .d, .d, .d, .d] (by kernel_rfl) (by kernel_rfl) (by kernel_rfl) ?_
  simp only [List.take_succ_cons, List.take_zero, List.drop_succ_cons, List.drop_zero, Exs]
  iterate 15 apply Exists.intro
  apply Run.valG (wanted_none rfl _)
  · intro w1 h1 hk
    have cx_0_0 : w1.cell? ⟨w.heap.size, 0, none⟩ = some (.int .i8 0) := Fut.cell h1 (by first | exact c1_0_0 | go_simp)
    have cx_0_1 : w1.cell? ⟨w.heap.size, 1, none⟩ = some (.int .i64 0) := Fut.cell h1 (by first | exact c1_0_1 | go_simp)
    have cx_0_2 : w1.cell? ⟨w.heap.size, 2, none⟩ = some (.string ⟨#[]⟩) := Fut.cell h1 (by first | exact c1_0_2 | go_simp)
    have x1w := h1.cell x1'; have y1w := h1.cell y1'
    go_simp; rfl
  simp only [Act.put, List.setIfInBounds_toArray, List.set_cons_succ, List.set_cons_zero, List.nil_append, List.cons_append]
  apply Run.valG (wanted_none rfl _)
  · intro w1 h1 hk
    have cx_0_0 : w1.cell? ⟨w.heap.size, 0, none⟩ = some (.int .i8 0) := Fut.cell h1 (by first | exact c1_0_0 | go_simp)
    have cx_0_1 : w1.cell? ⟨w.heap.size, 1, none⟩ = some (.int .i64 0) := Fut.cell h1 (by first | exact c1_0_1 | go_simp)
    have cx_0_2 : w1.cell? ⟨w.heap.size, 2, none⟩ = some (.string ⟨#[]⟩) := Fut.cell h1 (by first | exact c1_0_2 | go_simp)
    have x1w := h1.cell x1'; have y1w := h1.cell y1'
    go_simp; rfl
  simp only [Act.put, List.setIfInBounds_toArray, List.set_cons_succ, List.set_cons_zero, List.nil_append, List.cons_append]
  apply Run.valG (wanted_none rfl _)
  · intro w1 h1 hk
    have cx_0_0 : w1.cell? ⟨w.heap.size, 0, none⟩ = some (.int .i8 0) := Fut.cell h1 (by first | exact c1_0_0 | go_simp)
    have cx_0_1 : w1.cell? ⟨w.heap.size, 1, none⟩ = some (.int .i64 0) := Fut.cell h1 (by first | exact c1_0_1 | go_simp)
    have cx_0_2 : w1.cell? ⟨w.heap.size, 2, none⟩ = some (.string ⟨#[]⟩) := Fut.cell h1 (by first | exact c1_0_2 | go_simp)
    have x1w := h1.cell x1'; have y1w := h1.cell y1'
    go_simp; rfl
  simp only [Act.put, List.setIfInBounds_toArray, List.set_cons_succ, List.set_cons_zero, List.nil_append, List.cons_append]
  apply Run.valG (wanted_none rfl _)
  · intro w1 h1 hk
    have cx_0_0 : w1.cell? ⟨w.heap.size, 0, none⟩ = some (.int .i8 0) := Fut.cell h1 (by first | exact c1_0_0 | go_simp)
    have cx_0_1 : w1.cell? ⟨w.heap.size, 1, none⟩ = some (.int .i64 0) := Fut.cell h1 (by first | exact c1_0_1 | go_simp)
    have cx_0_2 : w1.cell? ⟨w.heap.size, 2, none⟩ = some (.string ⟨#[]⟩) := Fut.cell h1 (by first | exact c1_0_2 | go_simp)
    have x1w := h1.cell x1'; have y1w := h1.cell y1'
    go_simp; rfl
  simp only [Act.put, List.setIfInBounds_toArray, List.set_cons_succ, List.set_cons_zero, List.nil_append, List.cons_append]
  apply Run.valG (wanted_none rfl _)
  · intro w1 h1 hk
    have cx_0_0 : w1.cell? ⟨w.heap.size, 0, none⟩ = some (.int .i8 0) := Fut.cell h1 (by first | exact c1_0_0 | go_simp)
    have cx_0_1 : w1.cell? ⟨w.heap.size, 1, none⟩ = some (.int .i64 0) := Fut.cell h1 (by first | exact c1_0_1 | go_simp)
    have cx_0_2 : w1.cell? ⟨w.heap.size, 2, none⟩ = some (.string ⟨#[]⟩) := Fut.cell h1 (by first | exact c1_0_2 | go_simp)
    have x1w := h1.cell x1'; have y1w := h1.cell y1'
    go_simp; rfl
  simp only [Act.put, List.setIfInBounds_toArray, List.set_cons_succ, List.set_cons_zero, List.nil_append, List.cons_append]
  apply Run.valG (wanted_none rfl _)
  · intro w1 h1 hk
    have cx_0_0 : w1.cell? ⟨w.heap.size, 0, none⟩ = some (.int .i8 0) := Fut.cell h1 (by first | exact c1_0_0 | go_simp)
    have cx_0_1 : w1.cell? ⟨w.heap.size, 1, none⟩ = some (.int .i64 0) := Fut.cell h1 (by first | exact c1_0_1 | go_simp)
    have cx_0_2 : w1.cell? ⟨w.heap.size, 2, none⟩ = some (.string ⟨#[]⟩) := Fut.cell h1 (by first | exact c1_0_2 | go_simp)
    have x1w := h1.cell x1'; have y1w := h1.cell y1'
    go_simp; rfl
  simp only [Act.put, List.setIfInBounds_toArray, List.set_cons_succ, List.set_cons_zero, List.nil_append, List.cons_append]
  apply Run.valG (wanted_none rfl _)
  · intro w1 h1 hk
    have cx_0_0 : w1.cell? ⟨w.heap.size, 0, none⟩ = some (.int .i8 0) := Fut.cell h1 (by first | exact c1_0_0 | go_simp)
    have cx_0_1 : w1.cell? ⟨w.heap.size, 1, none⟩ = some (.int .i64 0) := Fut.cell h1 (by first | exact c1_0_1 | go_simp)
    have cx_0_2 : w1.cell? ⟨w.heap.size, 2, none⟩ = some (.string ⟨#[]⟩) := Fut.cell h1 (by first | exact c1_0_2 | go_simp)
    have x1w := h1.cell x1'; have y1w := h1.cell y1'
    go_simp; rfl
  simp only [Act.put, List.setIfInBounds_toArray, List.set_cons_succ, List.set_cons_zero, List.nil_append, List.cons_append]
  apply Run.valG (wanted_none rfl _)
  · intro w1 h1 hk
    have cx_0_0 : w1.cell? ⟨w.heap.size, 0, none⟩ = some (.int .i8 0) := Fut.cell h1 (by first | exact c1_0_0 | go_simp)
    have cx_0_1 : w1.cell? ⟨w.heap.size, 1, none⟩ = some (.int .i64 0) := Fut.cell h1 (by first | exact c1_0_1 | go_simp)
    have cx_0_2 : w1.cell? ⟨w.heap.size, 2, none⟩ = some (.string ⟨#[]⟩) := Fut.cell h1 (by first | exact c1_0_2 | go_simp)
    have x1w := h1.cell x1'; have y1w := h1.cell y1'
    go_simp; rfl
  simp only [Act.put, List.setIfInBounds_toArray, List.set_cons_succ, List.set_cons_zero, List.nil_append, List.cons_append]
  apply Run.valG (wanted_none rfl _)
  · intro w1 h1 hk
    have cx_0_0 : w1.cell? ⟨w.heap.size, 0, none⟩ = some (.int .i8 0) := Fut.cell h1 (by first | exact c1_0_0 | go_simp)
    have cx_0_1 : w1.cell? ⟨w.heap.size, 1, none⟩ = some (.int .i64 0) := Fut.cell h1 (by first | exact c1_0_1 | go_simp)
    have cx_0_2 : w1.cell? ⟨w.heap.size, 2, none⟩ = some (.string ⟨#[]⟩) := Fut.cell h1 (by first | exact c1_0_2 | go_simp)
    have x1w := h1.cell x1'; have y1w := h1.cell y1'
    go_simp; rfl
  simp only [Act.put, List.setIfInBounds_toArray, List.set_cons_succ, List.set_cons_zero, List.nil_append, List.cons_append]
  apply Run.call (wanted_none rfl _) (fun _ _ => by go_simp; exact ⟨rfl, rfl⟩)
  · intro w1 h1 hk
    have cx_0_0 : w1.cell? ⟨w.heap.size, 0, none⟩ = some (.int .i8 0) := Fut.cell h1 (by first | exact c1_0_0 | go_simp)
    have cx_0_1 : w1.cell? ⟨w.heap.size, 1, none⟩ = some (.int .i64 0) := Fut.cell h1 (by first | exact c1_0_1 | go_simp)
    have cx_0_2 : w1.cell? ⟨w.heap.size, 2, none⟩ = some (.string ⟨#[]⟩) := Fut.cell h1 (by first | exact c1_0_2 | go_simp)
    have x1w := h1.cell x1'; have y1w := h1.cell y1'
    exact dv6_zero _ _ H0.out _
  simp only [Act.put, List.setIfInBounds_toArray, List.set_cons_succ, List.set_cons_zero, List.nil_append, List.cons_append]
  apply Run.valG (wanted_none rfl _)
  · intro w1 h1 hk
    have cx_0_0 : w1.cell? ⟨w.heap.size, 0, none⟩ = some (.int .i8 0) := Fut.cell h1 (by first | exact c1_0_0 | go_simp)
    have cx_0_1 : w1.cell? ⟨w.heap.size, 1, none⟩ = some (.int .i64 0) := Fut.cell h1 (by first | exact c1_0_1 | go_simp)
    have cx_0_2 : w1.cell? ⟨w.heap.size, 2, none⟩ = some (.string ⟨#[]⟩) := Fut.cell h1 (by first | exact c1_0_2 | go_simp)
    have x1w := h1.cell x1'; have y1w := h1.cell y1'
    go_simp; rfl
  simp only [Act.put, List.setIfInBounds_toArray, List.set_cons_succ, List.set_cons_zero, List.nil_append, List.cons_append]
  apply Run.valG (wanted_none rfl _)
  · intro w1 h1 hk
    have cx_0_0 : w1.cell? ⟨w.heap.size, 0, none⟩ = some (.int .i8 0) := Fut.cell h1 (by first | exact c1_0_0 | go_simp)
    have cx_0_1 : w1.cell? ⟨w.heap.size, 1, none⟩ = some (.int .i64 0) := Fut.cell h1 (by first | exact c1_0_1 | go_simp)
    have cx_0_2 : w1.cell? ⟨w.heap.size, 2, none⟩ = some (.string ⟨#[]⟩) := Fut.cell h1 (by first | exact c1_0_2 | go_simp)
    have x1w := h1.cell x1'; have y1w := h1.cell y1'
    go_simp; rfl
  simp only [Act.put, List.setIfInBounds_toArray, List.set_cons_succ, List.set_cons_zero, List.nil_append, List.cons_append]
  apply Run.valG (wanted_none rfl _)
  · intro w1 h1 hk
    have cx_0_0 : w1.cell? ⟨w.heap.size, 0, none⟩ = some (.int .i8 0) := Fut.cell h1 (by first | exact c1_0_0 | go_simp)
    have cx_0_1 : w1.cell? ⟨w.heap.size, 1, none⟩ = some (.int .i64 0) := Fut.cell h1 (by first | exact c1_0_1 | go_simp)
    have cx_0_2 : w1.cell? ⟨w.heap.size, 2, none⟩ = some (.string ⟨#[]⟩) := Fut.cell h1 (by first | exact c1_0_2 | go_simp)
    have x1w := h1.cell x1'; have y1w := h1.cell y1'
    go_simp; rfl
  simp only [Act.put, List.setIfInBounds_toArray, List.set_cons_succ, List.set_cons_zero, List.nil_append, List.cons_append]
  apply Run.valG (wanted_none rfl _)
  · intro w1 h1 hk
    have cx_0_0 : w1.cell? ⟨w.heap.size, 0, none⟩ = some (.int .i8 0) := Fut.cell h1 (by first | exact c1_0_0 | go_simp)
    have cx_0_1 : w1.cell? ⟨w.heap.size, 1, none⟩ = some (.int .i64 0) := Fut.cell h1 (by first | exact c1_0_1 | go_simp)
    have cx_0_2 : w1.cell? ⟨w.heap.size, 2, none⟩ = some (.string ⟨#[]⟩) := Fut.cell h1 (by first | exact c1_0_2 | go_simp)
    have x1w := h1.cell x1'; have y1w := h1.cell y1'
    go_simp; rfl
  simp only [Act.put, List.setIfInBounds_toArray, List.set_cons_succ, List.set_cons_zero, List.nil_append, List.cons_append]
  apply Run.valG (wanted_none rfl _)
  · intro w1 h1 hk
    have cx_0_0 : w1.cell? ⟨w.heap.size, 0, none⟩ = some (.int .i8 0) := Fut.cell h1 (by first | exact c1_0_0 | go_simp)
    have cx_0_1 : w1.cell? ⟨w.heap.size, 1, none⟩ = some (.int .i64 0) := Fut.cell h1 (by first | exact c1_0_1 | go_simp)
    have cx_0_2 : w1.cell? ⟨w.heap.size, 2, none⟩ = some (.string ⟨#[]⟩) := Fut.cell h1 (by first | exact c1_0_2 | go_simp)
    have x1w := h1.cell x1'; have y1w := h1.cell y1'
    go_simp; rfl
  simp only [Act.put, List.setIfInBounds_toArray, List.set_cons_succ, List.set_cons_zero, List.nil_append, List.cons_append]
  apply Run.done
  intro w2 h2 hk
  have c2_0_0 : w2.cell? ⟨w.heap.size, 0, none⟩ = some (.int .i8 0) := Fut.cell h2 (by first | exact c1_0_0 | go_simp)
  have c2_0_1 : w2.cell? ⟨w.heap.size, 1, none⟩ = some (.int .i64 0) := Fut.cell h2 (by first | exact c1_0_1 | go_simp)
  have c2_0_2 : w2.cell? ⟨w.heap.size, 2, none⟩ = some (.string ⟨#[]⟩) := Fut.cell h2 (by first | exact c1_0_2 | go_simp)
  clear hk
  have hF2 : Fut w w2 := hF.trans ((Fut.drew _).trans h2)
  have z2_0 : w2.frozen? ⟨w.heap.size, 0, none⟩ = false := h2.free hsz z1_0
  have z2_1 : w2.frozen? ⟨w.heap.size, 1, none⟩ = false := h2.free hsz z1_1
  have z2_2 : w2.frozen? ⟨w.heap.size, 2, none⟩ = false := h2.free hsz z1_2
  go_wp2
  exact bodyPost_ret (v := pairV noV false) (by simp [results, Tryd.results10, go_sem, pairV, noV, V.val, z2_0, z2_1, z2_2, c2_0_0, c2_0_1, c2_0_2]) rfl ⟨rfl, (((hF2).set (Nat.le_refl _) _).set (Nat.le_refl _) _).set (Nat.le_refl _) _⟩

end Go.Proofs.YtlihkmldclocoaaDoor
