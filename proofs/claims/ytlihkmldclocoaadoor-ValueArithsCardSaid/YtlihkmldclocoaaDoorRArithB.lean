/- P1.4: the document's Arith, whole. -/
import Derived.Test.YtlihkmldclocoaaDoorRArith
namespace Go.Proofs.YtlihkmldclocoaaDoor
open Go.RowKit
set_option linter.unusedSimpArgs false
set_option linter.unusedVariables false

/-! ### What does not fit -/
set_option maxHeartbeats 800000 in
theorem rarith_no1 (O : Int) (a : Value) (xs : List V) (w : World) (hO : O = 1) (ha : Vals w a xs) (hx : fitsV 1 1 xs = false) :
    Calls Tryd.prog 8 #[.int .i8 O, a] w fun e w' => e = .returned (pairV noV false) ∧ Fut w w' := by
  obtain ⟨A, cap, rfl, hl, hm⟩ := SlRep.form ha
  subst hO
  go_enter Tryd.func8, Tryd.ntmps8
  go_wp2_with fail
  refine (rkinds_any 1 1 _ xs _ (ha.fut RV.stays (Fut.alloc _ _))).mono ?_
  rintro e w1 ⟨rfl, h1⟩
  rw [hx]
  have hF : Fut w w1 := (Fut.alloc _ _).trans h1
  have c1_0_0 : w1.cell? ⟨w.heap.size, 0, none⟩ = some (.int .i8 0) := h1.cell (by go_simp)
  have c1_0_1 : w1.cell? ⟨w.heap.size, 1, none⟩ = some (.int .i64 0) := h1.cell (by go_simp)
  have c1_0_2 : w1.cell? ⟨w.heap.size, 2, none⟩ = some (.string ⟨#[]⟩) := h1.cell (by go_simp)
  have z1_0 : w1.frozen? ⟨w.heap.size, 0, none⟩ = false := h1.free (by simp) (by go_simp)
  have z1_1 : w1.frozen? ⟨w.heap.size, 1, none⟩ = false := h1.free (by simp) (by go_simp)
  have z1_2 : w1.frozen? ⟨w.heap.size, 2, none⟩ = false := h1.free (by simp) (by go_simp)
  go_wp2
  exact bodyPost_ret (v := pairV noV false) (by simp [results, Tryd.results8, go_sem, pairV, noV, V.val, z1_0, z1_1, z1_2, c1_0_0, c1_0_1, c1_0_2]) rfl ⟨rfl, ((hF.set (Nat.le_refl _) _).set (Nat.le_refl _) _).set (Nat.le_refl _) _⟩
set_option maxHeartbeats 800000 in
theorem rarith_no2 (O : Int) (a : Value) (xs : List V) (w : World) (hO : 2 ≤ O ∧ O ≤ 6) (ha : Vals w a xs) (hx : fitsV 2 1 xs = false) :
    Calls Tryd.prog 8 #[.int .i8 O, a] w fun e w' => e = .returned (pairV noV false) ∧ Fut w w' := by
  obtain ⟨A, cap, rfl, hl, hm⟩ := SlRep.form ha
  obtain ⟨h2, h6⟩ := hO; have e1 : (O == 1) = false := (by simp <;> omega); have e7 : (O == 7) = false := (by simp <;> omega); have e8 : ¬ 8 ≤ O := (by omega)
  go_enter Tryd.func8, Tryd.ntmps8
  go_wp2_with fail
  refine (rkinds_any 2 1 _ xs _ (ha.fut RV.stays (Fut.alloc _ _))).mono ?_
  rintro e w1 ⟨rfl, h1⟩
  rw [hx]
  have hF : Fut w w1 := (Fut.alloc _ _).trans h1
  have c1_0_0 : w1.cell? ⟨w.heap.size, 0, none⟩ = some (.int .i8 0) := h1.cell (by go_simp)
  have c1_0_1 : w1.cell? ⟨w.heap.size, 1, none⟩ = some (.int .i64 0) := h1.cell (by go_simp)
  have c1_0_2 : w1.cell? ⟨w.heap.size, 2, none⟩ = some (.string ⟨#[]⟩) := h1.cell (by go_simp)
  have z1_0 : w1.frozen? ⟨w.heap.size, 0, none⟩ = false := h1.free (by simp) (by go_simp)
  have z1_1 : w1.frozen? ⟨w.heap.size, 1, none⟩ = false := h1.free (by simp) (by go_simp)
  have z1_2 : w1.frozen? ⟨w.heap.size, 2, none⟩ = false := h1.free (by simp) (by go_simp)
  go_wp2
  exact bodyPost_ret (v := pairV noV false) (by simp [results, Tryd.results8, go_sem, pairV, noV, V.val, z1_0, z1_1, z1_2, c1_0_0, c1_0_1, c1_0_2]) rfl ⟨rfl, ((hF.set (Nat.le_refl _) _).set (Nat.le_refl _) _).set (Nat.le_refl _) _⟩
set_option maxHeartbeats 800000 in
theorem rarith_no3 (O : Int) (a : Value) (xs : List V) (w : World) (hO : O = 7) (ha : Vals w a xs) (hx : fitsV 2 2 xs = false) :
    Calls Tryd.prog 8 #[.int .i8 O, a] w fun e w' => e = .returned (pairV noV false) ∧ Fut w w' := by
  obtain ⟨A, cap, rfl, hl, hm⟩ := SlRep.form ha
  subst hO
  go_enter Tryd.func8, Tryd.ntmps8
  go_wp2_with fail
  refine (rkinds_any 2 2 _ xs _ (ha.fut RV.stays (Fut.alloc _ _))).mono ?_
  rintro e w1 ⟨rfl, h1⟩
  rw [hx]
  have hF : Fut w w1 := (Fut.alloc _ _).trans h1
  have c1_0_0 : w1.cell? ⟨w.heap.size, 0, none⟩ = some (.int .i8 0) := h1.cell (by go_simp)
  have c1_0_1 : w1.cell? ⟨w.heap.size, 1, none⟩ = some (.int .i64 0) := h1.cell (by go_simp)
  have c1_0_2 : w1.cell? ⟨w.heap.size, 2, none⟩ = some (.string ⟨#[]⟩) := h1.cell (by go_simp)
  have z1_0 : w1.frozen? ⟨w.heap.size, 0, none⟩ = false := h1.free (by simp) (by go_simp)
  have z1_1 : w1.frozen? ⟨w.heap.size, 1, none⟩ = false := h1.free (by simp) (by go_simp)
  have z1_2 : w1.frozen? ⟨w.heap.size, 2, none⟩ = false := h1.free (by simp) (by go_simp)
  go_wp2
  exact bodyPost_ret (v := pairV noV false) (by simp [results, Tryd.results8, go_sem, pairV, noV, V.val, z1_0, z1_1, z1_2, c1_0_0, c1_0_1, c1_0_2]) rfl ⟨rfl, ((hF.set (Nat.le_refl _) _).set (Nat.le_refl _) _).set (Nat.le_refl _) _⟩
set_option maxHeartbeats 800000 in
theorem rarith_no4 (O : Int) (a : Value) (xs : List V) (w : World) (hO : 8 ≤ O ∧ O ≤ 10) (ha : Vals w a xs) (hx : fitsV 1 2 xs = false) :
    Calls Tryd.prog 8 #[.int .i8 O, a] w fun e w' => e = .returned (pairV noV false) ∧ Fut w w' := by
  obtain ⟨A, cap, rfl, hl, hm⟩ := SlRep.form ha
  obtain ⟨h8, h10⟩ := hO; have e1 : (O == 1) = false := (by simp <;> omega); have e2 : 2 ≤ O := (by omega); have e6 : ¬ O ≤ 6 := (by omega); have e7 : (O == 7) = false := (by simp <;> omega)
  go_enter Tryd.func8, Tryd.ntmps8
  go_wp2_with fail
  refine (rkinds_any 1 2 _ xs _ (ha.fut RV.stays (Fut.alloc _ _))).mono ?_
  rintro e w1 ⟨rfl, h1⟩
  rw [hx]
  have hF : Fut w w1 := (Fut.alloc _ _).trans h1
  have c1_0_0 : w1.cell? ⟨w.heap.size, 0, none⟩ = some (.int .i8 0) := h1.cell (by go_simp)
  have c1_0_1 : w1.cell? ⟨w.heap.size, 1, none⟩ = some (.int .i64 0) := h1.cell (by go_simp)
  have c1_0_2 : w1.cell? ⟨w.heap.size, 2, none⟩ = some (.string ⟨#[]⟩) := h1.cell (by go_simp)
  have z1_0 : w1.frozen? ⟨w.heap.size, 0, none⟩ = false := h1.free (by simp) (by go_simp)
  have z1_1 : w1.frozen? ⟨w.heap.size, 1, none⟩ = false := h1.free (by simp) (by go_simp)
  have z1_2 : w1.frozen? ⟨w.heap.size, 2, none⟩ = false := h1.free (by simp) (by go_simp)
  go_wp2
  exact bodyPost_ret (v := pairV noV false) (by simp [results, Tryd.results8, go_sem, pairV, noV, V.val, z1_0, z1_1, z1_2, c1_0_0, c1_0_1, c1_0_2]) rfl ⟨rfl, ((hF.set (Nat.le_refl _) _).set (Nat.le_refl _) _).set (Nat.le_refl _) _⟩
set_option maxHeartbeats 800000 in
theorem rarith_low (O : Int) (a : Value) (w : World) (hO : O < 1) :
    Calls Tryd.prog 8 #[.int .i8 O, a] w fun e w' => e = .returned (pairV noV false) ∧ Fut w w' := by
  have e1 : (O == 1) = false := (by simp <;> omega); have e2 : ¬ 2 ≤ O := (by omega); have e7 : (O == 7) = false := (by simp <;> omega); have e8 : ¬ 8 ≤ O := (by omega)
  go_enter Tryd.func8, Tryd.ntmps8
  go_wp2
  exact bodyPost_ret (v := pairV noV false) (by simp [results, Tryd.results8, go_sem, pairV, noV, V.val]) rfl ⟨rfl, by first | exact Fut.alloc _ _ | exact (((Fut.alloc _ _).set (Nat.le_refl _) _).set (Nat.le_refl _) _).set (Nat.le_refl _) _⟩
set_option maxHeartbeats 800000 in
theorem rarith_high (O : Int) (a : Value) (w : World) (hO : 11 ≤ O) :
    Calls Tryd.prog 8 #[.int .i8 O, a] w fun e w' => e = .returned (pairV noV false) ∧ Fut w w' := by
  have e1 : (O == 1) = false := (by simp <;> omega); have e2 : 2 ≤ O := (by omega); have e6 : ¬ O ≤ 6 := (by omega); have e7 : (O == 7) = false := (by simp <;> omega); have e8 : 8 ≤ O := (by omega); have e10 : ¬ O ≤ 10 := (by omega)
  go_enter Tryd.func8, Tryd.ntmps8
  go_wp2
  exact bodyPost_ret (v := pairV noV false) (by simp [results, Tryd.results8, go_sem, pairV, noV, V.val]) rfl ⟨rfl, by first | exact Fut.alloc _ _ | exact (((Fut.alloc _ _).set (Nat.le_refl _) _).set (Nat.le_refl _) _).set (Nat.le_refl _) _⟩

/-! ### What fits -/
set_option maxHeartbeats 800000 in
theorem rarith1 (a : Value) (x : V) (w : World) (ha : Vals w a [x]) (hx : good 1 x = true) :
    Calls Tryd.prog 8 #[.int .i8 1, a] w fun e w' => e = .returned (pairR (numV (wrap64 (-x.n)), true)) ∧ Fut w w' := by
  obtain ⟨A, cap, rfl, hl, hm⟩ := SlRep.form ha
  obtain ⟨b, off, rfl, _, _, x1, _⟩ := Vals.at_ ha (k := 0) (by simp)
  simp only [List.getElem_cons_zero, Nat.zero_mul, Nat.add_zero, List.length_cons, List.length_nil, Nat.zero_add] at *
  go_enter Tryd.func8, Tryd.ntmps8
  go_wp2_with fail
  refine (rkinds_any 1 1 _ [x] _ (ha.fut RV.stays (Fut.alloc _ _))).mono ?_
  rintro e w1 ⟨rfl, h1⟩
  rw [show fitsV 1 1 [x] = true by simp [fitsV, hx]]
  have hF : Fut w w1 := (Fut.alloc _ _).trans h1
  have x1' := hF.cell x1
  have c1_0_0 : w1.cell? ⟨w.heap.size, 0, none⟩ = some (.int .i8 0) := h1.cell (by go_simp)
  have c1_0_1 : w1.cell? ⟨w.heap.size, 1, none⟩ = some (.int .i64 0) := h1.cell (by go_simp)
  have c1_0_2 : w1.cell? ⟨w.heap.size, 2, none⟩ = some (.string ⟨#[]⟩) := h1.cell (by go_simp)
  have z1_0 : w1.frozen? ⟨w.heap.size, 0, none⟩ = false := h1.free (by simp) (by go_simp)
  have z1_1 : w1.frozen? ⟨w.heap.size, 1, none⟩ = false := h1.free (by simp) (by go_simp)
  have z1_2 : w1.frozen? ⟨w.heap.size, 2, none⟩ = false := h1.free (by simp) (by go_simp)
  go_wp2
  exact bodyPost_ret (v := pairR (numV (wrap64 (-x.n)), true)) (by simp [results, Tryd.results8, go_sem, pairR, pairV, numV, V.val, z1_0, z1_1, z1_2, c1_0_0, c1_0_1, c1_0_2]) rfl ⟨rfl, ((hF.set (Nat.le_refl _) _).set (Nat.le_refl _) _).set (Nat.le_refl _) _⟩

set_option maxHeartbeats 800000 in
theorem rarith26 (O : Int) (a : Value) (x y : V) (w : World) (hO : 2 ≤ O ∧ O ≤ 6) (ha : Vals w a [x, y]) (hx : good 1 x = true) (hy : good 1 y = true) :
    Calls Tryd.prog 8 #[.int .i8 O, a] w fun e w' => e = .returned (pairR (numsV O x.n y.n)) ∧ Fut w w' := by
  have hxi := ha.oks x (by simp)
  have HN := Lib.hid (fun w => rnums_any O x.n y.n w hO (by have := hxi.2.1; simpa [Lit.wf, IntKind.min, IntKind.max, IntKind.signed, IntKind.bits] using this))
  clear hxi
  obtain ⟨A, cap, rfl, hl, hm⟩ := SlRep.form ha
  obtain ⟨b, off, rfl, _, _, x1, _⟩ := Vals.at_ ha (k := 0) (by simp)
  obtain ⟨b', off', he, _, _, y1, _⟩ := Vals.at_ ha (k := 1) (by simp)
  injection he with he
  injection he with he1 he2
  subst he1; subst he2
  obtain ⟨h2o, h6o⟩ := hO
  have e1 : (O == 1) = false := by simp <;> omega
  simp only [List.getElem_cons_zero, List.getElem_cons_succ, Nat.zero_mul, Nat.one_mul, Nat.add_zero, List.length_cons, List.length_nil, Nat.zero_add] at ha x1 y1 hl
  obtain ⟨r, hr⟩ : ∃ r, numsV O x.n y.n = r := ⟨_, rfl⟩
  rw [hr] at HN ⊢
  obtain ⟨⟨k, n, s⟩, t⟩ := r
  clear hr
  simp only [pairR, pairV, V.val] at HN ⊢
  go_enter Tryd.func8, Tryd.ntmps8
  go_wp2_with fail
  refine (rkinds_any 2 1 _ [x, y] _ (ha.fut RV.stays (Fut.alloc _ _))).mono ?_
  rintro e w1 ⟨rfl, h1⟩
  rw [show fitsV 2 1 [x, y] = true by simp [fitsV, hx, hy]]
  have hF : Fut w w1 := (Fut.alloc _ _).trans h1
  have x1' := hF.cell x1
  have y1' := hF.cell y1
  have hsz : w.heap.size < w1.heap.size := by have := h1.size; simp at this; omega
  have c1_0_0 : w1.cell? ⟨w.heap.size, 0, none⟩ = some (.int .i8 0) := h1.cell (by go_simp)
  have c1_0_1 : w1.cell? ⟨w.heap.size, 1, none⟩ = some (.int .i64 0) := h1.cell (by go_simp)
  have c1_0_2 : w1.cell? ⟨w.heap.size, 2, none⟩ = some (.string ⟨#[]⟩) := h1.cell (by go_simp)
  have z1_0 : w1.frozen? ⟨w.heap.size, 0, none⟩ = false := h1.free (by simp) (by go_simp)
  have z1_1 : w1.frozen? ⟨w.heap.size, 1, none⟩ = false := h1.free (by simp) (by go_simp)
  have z1_2 : w1.frozen? ⟨w.heap.size, 2, none⟩ = false := h1.free (by simp) (by go_simp)
  go_wp2
  refine wp_graph 12 [.d, .d, .d, .d, .d, .d, .d, .d, .d, .d, .d, .d] (by kernel_rfl) (by kernel_rfl) (by kernel_rfl) ?_
  simp only [List.take_succ_cons, List.take_zero, List.drop_succ_cons, List.drop_zero, Exs]
  iterate 12 apply Exists.intro
  apply Run.valG (wanted_none rfl _)
  · intro w1 h1 hk
    have cx_0_0 : w1.cell? ⟨w.heap.size, 0, none⟩ = some (.int .i8 0) := Fut.cell h1 (by first | exact c1_0_0 | go_simp)
    have cx_0_1 : w1.cell? ⟨w.heap.size, 1, none⟩ = some (.int .i64 0) := Fut.cell h1 (by first | exact c1_0_1 | go_simp)
    have cx_0_2 : w1.cell? ⟨w.heap.size, 2, none⟩ = some (.string ⟨#[]⟩) := Fut.cell h1 (by first | exact c1_0_2 | go_simp)
    have x1w := h1.cell x1'; have y1w := h1.cell y1'
    go_simp; rfl
  simp only [Act.put, List.setIfInBounds_toArray, List.set_cons_succ, List.set_cons_zero, List.nil_append, List.cons_append]
  apply Run.valG (wanted_none rfl _)
  · intro w1 h1 hk
    have cx_0_0 : w1.cell? ⟨w.heap.size, 0, none⟩ = some (.int .i8 0) := Fut.cell h1 (by first | exact c1_0_0 | go_simp)
    have cx_0_1 : w1.cell? ⟨w.heap.size, 1, none⟩ = some (.int .i64 0) := Fut.cell h1 (by first | exact c1_0_1 | go_simp)
    have cx_0_2 : w1.cell? ⟨w.heap.size, 2, none⟩ = some (.string ⟨#[]⟩) := Fut.cell h1 (by first | exact c1_0_2 | go_simp)
    have x1w := h1.cell x1'; have y1w := h1.cell y1'
    go_simp; rfl
  simp only [Act.put, List.setIfInBounds_toArray, List.set_cons_succ, List.set_cons_zero, List.nil_append, List.cons_append]
  apply Run.valG (wanted_none rfl _)
  · intro w1 h1 hk
    have cx_0_0 : w1.cell? ⟨w.heap.size, 0, none⟩ = some (.int .i8 0) := Fut.cell h1 (by first | exact c1_0_0 | go_simp)
    have cx_0_1 : w1.cell? ⟨w.heap.size, 1, none⟩ = some (.int .i64 0) := Fut.cell h1 (by first | exact c1_0_1 | go_simp)
    have cx_0_2 : w1.cell? ⟨w.heap.size, 2, none⟩ = some (.string ⟨#[]⟩) := Fut.cell h1 (by first | exact c1_0_2 | go_simp)
    have x1w := h1.cell x1'; have y1w := h1.cell y1'
    go_simp; rfl
  simp only [Act.put, List.setIfInBounds_toArray, List.set_cons_succ, List.set_cons_zero, List.nil_append, List.cons_append]
  apply Run.valG (wanted_none rfl _)
  · intro w1 h1 hk
    have cx_0_0 : w1.cell? ⟨w.heap.size, 0, none⟩ = some (.int .i8 0) := Fut.cell h1 (by first | exact c1_0_0 | go_simp)
    have cx_0_1 : w1.cell? ⟨w.heap.size, 1, none⟩ = some (.int .i64 0) := Fut.cell h1 (by first | exact c1_0_1 | go_simp)
    have cx_0_2 : w1.cell? ⟨w.heap.size, 2, none⟩ = some (.string ⟨#[]⟩) := Fut.cell h1 (by first | exact c1_0_2 | go_simp)
    have x1w := h1.cell x1'; have y1w := h1.cell y1'
    go_simp; rfl
  simp only [Act.put, List.setIfInBounds_toArray, List.set_cons_succ, List.set_cons_zero, List.nil_append, List.cons_append]
  apply Run.valG (wanted_none rfl _)
  · intro w1 h1 hk
    have cx_0_0 : w1.cell? ⟨w.heap.size, 0, none⟩ = some (.int .i8 0) := Fut.cell h1 (by first | exact c1_0_0 | go_simp)
    have cx_0_1 : w1.cell? ⟨w.heap.size, 1, none⟩ = some (.int .i64 0) := Fut.cell h1 (by first | exact c1_0_1 | go_simp)
    have cx_0_2 : w1.cell? ⟨w.heap.size, 2, none⟩ = some (.string ⟨#[]⟩) := Fut.cell h1 (by first | exact c1_0_2 | go_simp)
    have x1w := h1.cell x1'; have y1w := h1.cell y1'
    go_simp; rfl
  simp only [Act.put, List.setIfInBounds_toArray, List.set_cons_succ, List.set_cons_zero, List.nil_append, List.cons_append]
  apply Run.valG (wanted_none rfl _)
  · intro w1 h1 hk
    have cx_0_0 : w1.cell? ⟨w.heap.size, 0, none⟩ = some (.int .i8 0) := Fut.cell h1 (by first | exact c1_0_0 | go_simp)
    have cx_0_1 : w1.cell? ⟨w.heap.size, 1, none⟩ = some (.int .i64 0) := Fut.cell h1 (by first | exact c1_0_1 | go_simp)
    have cx_0_2 : w1.cell? ⟨w.heap.size, 2, none⟩ = some (.string ⟨#[]⟩) := Fut.cell h1 (by first | exact c1_0_2 | go_simp)
    have x1w := h1.cell x1'; have y1w := h1.cell y1'
    go_simp; rfl
  simp only [Act.put, List.setIfInBounds_toArray, List.set_cons_succ, List.set_cons_zero, List.nil_append, List.cons_append]
  apply Run.valG (wanted_none rfl _)
  · intro w1 h1 hk
    have cx_0_0 : w1.cell? ⟨w.heap.size, 0, none⟩ = some (.int .i8 0) := Fut.cell h1 (by first | exact c1_0_0 | go_simp)
    have cx_0_1 : w1.cell? ⟨w.heap.size, 1, none⟩ = some (.int .i64 0) := Fut.cell h1 (by first | exact c1_0_1 | go_simp)
    have cx_0_2 : w1.cell? ⟨w.heap.size, 2, none⟩ = some (.string ⟨#[]⟩) := Fut.cell h1 (by first | exact c1_0_2 | go_simp)
    have x1w := h1.cell x1'; have y1w := h1.cell y1'
    go_simp; rfl
  simp only [Act.put, List.setIfInBounds_toArray, List.set_cons_succ, List.set_cons_zero, List.nil_append, List.cons_append]
  apply Run.valG (wanted_none rfl _)
  · intro w1 h1 hk
    have cx_0_0 : w1.cell? ⟨w.heap.size, 0, none⟩ = some (.int .i8 0) := Fut.cell h1 (by first | exact c1_0_0 | go_simp)
    have cx_0_1 : w1.cell? ⟨w.heap.size, 1, none⟩ = some (.int .i64 0) := Fut.cell h1 (by first | exact c1_0_1 | go_simp)
    have cx_0_2 : w1.cell? ⟨w.heap.size, 2, none⟩ = some (.string ⟨#[]⟩) := Fut.cell h1 (by first | exact c1_0_2 | go_simp)
    have x1w := h1.cell x1'; have y1w := h1.cell y1'
    go_simp; rfl
  simp only [Act.put, List.setIfInBounds_toArray, List.set_cons_succ, List.set_cons_zero, List.nil_append, List.cons_append]
  apply Run.valG (wanted_none rfl _)
  · intro w1 h1 hk
    have cx_0_0 : w1.cell? ⟨w.heap.size, 0, none⟩ = some (.int .i8 0) := Fut.cell h1 (by first | exact c1_0_0 | go_simp)
    have cx_0_1 : w1.cell? ⟨w.heap.size, 1, none⟩ = some (.int .i64 0) := Fut.cell h1 (by first | exact c1_0_1 | go_simp)
    have cx_0_2 : w1.cell? ⟨w.heap.size, 2, none⟩ = some (.string ⟨#[]⟩) := Fut.cell h1 (by first | exact c1_0_2 | go_simp)
    have x1w := h1.cell x1'; have y1w := h1.cell y1'
    go_simp; rfl
  simp only [Act.put, List.setIfInBounds_toArray, List.set_cons_succ, List.set_cons_zero, List.nil_append, List.cons_append]
  apply Run.call (wanted_none rfl _) (fun _ _ => by go_simp; exact ⟨rfl, rfl⟩)
  · intro w1 h1 hk
    have cx_0_0 : w1.cell? ⟨w.heap.size, 0, none⟩ = some (.int .i8 0) := Fut.cell h1 (by first | exact c1_0_0 | go_simp)
    have cx_0_1 : w1.cell? ⟨w.heap.size, 1, none⟩ = some (.int .i64 0) := Fut.cell h1 (by first | exact c1_0_1 | go_simp)
    have cx_0_2 : w1.cell? ⟨w.heap.size, 2, none⟩ = some (.string ⟨#[]⟩) := Fut.cell h1 (by first | exact c1_0_2 | go_simp)
    have x1w := h1.cell x1'; have y1w := h1.cell y1'
    exact HN.out _
  simp only [Act.put, List.setIfInBounds_toArray, List.set_cons_succ, List.set_cons_zero, List.nil_append, List.cons_append]
  apply Run.valG (wanted_none rfl _)
  · intro w1 h1 hk
    have cx_0_0 : w1.cell? ⟨w.heap.size, 0, none⟩ = some (.int .i8 0) := Fut.cell h1 (by first | exact c1_0_0 | go_simp)
    have cx_0_1 : w1.cell? ⟨w.heap.size, 1, none⟩ = some (.int .i64 0) := Fut.cell h1 (by first | exact c1_0_1 | go_simp)
    have cx_0_2 : w1.cell? ⟨w.heap.size, 2, none⟩ = some (.string ⟨#[]⟩) := Fut.cell h1 (by first | exact c1_0_2 | go_simp)
    have x1w := h1.cell x1'; have y1w := h1.cell y1'
    go_simp; rfl
  simp only [Act.put, List.setIfInBounds_toArray, List.set_cons_succ, List.set_cons_zero, List.nil_append, List.cons_append]
  apply Run.valG (wanted_none rfl _)
  · intro w1 h1 hk
    have cx_0_0 : w1.cell? ⟨w.heap.size, 0, none⟩ = some (.int .i8 0) := Fut.cell h1 (by first | exact c1_0_0 | go_simp)
    have cx_0_1 : w1.cell? ⟨w.heap.size, 1, none⟩ = some (.int .i64 0) := Fut.cell h1 (by first | exact c1_0_1 | go_simp)
    have cx_0_2 : w1.cell? ⟨w.heap.size, 2, none⟩ = some (.string ⟨#[]⟩) := Fut.cell h1 (by first | exact c1_0_2 | go_simp)
    have x1w := h1.cell x1'; have y1w := h1.cell y1'
    go_simp; rfl
  simp only [Act.put, List.setIfInBounds_toArray, List.set_cons_succ, List.set_cons_zero, List.nil_append, List.cons_append]
  apply Run.done
  intro w2 h2 hk
  have c2_0_0 : w2.cell? ⟨w.heap.size, 0, none⟩ = some (.int .i8 0) := Fut.cell h2 (by first | exact c1_0_0 | go_simp)
  have c2_0_1 : w2.cell? ⟨w.heap.size, 1, none⟩ = some (.int .i64 0) := Fut.cell h2 (by first | exact c1_0_1 | go_simp)
  have c2_0_2 : w2.cell? ⟨w.heap.size, 2, none⟩ = some (.string ⟨#[]⟩) := Fut.cell h2 (by first | exact c1_0_2 | go_simp)
  clear hk
  have z2_0 : w2.frozen? ⟨w.heap.size, 0, none⟩ = false := h2.free hsz z1_0
  have z2_1 : w2.frozen? ⟨w.heap.size, 1, none⟩ = false := h2.free hsz z1_1
  have z2_2 : w2.frozen? ⟨w.heap.size, 2, none⟩ = false := h2.free hsz z1_2
  go_wp2
  exact bodyPost_ret (v := .tuple #[.agg #[.int .i8 k, .int .i64 n, .string s], .bool t]) (by simp [results, Tryd.results8, go_sem, z2_0, z2_1, z2_2, c2_0_0, c2_0_1, c2_0_2]) rfl ⟨rfl, (((hF.trans ((Fut.drew _).trans h2)).set (Nat.le_refl _) _).set (Nat.le_refl _) _).set (Nat.le_refl _) _⟩

set_option maxHeartbeats 800000 in
theorem rarith7y (a : Value) (x y : V) (w : World) (ha : Vals w a [x, y]) (hx : good 2 x = true) (hy : good 2 y = true) (hs : x.s.size + y.s.size ≤ 140737488351232) (h200 : (x.s ++ y.s).size ≤ 200) :
    Calls Tryd.prog 8 #[.int .i8 7, a] w fun e w' => e = .returned (pairR (txtV (x.s ++ y.s), true)) ∧ Fut w w' := by
  obtain ⟨A, cap, rfl, hl, hm⟩ := SlRep.form ha
  obtain ⟨b, off, rfl, _, _, _, x1⟩ := Vals.at_ ha (k := 0) (by simp)
  obtain ⟨b', off', he, _, _, _, y1⟩ := Vals.at_ ha (k := 1) (by simp)
  injection he with he
  injection he with he1 he2
  subst he1; subst he2
  simp only [List.getElem_cons_zero, List.getElem_cons_succ, Nat.zero_mul, Nat.one_mul, Nat.add_zero, List.length_cons, List.length_nil, Nat.zero_add] at ha x1 y1 hl
  go_enter Tryd.func8, Tryd.ntmps8
  go_wp2_with fail
  refine (rkinds_any 2 2 _ [x, y] _ (ha.fut RV.stays (Fut.alloc _ _))).mono ?_
  rintro e w1 ⟨rfl, h1⟩
  rw [show fitsV 2 2 [x, y] = true by simp [fitsV, hx, hy]]
  have hF : Fut w w1 := (Fut.alloc _ _).trans h1
  have x1' := hF.cell x1
  have y1' := hF.cell y1
  have hsz : w.heap.size < w1.heap.size := by have := h1.size; simp at this; omega
  have c1_0_0 : w1.cell? ⟨w.heap.size, 0, none⟩ = some (.int .i8 0) := h1.cell (by go_simp)
  have c1_0_1 : w1.cell? ⟨w.heap.size, 1, none⟩ = some (.int .i64 0) := h1.cell (by go_simp)
  have c1_0_2 : w1.cell? ⟨w.heap.size, 2, none⟩ = some (.string ⟨#[]⟩) := h1.cell (by go_simp)
  have z1_0 : w1.frozen? ⟨w.heap.size, 0, none⟩ = false := h1.free (by simp) (by go_simp)
  have z1_1 : w1.frozen? ⟨w.heap.size, 1, none⟩ = false := h1.free (by simp) (by go_simp)
  have z1_2 : w1.frozen? ⟨w.heap.size, 2, none⟩ = false := h1.free (by simp) (by go_simp)
  go_wp2
  refine wp_graph 9 [.d, .d, .d, .d, .d, .d, .d, .d, .d] (by kernel_rfl) (by kernel_rfl) (by kernel_rfl) ?_
  simp only [List.take_succ_cons, List.take_zero, List.drop_succ_cons, List.drop_zero, Exs]
  iterate 9 apply Exists.intro
  apply Run.valG (wanted_none rfl _)
  · intro w1 h1 hk
    have cx_0_0 : w1.cell? ⟨w.heap.size, 0, none⟩ = some (.int .i8 0) := Fut.cell h1 (by first | exact c1_0_0 | go_simp)
    have cx_0_1 : w1.cell? ⟨w.heap.size, 1, none⟩ = some (.int .i64 0) := Fut.cell h1 (by first | exact c1_0_1 | go_simp)
    have cx_0_2 : w1.cell? ⟨w.heap.size, 2, none⟩ = some (.string ⟨#[]⟩) := Fut.cell h1 (by first | exact c1_0_2 | go_simp)
    have x1w := h1.cell x1'; have y1w := h1.cell y1'
    go_simp; rfl
  simp only [Act.put, List.setIfInBounds_toArray, List.set_cons_succ, List.set_cons_zero, List.nil_append, List.cons_append]
  apply Run.valG (wanted_none rfl _)
  · intro w1 h1 hk
    have cx_0_0 : w1.cell? ⟨w.heap.size, 0, none⟩ = some (.int .i8 0) := Fut.cell h1 (by first | exact c1_0_0 | go_simp)
    have cx_0_1 : w1.cell? ⟨w.heap.size, 1, none⟩ = some (.int .i64 0) := Fut.cell h1 (by first | exact c1_0_1 | go_simp)
    have cx_0_2 : w1.cell? ⟨w.heap.size, 2, none⟩ = some (.string ⟨#[]⟩) := Fut.cell h1 (by first | exact c1_0_2 | go_simp)
    have x1w := h1.cell x1'; have y1w := h1.cell y1'
    go_simp; rfl
  simp only [Act.put, List.setIfInBounds_toArray, List.set_cons_succ, List.set_cons_zero, List.nil_append, List.cons_append]
  apply Run.valG (wanted_none rfl _)
  · intro w1 h1 hk
    have cx_0_0 : w1.cell? ⟨w.heap.size, 0, none⟩ = some (.int .i8 0) := Fut.cell h1 (by first | exact c1_0_0 | go_simp)
    have cx_0_1 : w1.cell? ⟨w.heap.size, 1, none⟩ = some (.int .i64 0) := Fut.cell h1 (by first | exact c1_0_1 | go_simp)
    have cx_0_2 : w1.cell? ⟨w.heap.size, 2, none⟩ = some (.string ⟨#[]⟩) := Fut.cell h1 (by first | exact c1_0_2 | go_simp)
    have x1w := h1.cell x1'; have y1w := h1.cell y1'
    go_simp; rfl
  simp only [Act.put, List.setIfInBounds_toArray, List.set_cons_succ, List.set_cons_zero, List.nil_append, List.cons_append]
  apply Run.valG (wanted_none rfl _)
  · intro w1 h1 hk
    have cx_0_0 : w1.cell? ⟨w.heap.size, 0, none⟩ = some (.int .i8 0) := Fut.cell h1 (by first | exact c1_0_0 | go_simp)
    have cx_0_1 : w1.cell? ⟨w.heap.size, 1, none⟩ = some (.int .i64 0) := Fut.cell h1 (by first | exact c1_0_1 | go_simp)
    have cx_0_2 : w1.cell? ⟨w.heap.size, 2, none⟩ = some (.string ⟨#[]⟩) := Fut.cell h1 (by first | exact c1_0_2 | go_simp)
    have x1w := h1.cell x1'; have y1w := h1.cell y1'
    go_simp; rfl
  simp only [Act.put, List.setIfInBounds_toArray, List.set_cons_succ, List.set_cons_zero, List.nil_append, List.cons_append]
  apply Run.valG (wanted_none rfl _)
  · intro w1 h1 hk
    have cx_0_0 : w1.cell? ⟨w.heap.size, 0, none⟩ = some (.int .i8 0) := Fut.cell h1 (by first | exact c1_0_0 | go_simp)
    have cx_0_1 : w1.cell? ⟨w.heap.size, 1, none⟩ = some (.int .i64 0) := Fut.cell h1 (by first | exact c1_0_1 | go_simp)
    have cx_0_2 : w1.cell? ⟨w.heap.size, 2, none⟩ = some (.string ⟨#[]⟩) := Fut.cell h1 (by first | exact c1_0_2 | go_simp)
    have x1w := h1.cell x1'; have y1w := h1.cell y1'
    go_simp; rfl
  simp only [Act.put, List.setIfInBounds_toArray, List.set_cons_succ, List.set_cons_zero, List.nil_append, List.cons_append]
  apply Run.valG (wanted_none rfl _)
  · intro w1 h1 hk
    have cx_0_0 : w1.cell? ⟨w.heap.size, 0, none⟩ = some (.int .i8 0) := Fut.cell h1 (by first | exact c1_0_0 | go_simp)
    have cx_0_1 : w1.cell? ⟨w.heap.size, 1, none⟩ = some (.int .i64 0) := Fut.cell h1 (by first | exact c1_0_1 | go_simp)
    have cx_0_2 : w1.cell? ⟨w.heap.size, 2, none⟩ = some (.string ⟨#[]⟩) := Fut.cell h1 (by first | exact c1_0_2 | go_simp)
    have x1w := h1.cell x1'; have y1w := h1.cell y1'
    go_simp; rfl
  simp only [Act.put, List.setIfInBounds_toArray, List.set_cons_succ, List.set_cons_zero, List.nil_append, List.cons_append]
  apply Run.valG (wanted_none rfl _)
  · intro w1 h1 hk
    have cx_0_0 : w1.cell? ⟨w.heap.size, 0, none⟩ = some (.int .i8 0) := Fut.cell h1 (by first | exact c1_0_0 | go_simp)
    have cx_0_1 : w1.cell? ⟨w.heap.size, 1, none⟩ = some (.int .i64 0) := Fut.cell h1 (by first | exact c1_0_1 | go_simp)
    have cx_0_2 : w1.cell? ⟨w.heap.size, 2, none⟩ = some (.string ⟨#[]⟩) := Fut.cell h1 (by first | exact c1_0_2 | go_simp)
    have x1w := h1.cell x1'; have y1w := h1.cell y1'
    go_simp; rfl
  simp only [Act.put, List.setIfInBounds_toArray, List.set_cons_succ, List.set_cons_zero, List.nil_append, List.cons_append]
  apply Run.valG (wanted_none rfl _)
  · intro w1 h1 hk
    have cx_0_0 : w1.cell? ⟨w.heap.size, 0, none⟩ = some (.int .i8 0) := Fut.cell h1 (by first | exact c1_0_0 | go_simp)
    have cx_0_1 : w1.cell? ⟨w.heap.size, 1, none⟩ = some (.int .i64 0) := Fut.cell h1 (by first | exact c1_0_1 | go_simp)
    have cx_0_2 : w1.cell? ⟨w.heap.size, 2, none⟩ = some (.string ⟨#[]⟩) := Fut.cell h1 (by first | exact c1_0_2 | go_simp)
    have x1w := h1.cell x1'; have y1w := h1.cell y1'
    go_simp; rfl
  simp only [Act.put, List.setIfInBounds_toArray, List.set_cons_succ, List.set_cons_zero, List.nil_append, List.cons_append]
  apply Run.valG (wanted_none rfl _)
  · intro w1 h1 hk
    have cx_0_0 : w1.cell? ⟨w.heap.size, 0, none⟩ = some (.int .i8 0) := Fut.cell h1 (by first | exact c1_0_0 | go_simp)
    have cx_0_1 : w1.cell? ⟨w.heap.size, 1, none⟩ = some (.int .i64 0) := Fut.cell h1 (by first | exact c1_0_1 | go_simp)
    have cx_0_2 : w1.cell? ⟨w.heap.size, 2, none⟩ = some (.string ⟨#[]⟩) := Fut.cell h1 (by first | exact c1_0_2 | go_simp)
    have x1w := h1.cell x1'; have y1w := h1.cell y1'
    go_simp; rw [if_neg (by omega)]
  simp only [Act.put, List.setIfInBounds_toArray, List.set_cons_succ, List.set_cons_zero, List.nil_append, List.cons_append]
  apply Run.done
  intro w2 h2 hk
  have c2_0_0 : w2.cell? ⟨w.heap.size, 0, none⟩ = some (.int .i8 0) := Fut.cell h2 (by first | exact c1_0_0 | go_simp)
  have c2_0_1 : w2.cell? ⟨w.heap.size, 1, none⟩ = some (.int .i64 0) := Fut.cell h2 (by first | exact c1_0_1 | go_simp)
  have c2_0_2 : w2.cell? ⟨w.heap.size, 2, none⟩ = some (.string ⟨#[]⟩) := Fut.cell h2 (by first | exact c1_0_2 | go_simp)
  clear hk
  have z2_0 : w2.frozen? ⟨w.heap.size, 0, none⟩ = false := h2.free hsz z1_0
  have z2_1 : w2.frozen? ⟨w.heap.size, 1, none⟩ = false := h2.free hsz z1_1
  have z2_2 : w2.frozen? ⟨w.heap.size, 2, none⟩ = false := h2.free hsz z1_2
  clear hs
  obtain ⟨q, hq⟩ : ∃ q, x.s ++ y.s = q := ⟨_, rfl⟩
  rw [hq] at h200 ⊢
  have d : ¬ (200 : Int) < q.size := (by omega); have d2 : ¬ 200 < q.size := (by omega)
  go_wp2
  exact bodyPost_ret (v := pairR (txtV q, true)) (by simp [results, Tryd.results8, go_sem, pairR, pairV, txtV, noV, V.val, z2_0, z2_1, z2_2, c2_0_0, c2_0_1, c2_0_2]) rfl ⟨by first | rfl | rw [hq], (((hF.trans ((Fut.drew _).trans h2)).set (Nat.le_refl _) _).set (Nat.le_refl _) _).set (Nat.le_refl _) _⟩
set_option maxHeartbeats 800000 in
theorem rarith7n (a : Value) (x y : V) (w : World) (ha : Vals w a [x, y]) (hx : good 2 x = true) (hy : good 2 y = true) (hs : x.s.size + y.s.size ≤ 140737488351232) (h200 : ¬ (x.s ++ y.s).size ≤ 200) :
    Calls Tryd.prog 8 #[.int .i8 7, a] w fun e w' => e = .returned (pairR (noV, false)) ∧ Fut w w' := by
  obtain ⟨A, cap, rfl, hl, hm⟩ := SlRep.form ha
  obtain ⟨b, off, rfl, _, _, _, x1⟩ := Vals.at_ ha (k := 0) (by simp)
  obtain ⟨b', off', he, _, _, _, y1⟩ := Vals.at_ ha (k := 1) (by simp)
  injection he with he
  injection he with he1 he2
  subst he1; subst he2
  simp only [List.getElem_cons_zero, List.getElem_cons_succ, Nat.zero_mul, Nat.one_mul, Nat.add_zero, List.length_cons, List.length_nil, Nat.zero_add] at ha x1 y1 hl
  go_enter Tryd.func8, Tryd.ntmps8
  go_wp2_with fail
  refine (rkinds_any 2 2 _ [x, y] _ (ha.fut RV.stays (Fut.alloc _ _))).mono ?_
  rintro e w1 ⟨rfl, h1⟩
  rw [show fitsV 2 2 [x, y] = true by simp [fitsV, hx, hy]]
  have hF : Fut w w1 := (Fut.alloc _ _).trans h1
  have x1' := hF.cell x1
  have y1' := hF.cell y1
  have hsz : w.heap.size < w1.heap.size := by have := h1.size; simp at this; omega
  have c1_0_0 : w1.cell? ⟨w.heap.size, 0, none⟩ = some (.int .i8 0) := h1.cell (by go_simp)
  have c1_0_1 : w1.cell? ⟨w.heap.size, 1, none⟩ = some (.int .i64 0) := h1.cell (by go_simp)
  have c1_0_2 : w1.cell? ⟨w.heap.size, 2, none⟩ = some (.string ⟨#[]⟩) := h1.cell (by go_simp)
  have z1_0 : w1.frozen? ⟨w.heap.size, 0, none⟩ = false := h1.free (by simp) (by go_simp)
  have z1_1 : w1.frozen? ⟨w.heap.size, 1, none⟩ = false := h1.free (by simp) (by go_simp)
  have z1_2 : w1.frozen? ⟨w.heap.size, 2, none⟩ = false := h1.free (by simp) (by go_simp)
  go_wp2
  refine wp_graph 9 [.d, .d, .d, .d, .d, .d, .d, .d, .d] (by kernel_rfl) (by kernel_rfl) (by kernel_rfl) ?_
  simp only [List.take_succ_cons, List.take_zero, List.drop_succ_cons, List.drop_zero, Exs]
  iterate 9 apply Exists.intro
  apply Run.valG (wanted_none rfl _)
  · intro w1 h1 hk
    have cx_0_0 : w1.cell? ⟨w.heap.size, 0, none⟩ = some (.int .i8 0) := Fut.cell h1 (by first | exact c1_0_0 | go_simp)
    have cx_0_1 : w1.cell? ⟨w.heap.size, 1, none⟩ = some (.int .i64 0) := Fut.cell h1 (by first | exact c1_0_1 | go_simp)
    have cx_0_2 : w1.cell? ⟨w.heap.size, 2, none⟩ = some (.string ⟨#[]⟩) := Fut.cell h1 (by first | exact c1_0_2 | go_simp)
    have x1w := h1.cell x1'; have y1w := h1.cell y1'
    go_simp; rfl
  simp only [Act.put, List.setIfInBounds_toArray, List.set_cons_succ, List.set_cons_zero, List.nil_append, List.cons_append]
  apply Run.valG (wanted_none rfl _)
  · intro w1 h1 hk
    have cx_0_0 : w1.cell? ⟨w.heap.size, 0, none⟩ = some (.int .i8 0) := Fut.cell h1 (by first | exact c1_0_0 | go_simp)
    have cx_0_1 : w1.cell? ⟨w.heap.size, 1, none⟩ = some (.int .i64 0) := Fut.cell h1 (by first | exact c1_0_1 | go_simp)
    have cx_0_2 : w1.cell? ⟨w.heap.size, 2, none⟩ = some (.string ⟨#[]⟩) := Fut.cell h1 (by first | exact c1_0_2 | go_simp)
    have x1w := h1.cell x1'; have y1w := h1.cell y1'
    go_simp; rfl
  simp only [Act.put, List.setIfInBounds_toArray, List.set_cons_succ, List.set_cons_zero, List.nil_append, List.cons_append]
  apply Run.valG (wanted_none rfl _)
  · intro w1 h1 hk
    have cx_0_0 : w1.cell? ⟨w.heap.size, 0, none⟩ = some (.int .i8 0) := Fut.cell h1 (by first | exact c1_0_0 | go_simp)
    have cx_0_1 : w1.cell? ⟨w.heap.size, 1, none⟩ = some (.int .i64 0) := Fut.cell h1 (by first | exact c1_0_1 | go_simp)
    have cx_0_2 : w1.cell? ⟨w.heap.size, 2, none⟩ = some (.string ⟨#[]⟩) := Fut.cell h1 (by first | exact c1_0_2 | go_simp)
    have x1w := h1.cell x1'; have y1w := h1.cell y1'
    go_simp; rfl
  simp only [Act.put, List.setIfInBounds_toArray, List.set_cons_succ, List.set_cons_zero, List.nil_append, List.cons_append]
  apply Run.valG (wanted_none rfl _)
  · intro w1 h1 hk
    have cx_0_0 : w1.cell? ⟨w.heap.size, 0, none⟩ = some (.int .i8 0) := Fut.cell h1 (by first | exact c1_0_0 | go_simp)
    have cx_0_1 : w1.cell? ⟨w.heap.size, 1, none⟩ = some (.int .i64 0) := Fut.cell h1 (by first | exact c1_0_1 | go_simp)
    have cx_0_2 : w1.cell? ⟨w.heap.size, 2, none⟩ = some (.string ⟨#[]⟩) := Fut.cell h1 (by first | exact c1_0_2 | go_simp)
    have x1w := h1.cell x1'; have y1w := h1.cell y1'
    go_simp; rfl
  simp only [Act.put, List.setIfInBounds_toArray, List.set_cons_succ, List.set_cons_zero, List.nil_append, List.cons_append]
  apply Run.valG (wanted_none rfl _)
  · intro w1 h1 hk
    have cx_0_0 : w1.cell? ⟨w.heap.size, 0, none⟩ = some (.int .i8 0) := Fut.cell h1 (by first | exact c1_0_0 | go_simp)
    have cx_0_1 : w1.cell? ⟨w.heap.size, 1, none⟩ = some (.int .i64 0) := Fut.cell h1 (by first | exact c1_0_1 | go_simp)
    have cx_0_2 : w1.cell? ⟨w.heap.size, 2, none⟩ = some (.string ⟨#[]⟩) := Fut.cell h1 (by first | exact c1_0_2 | go_simp)
    have x1w := h1.cell x1'; have y1w := h1.cell y1'
    go_simp; rfl
  simp only [Act.put, List.setIfInBounds_toArray, List.set_cons_succ, List.set_cons_zero, List.nil_append, List.cons_append]
  apply Run.valG (wanted_none rfl _)
  · intro w1 h1 hk
    have cx_0_0 : w1.cell? ⟨w.heap.size, 0, none⟩ = some (.int .i8 0) := Fut.cell h1 (by first | exact c1_0_0 | go_simp)
    have cx_0_1 : w1.cell? ⟨w.heap.size, 1, none⟩ = some (.int .i64 0) := Fut.cell h1 (by first | exact c1_0_1 | go_simp)
    have cx_0_2 : w1.cell? ⟨w.heap.size, 2, none⟩ = some (.string ⟨#[]⟩) := Fut.cell h1 (by first | exact c1_0_2 | go_simp)
    have x1w := h1.cell x1'; have y1w := h1.cell y1'
    go_simp; rfl
  simp only [Act.put, List.setIfInBounds_toArray, List.set_cons_succ, List.set_cons_zero, List.nil_append, List.cons_append]
  apply Run.valG (wanted_none rfl _)
  · intro w1 h1 hk
    have cx_0_0 : w1.cell? ⟨w.heap.size, 0, none⟩ = some (.int .i8 0) := Fut.cell h1 (by first | exact c1_0_0 | go_simp)
    have cx_0_1 : w1.cell? ⟨w.heap.size, 1, none⟩ = some (.int .i64 0) := Fut.cell h1 (by first | exact c1_0_1 | go_simp)
    have cx_0_2 : w1.cell? ⟨w.heap.size, 2, none⟩ = some (.string ⟨#[]⟩) := Fut.cell h1 (by first | exact c1_0_2 | go_simp)
    have x1w := h1.cell x1'; have y1w := h1.cell y1'
    go_simp; rfl
  simp only [Act.put, List.setIfInBounds_toArray, List.set_cons_succ, List.set_cons_zero, List.nil_append, List.cons_append]
  apply Run.valG (wanted_none rfl _)
  · intro w1 h1 hk
    have cx_0_0 : w1.cell? ⟨w.heap.size, 0, none⟩ = some (.int .i8 0) := Fut.cell h1 (by first | exact c1_0_0 | go_simp)
    have cx_0_1 : w1.cell? ⟨w.heap.size, 1, none⟩ = some (.int .i64 0) := Fut.cell h1 (by first | exact c1_0_1 | go_simp)
    have cx_0_2 : w1.cell? ⟨w.heap.size, 2, none⟩ = some (.string ⟨#[]⟩) := Fut.cell h1 (by first | exact c1_0_2 | go_simp)
    have x1w := h1.cell x1'; have y1w := h1.cell y1'
    go_simp; rfl
  simp only [Act.put, List.setIfInBounds_toArray, List.set_cons_succ, List.set_cons_zero, List.nil_append, List.cons_append]
  apply Run.valG (wanted_none rfl _)
  · intro w1 h1 hk
    have cx_0_0 : w1.cell? ⟨w.heap.size, 0, none⟩ = some (.int .i8 0) := Fut.cell h1 (by first | exact c1_0_0 | go_simp)
    have cx_0_1 : w1.cell? ⟨w.heap.size, 1, none⟩ = some (.int .i64 0) := Fut.cell h1 (by first | exact c1_0_1 | go_simp)
    have cx_0_2 : w1.cell? ⟨w.heap.size, 2, none⟩ = some (.string ⟨#[]⟩) := Fut.cell h1 (by first | exact c1_0_2 | go_simp)
    have x1w := h1.cell x1'; have y1w := h1.cell y1'
    go_simp; rw [if_neg (by omega)]
  simp only [Act.put, List.setIfInBounds_toArray, List.set_cons_succ, List.set_cons_zero, List.nil_append, List.cons_append]
  apply Run.done
  intro w2 h2 hk
  have c2_0_0 : w2.cell? ⟨w.heap.size, 0, none⟩ = some (.int .i8 0) := Fut.cell h2 (by first | exact c1_0_0 | go_simp)
  have c2_0_1 : w2.cell? ⟨w.heap.size, 1, none⟩ = some (.int .i64 0) := Fut.cell h2 (by first | exact c1_0_1 | go_simp)
  have c2_0_2 : w2.cell? ⟨w.heap.size, 2, none⟩ = some (.string ⟨#[]⟩) := Fut.cell h2 (by first | exact c1_0_2 | go_simp)
  clear hk
  have z2_0 : w2.frozen? ⟨w.heap.size, 0, none⟩ = false := h2.free hsz z1_0
  have z2_1 : w2.frozen? ⟨w.heap.size, 1, none⟩ = false := h2.free hsz z1_1
  have z2_2 : w2.frozen? ⟨w.heap.size, 2, none⟩ = false := h2.free hsz z1_2
  clear hs
  obtain ⟨q, hq⟩ : ∃ q, x.s ++ y.s = q := ⟨_, rfl⟩
  rw [hq] at h200 ⊢
  have d : (200 : Int) < q.size := (by omega); have d2 : 200 < q.size := (by omega)
  go_wp2
  exact bodyPost_ret (v := pairR (noV, false)) (by simp [results, Tryd.results8, go_sem, pairR, pairV, txtV, noV, V.val, z2_0, z2_1, z2_2, c2_0_0, c2_0_1, c2_0_2]) rfl ⟨by first | rfl | rw [hq], (((hF.trans ((Fut.drew _).trans h2)).set (Nat.le_refl _) _).set (Nat.le_refl _) _).set (Nat.le_refl _) _⟩

set_option maxHeartbeats 800000 in
theorem rarith810 (O : Int) (a : Value) (s : ByteArray) (w : World) (hO : 8 ≤ O ∧ O ≤ 10) (ha : Vals w a [txtV s]) (hs : s.size ≤ 200) (hx : good 2 (txtV s) = true) :
    Calls Tryd.prog 8 #[.int .i8 O, a] w fun e w' => e = .returned (pairR (textsV O s)) ∧ Fut w w' := by
  have HN := Lib.hid (fun w => rtexts_any O s w hO hs)
  obtain ⟨A, cap, rfl, hl, hm⟩ := SlRep.form ha
  obtain ⟨b, off, rfl, _, _, _, x1⟩ := Vals.at_ ha (k := 0) (by simp)
  obtain ⟨h8, h10⟩ := hO
  have e1 : (O == 1) = false := by simp <;> omega
  have e2 : 2 ≤ O := by omega
  have e6 : ¬ O ≤ 6 := by omega
  have e7 : (O == 7) = false := by simp <;> omega
  simp only [List.getElem_cons_zero, Nat.zero_mul, Nat.add_zero, List.length_cons, List.length_nil, Nat.zero_add, txtV] at x1
  have HA := Lib.hid ha
  clear ha
  simp only [List.length_cons, List.length_nil, Nat.zero_add] at HA ⊢
  obtain ⟨r, hr⟩ : ∃ r, textsV O s = r := ⟨_, rfl⟩
  rw [hr] at HN ⊢
  obtain ⟨⟨k, n, t⟩, q⟩ := r
  clear hr
  simp only [pairR, pairV, V.val] at HN ⊢
  go_enter Tryd.func8, Tryd.ntmps8
  go_wp2_with fail
  refine (rkinds_any 1 2 _ [txtV s] _ (HA.out.fut RV.stays (Fut.alloc _ _))).mono ?_
  rintro e w1 ⟨rfl, h1⟩
  rw [show fitsV 1 2 [txtV s] = true by simp [fitsV, hx]]
  have hF : Fut w w1 := (Fut.alloc _ _).trans h1
  have x1' := hF.cell x1
  have hsz : w.heap.size < w1.heap.size := by have := h1.size; simp at this; omega
  have c1_0_0 : w1.cell? ⟨w.heap.size, 0, none⟩ = some (.int .i8 0) := h1.cell (by go_simp)
  have c1_0_1 : w1.cell? ⟨w.heap.size, 1, none⟩ = some (.int .i64 0) := h1.cell (by go_simp)
  have c1_0_2 : w1.cell? ⟨w.heap.size, 2, none⟩ = some (.string ⟨#[]⟩) := h1.cell (by go_simp)
  have z1_0 : w1.frozen? ⟨w.heap.size, 0, none⟩ = false := h1.free (by simp) (by go_simp)
  have z1_1 : w1.frozen? ⟨w.heap.size, 1, none⟩ = false := h1.free (by simp) (by go_simp)
  have z1_2 : w1.frozen? ⟨w.heap.size, 2, none⟩ = false := h1.free (by simp) (by go_simp)
  go_wp2_with fail
  refine (HN.out _).mono ?_
  rintro e w2 ⟨rfl, h2⟩
  have c2_0_0 := h2.cell c1_0_0
  have c2_0_1 := h2.cell c1_0_1
  have c2_0_2 := h2.cell c1_0_2
  have z2_0 : w2.frozen? ⟨w.heap.size, 0, none⟩ = false := h2.free hsz z1_0
  have z2_1 : w2.frozen? ⟨w.heap.size, 1, none⟩ = false := h2.free hsz z1_1
  have z2_2 : w2.frozen? ⟨w.heap.size, 2, none⟩ = false := h2.free hsz z1_2
  go_wp2
  exact bodyPost_ret (v := .tuple #[.agg #[.int .i8 k, .int .i64 n, .string t], .bool q]) (by simp [results, Tryd.results8, go_sem, z2_0, z2_1, z2_2, c2_0_0, c2_0_1, c2_0_2]) rfl ⟨rfl, (((hF.trans h2).set (Nat.le_refl _) _).set (Nat.le_refl _) _).set (Nat.le_refl _) _⟩

theorem rarith_all (O : Int) (a : Value) (xs : List V) (w : World) (ha : Vals w a xs) :
    Calls Tryd.prog 8 #[.int .i8 O, a] w fun e w' => e = .returned (pairR (arithV O xs)) ∧ Fut w w' := by
  rcases (by omega : O < 1 ∨ O = 1 ∨ (2 ≤ O ∧ O ≤ 6) ∨ O = 7 ∨ (8 ≤ O ∧ O ≤ 10) ∨ 11 ≤ O) with h | rfl | h | rfl | h | h
  · rw [noFit (by unfold arithV; rw [if_neg (by omega), if_neg (by omega), if_neg (by omega), if_neg (by omega)])]
    exact rarith_low O a w h
  · cases hx : fitsV 1 1 xs with
    | true =>
      obtain ⟨x, rfl, hg⟩ := fits_one hx
      rw [show arithV 1 [x] = (numV (wrap64 (-x.n)), true) by unfold arithV; rw [if_pos ⟨rfl, hx⟩]; rfl]
      exact rarith1 a x w ha hg
    | false =>
      rw [noFit (by unfold arithV; rw [if_neg (by simp [hx]), if_neg (by omega), if_neg (by omega), if_neg (by omega)])]
      exact rarith_no1 1 a xs w rfl ha hx
  · cases hx : fitsV 2 1 xs with
    | true =>
      obtain ⟨x, y, rfl, hg, hg'⟩ := fits_two hx
      rw [show arithV O [x, y] = numsV O x.n y.n by unfold arithV; rw [if_neg (by omega), if_pos ⟨h, hx⟩]; rfl]
      exact rarith26 O a x y w h ha hg hg'
    | false =>
      rw [noFit (by unfold arithV; rw [if_neg (by omega), if_neg (by simp [hx]), if_neg (by omega), if_neg (by omega)])]
      exact rarith_no2 O a xs w h ha hx
  · cases hx : fitsV 2 2 xs with
    | true =>
      obtain ⟨x, y, rfl, hg, hg'⟩ := fits_two hx
      rw [show arithV 7 [x, y] = catV x.s y.s by unfold arithV; rw [if_neg (by omega), if_neg (by omega), if_pos ⟨rfl, hx⟩]; rfl]
      have h1 := (good_text hg).2
      have h2 := (good_text hg').2
      by_cases h0 : (x.s ++ y.s).size ≤ 200
      · rw [show catV x.s y.s = (txtV (x.s ++ y.s), true) by unfold catV; rw [if_pos h0]]
        exact rarith7y a x y w ha hg hg' (by omega) h0
      · rw [show catV x.s y.s = (noV, false) by unfold catV; rw [if_neg h0]]
        exact rarith7n a x y w ha hg hg' (by omega) h0
    | false =>
      rw [noFit (by unfold arithV; rw [if_neg (by omega), if_neg (by omega), if_neg (by simp [hx]), if_neg (by omega)])]
      exact rarith_no3 7 a xs w rfl ha hx
  · cases hx : fitsV 1 2 xs with
    | true =>
      obtain ⟨x, rfl, hg⟩ := fits_one hx
      rw [show arithV O [x] = textsV O x.s by unfold arithV; rw [if_neg (by omega), if_neg (by omega), if_neg (by omega), if_pos ⟨h, hx⟩]; rfl]
      obtain ⟨h1, h2⟩ := good_text hg
      rw [h1] at ha hg
      exact rarith810 O a x.s w h ha h2 hg
    | false =>
      rw [noFit (by unfold arithV; rw [if_neg (by omega), if_neg (by omega), if_neg (by omega), if_neg (by simp [hx])])]
      exact rarith_no4 O a xs w h ha hx
  · rw [noFit (by unfold arithV; rw [if_neg (by omega), if_neg (by omega), if_neg (by omega), if_neg (by omega)])]
    exact rarith_high O a w h
end Go.Proofs.YtlihkmldclocoaaDoor
