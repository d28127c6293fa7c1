/- The law ValueColumns: the walk, one case. -/
import Derived.Test.YtailfcodbibnjaaDoorCols0
namespace Go.Proofs.YtailfcodbibnjaaDoor
open Go.RowKit
set_option linter.unusedSimpArgs false
set_option linter.unusedVariables false

set_option maxHeartbeats 4000000 in
set_option maxRecDepth 100000 in
theorem colsGZ (x y z : Fc) (A B C : Option Addr) (ca cb cc : Nat) (w : World) (hT : Takes w) (hx : ValsA w (.slice A x.a.length ca) x.a) (hy : ValsA w (.slice B y.a.length cb) y.a) (hz : ValsA w (.slice C z.a.length cc) z.a)
    (hp : x.p.size ≤ 140737488351232 ∧ y.p.size ≤ 140737488351232 ∧ z.p.size ≤ 140737488351232) (hb : ¬ 1048576 < parts [x, y, z]) (q1 : Op.bytesLess x.p.toList y.p.toList = false) (q2 : (x.p.toList == y.p.toList) = false) (q3 : True) (v : V) (e0 : z.a[0]? = some v) (e1 : cmpV v (numV 0) = 0) :
    Calls Tryd.prog 6 #[.agg #[.string x.p, .slice A x.a.length ca], .agg #[.string y.p, .slice B y.a.length cb], .agg #[.string z.p, .slice C z.a.length cc]] w fun e w' => e = .returned (.bool true) ∧ Fut w w' := by
  have hf3 : ∀ X Y Z, Fut w (((w.alloc X).alloc Y).alloc Z) := fun X Y Z => ((Fut.alloc _ _).trans (Fut.alloc _ _)).trans (Fut.alloc _ _)
  have hf4 : ∀ X Y Z U, Fut w ((((w.alloc X).alloc Y).alloc Z).alloc U).drew := fun X Y Z U => ((hf3 X Y Z).trans (Fut.alloc _ _)).trans (Fut.drew _)
  have hln : x.a.length ≤ 1048576 ∧ y.a.length ≤ 1048576 ∧ z.a.length ≤ 1048576 := by simp [parts] at hb; omega
  have HL := Lib.hid hln
  have hbd : decide (1048576 < parts [x, y, z]) = false := decide_eq_false hb
  have HX := Lib.hid hx; have HY := Lib.hid hy; have HZ := Lib.hid hz; have HT := Lib.hid hT; have HP := Lib.hid hp
  have lz : (z.a.length : Int) ≤ 1048576 := by omega
  have e2 : 0 < z.a.length := (List.getElem?_eq_some_iff.1 e0).1
  have ez : decide (0 < (z.a.length : Int)) = true := decide_eq_true (by omega)
  have ez' : decide (0 < z.a.length) = true := decide_eq_true e2
  have E2 := Lib.hid e2; clear e2
  have E0 := Lib.hid e0; have Q3 := Lib.hid q3; clear q3
  have E1 := Lib.hid e1; clear e1
  clear e0 hx hy hz hT hp hb hln
  go_enter Tryd.func6, Tryd.ntmps6
  go_wp2_with fail
  refine (beyondF_any _ [x, y, z] _ ?_).mono ?_
  · exact facs_three _ _ x y z _ _ _ (by simp) (HX.out.fut RV.stays (hf3 _ _ _)) (HY.out.fut RV.stays (hf3 _ _ _)) (HZ.out.fut RV.stays (hf3 _ _ _)) HP.out.1 HP.out.2.1 HP.out.2.2
  rintro e w1 ⟨rfl, rfl⟩
  rw [hbd]
  go_wp2
  refine wp_graph 33 [.d, .d, .d, .d, .d, .d, .d, .d, .d, .d, .d, .d, .d, .d, .d, .d, .d, .d, .d, .d, .d, .d, .d, .d, .d, .d, .d, .d, .d, .d, .d, .d, .d] (by kernel_rfl) (by kernel_rfl) (by kernel_rfl) ?_
  simp only [List.take_succ_cons, List.take_zero, List.drop_succ_cons, List.drop_zero, Exs]
  iterate 33 apply Exists.intro
  apply Run.call (wanted_none rfl _) (fun _ _ => by go_simp; exact ⟨rfl, rfl⟩)
  · intro w1 h1 hk
    have cx_0_0 : w1.cell? ⟨w.heap.size, 0, none⟩ = some (.string x.p) := Fut.cell h1 (by first | exact c0_0_0 | go_simp)
    have cx_0_1 : w1.cell? ⟨w.heap.size, 1, none⟩ = some (.slice A x.a.length ca) := Fut.cell h1 (by first | exact c0_0_1 | go_simp)
    have cx_1_0 : w1.cell? ⟨w.heap.size + 1, 0, none⟩ = some (.string y.p) := Fut.cell h1 (by first | exact c0_1_0 | go_simp)
    have cx_1_1 : w1.cell? ⟨w.heap.size + 1, 1, none⟩ = some (.slice B y.a.length cb) := Fut.cell h1 (by first | exact c0_1_1 | go_simp)
    have cx_2_0 : w1.cell? ⟨w.heap.size + 2, 0, none⟩ = some (.string z.p) := Fut.cell h1 (by first | exact c0_2_0 | go_simp)
    have cx_2_1 : w1.cell? ⟨w.heap.size + 2, 1, none⟩ = some (.slice C z.a.length cc) := Fut.cell h1 (by first | exact c0_2_1 | go_simp)
    exact lives_any _ (HT.out.fut ((hf4 _ _ _ _).trans h1))
  simp only [Act.put, List.setIfInBounds_toArray, List.set_cons_succ, List.set_cons_zero, List.nil_append, List.cons_append]
  apply Run.valG (wanted_none rfl _)
  · intro w1 h1 hk
    have cx_0_0 : w1.cell? ⟨w.heap.size, 0, none⟩ = some (.string x.p) := Fut.cell h1 (by first | exact c0_0_0 | go_simp)
    have cx_0_1 : w1.cell? ⟨w.heap.size, 1, none⟩ = some (.slice A x.a.length ca) := Fut.cell h1 (by first | exact c0_0_1 | go_simp)
    have cx_1_0 : w1.cell? ⟨w.heap.size + 1, 0, none⟩ = some (.string y.p) := Fut.cell h1 (by first | exact c0_1_0 | go_simp)
    have cx_1_1 : w1.cell? ⟨w.heap.size + 1, 1, none⟩ = some (.slice B y.a.length cb) := Fut.cell h1 (by first | exact c0_1_1 | go_simp)
    have cx_2_0 : w1.cell? ⟨w.heap.size + 2, 0, none⟩ = some (.string z.p) := Fut.cell h1 (by first | exact c0_2_0 | go_simp)
    have cx_2_1 : w1.cell? ⟨w.heap.size + 2, 1, none⟩ = some (.slice C z.a.length cc) := Fut.cell h1 (by first | exact c0_2_1 | go_simp)
    go_simp; rfl
  simp only [Act.put, List.setIfInBounds_toArray, List.set_cons_succ, List.set_cons_zero, List.nil_append, List.cons_append]
  apply Run.valG (wanted_none rfl _)
  · intro w1 h1 hk
    have cx_0_0 : w1.cell? ⟨w.heap.size, 0, none⟩ = some (.string x.p) := Fut.cell h1 (by first | exact c0_0_0 | go_simp)
    have cx_0_1 : w1.cell? ⟨w.heap.size, 1, none⟩ = some (.slice A x.a.length ca) := Fut.cell h1 (by first | exact c0_0_1 | go_simp)
    have cx_1_0 : w1.cell? ⟨w.heap.size + 1, 0, none⟩ = some (.string y.p) := Fut.cell h1 (by first | exact c0_1_0 | go_simp)
    have cx_1_1 : w1.cell? ⟨w.heap.size + 1, 1, none⟩ = some (.slice B y.a.length cb) := Fut.cell h1 (by first | exact c0_1_1 | go_simp)
    have cx_2_0 : w1.cell? ⟨w.heap.size + 2, 0, none⟩ = some (.string z.p) := Fut.cell h1 (by first | exact c0_2_0 | go_simp)
    have cx_2_1 : w1.cell? ⟨w.heap.size + 2, 1, none⟩ = some (.slice C z.a.length cc) := Fut.cell h1 (by first | exact c0_2_1 | go_simp)
    go_simp; rfl
  simp only [Act.put, List.setIfInBounds_toArray, List.set_cons_succ, List.set_cons_zero, List.nil_append, List.cons_append]
  apply Run.valG (by go_simp)
  · intro w1 h1 hk
    have cx_0_0 : w1.cell? ⟨w.heap.size, 0, none⟩ = some (.string x.p) := Fut.cell h1 (by first | exact c0_0_0 | go_simp)
    have cx_0_1 : w1.cell? ⟨w.heap.size, 1, none⟩ = some (.slice A x.a.length ca) := Fut.cell h1 (by first | exact c0_0_1 | go_simp)
    have cx_1_0 : w1.cell? ⟨w.heap.size + 1, 0, none⟩ = some (.string y.p) := Fut.cell h1 (by first | exact c0_1_0 | go_simp)
    have cx_1_1 : w1.cell? ⟨w.heap.size + 1, 1, none⟩ = some (.slice B y.a.length cb) := Fut.cell h1 (by first | exact c0_1_1 | go_simp)
    have cx_2_0 : w1.cell? ⟨w.heap.size + 2, 0, none⟩ = some (.string z.p) := Fut.cell h1 (by first | exact c0_2_0 | go_simp)
    have cx_2_1 : w1.cell? ⟨w.heap.size + 2, 1, none⟩ = some (.slice C z.a.length cc) := Fut.cell h1 (by first | exact c0_2_1 | go_simp)
    go_simp; rfl
  simp only [Act.put, List.setIfInBounds_toArray, List.set_cons_succ, List.set_cons_zero, List.nil_append, List.cons_append]
  apply Run.valG (by go_simp)
  · intro w1 h1 hk
    have cx_0_0 : w1.cell? ⟨w.heap.size, 0, none⟩ = some (.string x.p) := Fut.cell h1 (by first | exact c0_0_0 | go_simp)
    have cx_0_1 : w1.cell? ⟨w.heap.size, 1, none⟩ = some (.slice A x.a.length ca) := Fut.cell h1 (by first | exact c0_0_1 | go_simp)
    have cx_1_0 : w1.cell? ⟨w.heap.size + 1, 0, none⟩ = some (.string y.p) := Fut.cell h1 (by first | exact c0_1_0 | go_simp)
    have cx_1_1 : w1.cell? ⟨w.heap.size + 1, 1, none⟩ = some (.slice B y.a.length cb) := Fut.cell h1 (by first | exact c0_1_1 | go_simp)
    have cx_2_0 : w1.cell? ⟨w.heap.size + 2, 0, none⟩ = some (.string z.p) := Fut.cell h1 (by first | exact c0_2_0 | go_simp)
    have cx_2_1 : w1.cell? ⟨w.heap.size + 2, 1, none⟩ = some (.slice C z.a.length cc) := Fut.cell h1 (by first | exact c0_2_1 | go_simp)
    go_simp; rfl
  simp only [Act.put, List.setIfInBounds_toArray, List.set_cons_succ, List.set_cons_zero, List.nil_append, List.cons_append]
  apply Run.call (by go_simp) (fun _ _ => by go_simp; exact ⟨rfl, rfl⟩)
  · intro w1 h1 hk
    have cx_0_0 : w1.cell? ⟨w.heap.size, 0, none⟩ = some (.string x.p) := Fut.cell h1 (by first | exact c0_0_0 | go_simp)
    have cx_0_1 : w1.cell? ⟨w.heap.size, 1, none⟩ = some (.slice A x.a.length ca) := Fut.cell h1 (by first | exact c0_0_1 | go_simp)
    have cx_1_0 : w1.cell? ⟨w.heap.size + 1, 0, none⟩ = some (.string y.p) := Fut.cell h1 (by first | exact c0_1_0 | go_simp)
    have cx_1_1 : w1.cell? ⟨w.heap.size + 1, 1, none⟩ = some (.slice B y.a.length cb) := Fut.cell h1 (by first | exact c0_1_1 | go_simp)
    have cx_2_0 : w1.cell? ⟨w.heap.size + 2, 0, none⟩ = some (.string z.p) := Fut.cell h1 (by first | exact c0_2_0 | go_simp)
    have cx_2_1 : w1.cell? ⟨w.heap.size + 2, 1, none⟩ = some (.slice C z.a.length cc) := Fut.cell h1 (by first | exact c0_2_1 | go_simp)
    exact cmpF_any x y _ _ _ (HX.out.vals.fut RV.stays ((hf4 _ _ _ _).trans h1)) (HY.out.vals.fut RV.stays ((hf4 _ _ _ _).trans h1))
  simp only [Act.put, List.setIfInBounds_toArray, List.set_cons_succ, List.set_cons_zero, List.nil_append, List.cons_append]
  apply Run.valG (by go_simp)
  · intro w1 h1 hk
    have cx_0_0 : w1.cell? ⟨w.heap.size, 0, none⟩ = some (.string x.p) := Fut.cell h1 (by first | exact c0_0_0 | go_simp)
    have cx_0_1 : w1.cell? ⟨w.heap.size, 1, none⟩ = some (.slice A x.a.length ca) := Fut.cell h1 (by first | exact c0_0_1 | go_simp)
    have cx_1_0 : w1.cell? ⟨w.heap.size + 1, 0, none⟩ = some (.string y.p) := Fut.cell h1 (by first | exact c0_1_0 | go_simp)
    have cx_1_1 : w1.cell? ⟨w.heap.size + 1, 1, none⟩ = some (.slice B y.a.length cb) := Fut.cell h1 (by first | exact c0_1_1 | go_simp)
    have cx_2_0 : w1.cell? ⟨w.heap.size + 2, 0, none⟩ = some (.string z.p) := Fut.cell h1 (by first | exact c0_2_0 | go_simp)
    have cx_2_1 : w1.cell? ⟨w.heap.size + 2, 1, none⟩ = some (.slice C z.a.length cc) := Fut.cell h1 (by first | exact c0_2_1 | go_simp)
    go_simp; rfl
  simp only [Act.put, List.setIfInBounds_toArray, List.set_cons_succ, List.set_cons_zero, List.nil_append, List.cons_append]
  apply Run.valG (by go_simp)
  · intro w1 h1 hk
    have cx_0_0 : w1.cell? ⟨w.heap.size, 0, none⟩ = some (.string x.p) := Fut.cell h1 (by first | exact c0_0_0 | go_simp)
    have cx_0_1 : w1.cell? ⟨w.heap.size, 1, none⟩ = some (.slice A x.a.length ca) := Fut.cell h1 (by first | exact c0_0_1 | go_simp)
    have cx_1_0 : w1.cell? ⟨w.heap.size + 1, 0, none⟩ = some (.string y.p) := Fut.cell h1 (by first | exact c0_1_0 | go_simp)
    have cx_1_1 : w1.cell? ⟨w.heap.size + 1, 1, none⟩ = some (.slice B y.a.length cb) := Fut.cell h1 (by first | exact c0_1_1 | go_simp)
    have cx_2_0 : w1.cell? ⟨w.heap.size + 2, 0, none⟩ = some (.string z.p) := Fut.cell h1 (by first | exact c0_2_0 | go_simp)
    have cx_2_1 : w1.cell? ⟨w.heap.size + 2, 1, none⟩ = some (.slice C z.a.length cc) := Fut.cell h1 (by first | exact c0_2_1 | go_simp)
    go_simp; rfl
  simp only [Act.put, List.setIfInBounds_toArray, List.set_cons_succ, List.set_cons_zero, List.nil_append, List.cons_append]
  apply Run.call (by go_simp) (fun _ _ => by go_simp; exact ⟨rfl, rfl⟩)
  · intro w1 h1 hk
    have cx_0_0 : w1.cell? ⟨w.heap.size, 0, none⟩ = some (.string x.p) := Fut.cell h1 (by first | exact c0_0_0 | go_simp)
    have cx_0_1 : w1.cell? ⟨w.heap.size, 1, none⟩ = some (.slice A x.a.length ca) := Fut.cell h1 (by first | exact c0_0_1 | go_simp)
    have cx_1_0 : w1.cell? ⟨w.heap.size + 1, 0, none⟩ = some (.string y.p) := Fut.cell h1 (by first | exact c0_1_0 | go_simp)
    have cx_1_1 : w1.cell? ⟨w.heap.size + 1, 1, none⟩ = some (.slice B y.a.length cb) := Fut.cell h1 (by first | exact c0_1_1 | go_simp)
    have cx_2_0 : w1.cell? ⟨w.heap.size + 2, 0, none⟩ = some (.string z.p) := Fut.cell h1 (by first | exact c0_2_0 | go_simp)
    have cx_2_1 : w1.cell? ⟨w.heap.size + 2, 1, none⟩ = some (.slice C z.a.length cc) := Fut.cell h1 (by first | exact c0_2_1 | go_simp)
    exact cmpF_any y z _ _ _ (HY.out.vals.fut RV.stays ((hf4 _ _ _ _).trans h1)) (HZ.out.vals.fut RV.stays ((hf4 _ _ _ _).trans h1))
  simp only [Act.put, List.setIfInBounds_toArray, List.set_cons_succ, List.set_cons_zero, List.nil_append, List.cons_append]
  apply Run.valG (by go_simp)
  · intro w1 h1 hk
    have cx_0_0 : w1.cell? ⟨w.heap.size, 0, none⟩ = some (.string x.p) := Fut.cell h1 (by first | exact c0_0_0 | go_simp)
    have cx_0_1 : w1.cell? ⟨w.heap.size, 1, none⟩ = some (.slice A x.a.length ca) := Fut.cell h1 (by first | exact c0_0_1 | go_simp)
    have cx_1_0 : w1.cell? ⟨w.heap.size + 1, 0, none⟩ = some (.string y.p) := Fut.cell h1 (by first | exact c0_1_0 | go_simp)
    have cx_1_1 : w1.cell? ⟨w.heap.size + 1, 1, none⟩ = some (.slice B y.a.length cb) := Fut.cell h1 (by first | exact c0_1_1 | go_simp)
    have cx_2_0 : w1.cell? ⟨w.heap.size + 2, 0, none⟩ = some (.string z.p) := Fut.cell h1 (by first | exact c0_2_0 | go_simp)
    have cx_2_1 : w1.cell? ⟨w.heap.size + 2, 1, none⟩ = some (.slice C z.a.length cc) := Fut.cell h1 (by first | exact c0_2_1 | go_simp)
    go_simp; rfl
  simp only [Act.put, List.setIfInBounds_toArray, List.set_cons_succ, List.set_cons_zero, List.nil_append, List.cons_append]
  apply Run.valG (by go_simp)
  · intro w1 h1 hk
    have cx_0_0 : w1.cell? ⟨w.heap.size, 0, none⟩ = some (.string x.p) := Fut.cell h1 (by first | exact c0_0_0 | go_simp)
    have cx_0_1 : w1.cell? ⟨w.heap.size, 1, none⟩ = some (.slice A x.a.length ca) := Fut.cell h1 (by first | exact c0_0_1 | go_simp)
    have cx_1_0 : w1.cell? ⟨w.heap.size + 1, 0, none⟩ = some (.string y.p) := Fut.cell h1 (by first | exact c0_1_0 | go_simp)
    have cx_1_1 : w1.cell? ⟨w.heap.size + 1, 1, none⟩ = some (.slice B y.a.length cb) := Fut.cell h1 (by first | exact c0_1_1 | go_simp)
    have cx_2_0 : w1.cell? ⟨w.heap.size + 2, 0, none⟩ = some (.string z.p) := Fut.cell h1 (by first | exact c0_2_0 | go_simp)
    have cx_2_1 : w1.cell? ⟨w.heap.size + 2, 1, none⟩ = some (.slice C z.a.length cc) := Fut.cell h1 (by first | exact c0_2_1 | go_simp)
    go_simp; rfl
  simp only [Act.put, List.setIfInBounds_toArray, List.set_cons_succ, List.set_cons_zero, List.nil_append, List.cons_append]
  apply Run.call (by go_simp) (fun _ _ => by go_simp; exact ⟨rfl, rfl⟩)
  · intro w1 h1 hk
    have cx_0_0 : w1.cell? ⟨w.heap.size, 0, none⟩ = some (.string x.p) := Fut.cell h1 (by first | exact c0_0_0 | go_simp)
    have cx_0_1 : w1.cell? ⟨w.heap.size, 1, none⟩ = some (.slice A x.a.length ca) := Fut.cell h1 (by first | exact c0_0_1 | go_simp)
    have cx_1_0 : w1.cell? ⟨w.heap.size + 1, 0, none⟩ = some (.string y.p) := Fut.cell h1 (by first | exact c0_1_0 | go_simp)
    have cx_1_1 : w1.cell? ⟨w.heap.size + 1, 1, none⟩ = some (.slice B y.a.length cb) := Fut.cell h1 (by first | exact c0_1_1 | go_simp)
    have cx_2_0 : w1.cell? ⟨w.heap.size + 2, 0, none⟩ = some (.string z.p) := Fut.cell h1 (by first | exact c0_2_0 | go_simp)
    have cx_2_1 : w1.cell? ⟨w.heap.size + 2, 1, none⟩ = some (.slice C z.a.length cc) := Fut.cell h1 (by first | exact c0_2_1 | go_simp)
    exact cmpF_any x z _ _ _ (HX.out.vals.fut RV.stays ((hf4 _ _ _ _).trans h1)) (HZ.out.vals.fut RV.stays ((hf4 _ _ _ _).trans h1))
  simp only [Act.put, List.setIfInBounds_toArray, List.set_cons_succ, List.set_cons_zero, List.nil_append, List.cons_append]
  apply Run.valG (by go_simp)
  · intro w1 h1 hk
    have cx_0_0 : w1.cell? ⟨w.heap.size, 0, none⟩ = some (.string x.p) := Fut.cell h1 (by first | exact c0_0_0 | go_simp)
    have cx_0_1 : w1.cell? ⟨w.heap.size, 1, none⟩ = some (.slice A x.a.length ca) := Fut.cell h1 (by first | exact c0_0_1 | go_simp)
    have cx_1_0 : w1.cell? ⟨w.heap.size + 1, 0, none⟩ = some (.string y.p) := Fut.cell h1 (by first | exact c0_1_0 | go_simp)
    have cx_1_1 : w1.cell? ⟨w.heap.size + 1, 1, none⟩ = some (.slice B y.a.length cb) := Fut.cell h1 (by first | exact c0_1_1 | go_simp)
    have cx_2_0 : w1.cell? ⟨w.heap.size + 2, 0, none⟩ = some (.string z.p) := Fut.cell h1 (by first | exact c0_2_0 | go_simp)
    have cx_2_1 : w1.cell? ⟨w.heap.size + 2, 1, none⟩ = some (.slice C z.a.length cc) := Fut.cell h1 (by first | exact c0_2_1 | go_simp)
    go_simp; rfl
  simp only [Act.put, List.setIfInBounds_toArray, List.set_cons_succ, List.set_cons_zero, List.nil_append, List.cons_append]
  apply Run.valG (by go_simp)
  · intro w1 h1 hk
    have cx_0_0 : w1.cell? ⟨w.heap.size, 0, none⟩ = some (.string x.p) := Fut.cell h1 (by first | exact c0_0_0 | go_simp)
    have cx_0_1 : w1.cell? ⟨w.heap.size, 1, none⟩ = some (.slice A x.a.length ca) := Fut.cell h1 (by first | exact c0_0_1 | go_simp)
    have cx_1_0 : w1.cell? ⟨w.heap.size + 1, 0, none⟩ = some (.string y.p) := Fut.cell h1 (by first | exact c0_1_0 | go_simp)
    have cx_1_1 : w1.cell? ⟨w.heap.size + 1, 1, none⟩ = some (.slice B y.a.length cb) := Fut.cell h1 (by first | exact c0_1_1 | go_simp)
    have cx_2_0 : w1.cell? ⟨w.heap.size + 2, 0, none⟩ = some (.string z.p) := Fut.cell h1 (by first | exact c0_2_0 | go_simp)
    have cx_2_1 : w1.cell? ⟨w.heap.size + 2, 1, none⟩ = some (.slice C z.a.length cc) := Fut.cell h1 (by first | exact c0_2_1 | go_simp)
    go_simp; rfl
  simp only [Act.put, List.setIfInBounds_toArray, List.set_cons_succ, List.set_cons_zero, List.nil_append, List.cons_append]
  apply Run.call (by go_simp) (fun _ _ => by go_simp; exact ⟨rfl, rfl⟩)
  · intro w1 h1 hk
    have cx_0_0 : w1.cell? ⟨w.heap.size, 0, none⟩ = some (.string x.p) := Fut.cell h1 (by first | exact c0_0_0 | go_simp)
    have cx_0_1 : w1.cell? ⟨w.heap.size, 1, none⟩ = some (.slice A x.a.length ca) := Fut.cell h1 (by first | exact c0_0_1 | go_simp)
    have cx_1_0 : w1.cell? ⟨w.heap.size + 1, 0, none⟩ = some (.string y.p) := Fut.cell h1 (by first | exact c0_1_0 | go_simp)
    have cx_1_1 : w1.cell? ⟨w.heap.size + 1, 1, none⟩ = some (.slice B y.a.length cb) := Fut.cell h1 (by first | exact c0_1_1 | go_simp)
    have cx_2_0 : w1.cell? ⟨w.heap.size + 2, 0, none⟩ = some (.string z.p) := Fut.cell h1 (by first | exact c0_2_0 | go_simp)
    have cx_2_1 : w1.cell? ⟨w.heap.size + 2, 1, none⟩ = some (.slice C z.a.length cc) := Fut.cell h1 (by first | exact c0_2_1 | go_simp)
    exact cmpF_any y x _ _ _ (HY.out.vals.fut RV.stays ((hf4 _ _ _ _).trans h1)) (HX.out.vals.fut RV.stays ((hf4 _ _ _ _).trans h1))
  simp only [Act.put, List.setIfInBounds_toArray, List.set_cons_succ, List.set_cons_zero, List.nil_append, List.cons_append]
  apply Run.valG (by go_simp)
  · intro w1 h1 hk
    have cx_0_0 : w1.cell? ⟨w.heap.size, 0, none⟩ = some (.string x.p) := Fut.cell h1 (by first | exact c0_0_0 | go_simp)
    have cx_0_1 : w1.cell? ⟨w.heap.size, 1, none⟩ = some (.slice A x.a.length ca) := Fut.cell h1 (by first | exact c0_0_1 | go_simp)
    have cx_1_0 : w1.cell? ⟨w.heap.size + 1, 0, none⟩ = some (.string y.p) := Fut.cell h1 (by first | exact c0_1_0 | go_simp)
    have cx_1_1 : w1.cell? ⟨w.heap.size + 1, 1, none⟩ = some (.slice B y.a.length cb) := Fut.cell h1 (by first | exact c0_1_1 | go_simp)
    have cx_2_0 : w1.cell? ⟨w.heap.size + 2, 0, none⟩ = some (.string z.p) := Fut.cell h1 (by first | exact c0_2_0 | go_simp)
    have cx_2_1 : w1.cell? ⟨w.heap.size + 2, 1, none⟩ = some (.slice C z.a.length cc) := Fut.cell h1 (by first | exact c0_2_1 | go_simp)
    go_simp; rfl
  simp only [Act.put, List.setIfInBounds_toArray, List.set_cons_succ, List.set_cons_zero, List.nil_append, List.cons_append]
  apply Run.valG (by go_simp)
  · intro w1 h1 hk
    have cx_0_0 : w1.cell? ⟨w.heap.size, 0, none⟩ = some (.string x.p) := Fut.cell h1 (by first | exact c0_0_0 | go_simp)
    have cx_0_1 : w1.cell? ⟨w.heap.size, 1, none⟩ = some (.slice A x.a.length ca) := Fut.cell h1 (by first | exact c0_0_1 | go_simp)
    have cx_1_0 : w1.cell? ⟨w.heap.size + 1, 0, none⟩ = some (.string y.p) := Fut.cell h1 (by first | exact c0_1_0 | go_simp)
    have cx_1_1 : w1.cell? ⟨w.heap.size + 1, 1, none⟩ = some (.slice B y.a.length cb) := Fut.cell h1 (by first | exact c0_1_1 | go_simp)
    have cx_2_0 : w1.cell? ⟨w.heap.size + 2, 0, none⟩ = some (.string z.p) := Fut.cell h1 (by first | exact c0_2_0 | go_simp)
    have cx_2_1 : w1.cell? ⟨w.heap.size + 2, 1, none⟩ = some (.slice C z.a.length cc) := Fut.cell h1 (by first | exact c0_2_1 | go_simp)
    go_simp; rfl
  simp only [Act.put, List.setIfInBounds_toArray, List.set_cons_succ, List.set_cons_zero, List.nil_append, List.cons_append]
  apply Run.call (by go_simp) (fun _ _ => by go_simp; exact ⟨rfl, rfl⟩)
  · intro w1 h1 hk
    have cx_0_0 : w1.cell? ⟨w.heap.size, 0, none⟩ = some (.string x.p) := Fut.cell h1 (by first | exact c0_0_0 | go_simp)
    have cx_0_1 : w1.cell? ⟨w.heap.size, 1, none⟩ = some (.slice A x.a.length ca) := Fut.cell h1 (by first | exact c0_0_1 | go_simp)
    have cx_1_0 : w1.cell? ⟨w.heap.size + 1, 0, none⟩ = some (.string y.p) := Fut.cell h1 (by first | exact c0_1_0 | go_simp)
    have cx_1_1 : w1.cell? ⟨w.heap.size + 1, 1, none⟩ = some (.slice B y.a.length cb) := Fut.cell h1 (by first | exact c0_1_1 | go_simp)
    have cx_2_0 : w1.cell? ⟨w.heap.size + 2, 0, none⟩ = some (.string z.p) := Fut.cell h1 (by first | exact c0_2_0 | go_simp)
    have cx_2_1 : w1.cell? ⟨w.heap.size + 2, 1, none⟩ = some (.slice C z.a.length cc) := Fut.cell h1 (by first | exact c0_2_1 | go_simp)
    exact cmpF_any z y _ _ _ (HZ.out.vals.fut RV.stays ((hf4 _ _ _ _).trans h1)) (HY.out.vals.fut RV.stays ((hf4 _ _ _ _).trans h1))
  simp only [Act.put, List.setIfInBounds_toArray, List.set_cons_succ, List.set_cons_zero, List.nil_append, List.cons_append]
  apply Run.valG (by go_simp)
  · intro w1 h1 hk
    have cx_0_0 : w1.cell? ⟨w.heap.size, 0, none⟩ = some (.string x.p) := Fut.cell h1 (by first | exact c0_0_0 | go_simp)
    have cx_0_1 : w1.cell? ⟨w.heap.size, 1, none⟩ = some (.slice A x.a.length ca) := Fut.cell h1 (by first | exact c0_0_1 | go_simp)
    have cx_1_0 : w1.cell? ⟨w.heap.size + 1, 0, none⟩ = some (.string y.p) := Fut.cell h1 (by first | exact c0_1_0 | go_simp)
    have cx_1_1 : w1.cell? ⟨w.heap.size + 1, 1, none⟩ = some (.slice B y.a.length cb) := Fut.cell h1 (by first | exact c0_1_1 | go_simp)
    have cx_2_0 : w1.cell? ⟨w.heap.size + 2, 0, none⟩ = some (.string z.p) := Fut.cell h1 (by first | exact c0_2_0 | go_simp)
    have cx_2_1 : w1.cell? ⟨w.heap.size + 2, 1, none⟩ = some (.slice C z.a.length cc) := Fut.cell h1 (by first | exact c0_2_1 | go_simp)
    go_simp; rfl
  simp only [Act.put, List.setIfInBounds_toArray, List.set_cons_succ, List.set_cons_zero, List.nil_append, List.cons_append]
  apply Run.valG (by go_simp)
  · intro w1 h1 hk
    have cx_0_0 : w1.cell? ⟨w.heap.size, 0, none⟩ = some (.string x.p) := Fut.cell h1 (by first | exact c0_0_0 | go_simp)
    have cx_0_1 : w1.cell? ⟨w.heap.size, 1, none⟩ = some (.slice A x.a.length ca) := Fut.cell h1 (by first | exact c0_0_1 | go_simp)
    have cx_1_0 : w1.cell? ⟨w.heap.size + 1, 0, none⟩ = some (.string y.p) := Fut.cell h1 (by first | exact c0_1_0 | go_simp)
    have cx_1_1 : w1.cell? ⟨w.heap.size + 1, 1, none⟩ = some (.slice B y.a.length cb) := Fut.cell h1 (by first | exact c0_1_1 | go_simp)
    have cx_2_0 : w1.cell? ⟨w.heap.size + 2, 0, none⟩ = some (.string z.p) := Fut.cell h1 (by first | exact c0_2_0 | go_simp)
    have cx_2_1 : w1.cell? ⟨w.heap.size + 2, 1, none⟩ = some (.slice C z.a.length cc) := Fut.cell h1 (by first | exact c0_2_1 | go_simp)
    go_simp; rfl
  simp only [Act.put, List.setIfInBounds_toArray, List.set_cons_succ, List.set_cons_zero, List.nil_append, List.cons_append]
  apply Run.call (by go_simp) (fun _ _ => by go_simp; exact ⟨rfl, rfl⟩)
  · intro w1 h1 hk
    have cx_0_0 : w1.cell? ⟨w.heap.size, 0, none⟩ = some (.string x.p) := Fut.cell h1 (by first | exact c0_0_0 | go_simp)
    have cx_0_1 : w1.cell? ⟨w.heap.size, 1, none⟩ = some (.slice A x.a.length ca) := Fut.cell h1 (by first | exact c0_0_1 | go_simp)
    have cx_1_0 : w1.cell? ⟨w.heap.size + 1, 0, none⟩ = some (.string y.p) := Fut.cell h1 (by first | exact c0_1_0 | go_simp)
    have cx_1_1 : w1.cell? ⟨w.heap.size + 1, 1, none⟩ = some (.slice B y.a.length cb) := Fut.cell h1 (by first | exact c0_1_1 | go_simp)
    have cx_2_0 : w1.cell? ⟨w.heap.size + 2, 0, none⟩ = some (.string z.p) := Fut.cell h1 (by first | exact c0_2_0 | go_simp)
    have cx_2_1 : w1.cell? ⟨w.heap.size + 2, 1, none⟩ = some (.slice C z.a.length cc) := Fut.cell h1 (by first | exact c0_2_1 | go_simp)
    exact cmpF_any z x _ _ _ (HZ.out.vals.fut RV.stays ((hf4 _ _ _ _).trans h1)) (HX.out.vals.fut RV.stays ((hf4 _ _ _ _).trans h1))
  simp only [Act.put, List.setIfInBounds_toArray, List.set_cons_succ, List.set_cons_zero, List.nil_append, List.cons_append]
  apply Run.valG (by go_simp)
  · intro w1 h1 hk
    have cx_0_0 : w1.cell? ⟨w.heap.size, 0, none⟩ = some (.string x.p) := Fut.cell h1 (by first | exact c0_0_0 | go_simp)
    have cx_0_1 : w1.cell? ⟨w.heap.size, 1, none⟩ = some (.slice A x.a.length ca) := Fut.cell h1 (by first | exact c0_0_1 | go_simp)
    have cx_1_0 : w1.cell? ⟨w.heap.size + 1, 0, none⟩ = some (.string y.p) := Fut.cell h1 (by first | exact c0_1_0 | go_simp)
    have cx_1_1 : w1.cell? ⟨w.heap.size + 1, 1, none⟩ = some (.slice B y.a.length cb) := Fut.cell h1 (by first | exact c0_1_1 | go_simp)
    have cx_2_0 : w1.cell? ⟨w.heap.size + 2, 0, none⟩ = some (.string z.p) := Fut.cell h1 (by first | exact c0_2_0 | go_simp)
    have cx_2_1 : w1.cell? ⟨w.heap.size + 2, 1, none⟩ = some (.slice C z.a.length cc) := Fut.cell h1 (by first | exact c0_2_1 | go_simp)
    go_simp; rfl
  simp only [Act.put, List.setIfInBounds_toArray, List.set_cons_succ, List.set_cons_zero, List.nil_append, List.cons_append]
  apply Run.valG (by go_simp)
  · intro w1 h1 hk
    have cx_0_0 : w1.cell? ⟨w.heap.size, 0, none⟩ = some (.string x.p) := Fut.cell h1 (by first | exact c0_0_0 | go_simp)
    have cx_0_1 : w1.cell? ⟨w.heap.size, 1, none⟩ = some (.slice A x.a.length ca) := Fut.cell h1 (by first | exact c0_0_1 | go_simp)
    have cx_1_0 : w1.cell? ⟨w.heap.size + 1, 0, none⟩ = some (.string y.p) := Fut.cell h1 (by first | exact c0_1_0 | go_simp)
    have cx_1_1 : w1.cell? ⟨w.heap.size + 1, 1, none⟩ = some (.slice B y.a.length cb) := Fut.cell h1 (by first | exact c0_1_1 | go_simp)
    have cx_2_0 : w1.cell? ⟨w.heap.size + 2, 0, none⟩ = some (.string z.p) := Fut.cell h1 (by first | exact c0_2_0 | go_simp)
    have cx_2_1 : w1.cell? ⟨w.heap.size + 2, 1, none⟩ = some (.slice C z.a.length cc) := Fut.cell h1 (by first | exact c0_2_1 | go_simp)
    go_simp; rfl
  simp only [Act.put, List.setIfInBounds_toArray, List.set_cons_succ, List.set_cons_zero, List.nil_append, List.cons_append]
  apply Run.call (by go_simp) (fun _ _ => by go_simp; exact ⟨rfl, rfl⟩)
  · intro w1 h1 hk
    have cx_0_0 : w1.cell? ⟨w.heap.size, 0, none⟩ = some (.string x.p) := Fut.cell h1 (by first | exact c0_0_0 | go_simp)
    have cx_0_1 : w1.cell? ⟨w.heap.size, 1, none⟩ = some (.slice A x.a.length ca) := Fut.cell h1 (by first | exact c0_0_1 | go_simp)
    have cx_1_0 : w1.cell? ⟨w.heap.size + 1, 0, none⟩ = some (.string y.p) := Fut.cell h1 (by first | exact c0_1_0 | go_simp)
    have cx_1_1 : w1.cell? ⟨w.heap.size + 1, 1, none⟩ = some (.slice B y.a.length cb) := Fut.cell h1 (by first | exact c0_1_1 | go_simp)
    have cx_2_0 : w1.cell? ⟨w.heap.size + 2, 0, none⟩ = some (.string z.p) := Fut.cell h1 (by first | exact c0_2_0 | go_simp)
    have cx_2_1 : w1.cell? ⟨w.heap.size + 2, 1, none⟩ = some (.slice C z.a.length cc) := Fut.cell h1 (by first | exact c0_2_1 | go_simp)
    exact sameF_any x y _ _ _ (HX.out.vals.fut RV.stays ((hf4 _ _ _ _).trans h1)) (HY.out.vals.fut RV.stays ((hf4 _ _ _ _).trans h1))
  simp only [Act.put, List.setIfInBounds_toArray, List.set_cons_succ, List.set_cons_zero, List.nil_append, List.cons_append]
  apply Run.valG (by go_simp)
  · intro w1 h1 hk
    have cx_0_0 : w1.cell? ⟨w.heap.size, 0, none⟩ = some (.string x.p) := Fut.cell h1 (by first | exact c0_0_0 | go_simp)
    have cx_0_1 : w1.cell? ⟨w.heap.size, 1, none⟩ = some (.slice A x.a.length ca) := Fut.cell h1 (by first | exact c0_0_1 | go_simp)
    have cx_1_0 : w1.cell? ⟨w.heap.size + 1, 0, none⟩ = some (.string y.p) := Fut.cell h1 (by first | exact c0_1_0 | go_simp)
    have cx_1_1 : w1.cell? ⟨w.heap.size + 1, 1, none⟩ = some (.slice B y.a.length cb) := Fut.cell h1 (by first | exact c0_1_1 | go_simp)
    have cx_2_0 : w1.cell? ⟨w.heap.size + 2, 0, none⟩ = some (.string z.p) := Fut.cell h1 (by first | exact c0_2_0 | go_simp)
    have cx_2_1 : w1.cell? ⟨w.heap.size + 2, 1, none⟩ = some (.slice C z.a.length cc) := Fut.cell h1 (by first | exact c0_2_1 | go_simp)
    go_simp; rfl
  simp only [Act.put, List.setIfInBounds_toArray, List.set_cons_succ, List.set_cons_zero, List.nil_append, List.cons_append]
  apply Run.valG (by go_simp)
  · intro w1 h1 hk
    have cx_0_0 : w1.cell? ⟨w.heap.size, 0, none⟩ = some (.string x.p) := Fut.cell h1 (by first | exact c0_0_0 | go_simp)
    have cx_0_1 : w1.cell? ⟨w.heap.size, 1, none⟩ = some (.slice A x.a.length ca) := Fut.cell h1 (by first | exact c0_0_1 | go_simp)
    have cx_1_0 : w1.cell? ⟨w.heap.size + 1, 0, none⟩ = some (.string y.p) := Fut.cell h1 (by first | exact c0_1_0 | go_simp)
    have cx_1_1 : w1.cell? ⟨w.heap.size + 1, 1, none⟩ = some (.slice B y.a.length cb) := Fut.cell h1 (by first | exact c0_1_1 | go_simp)
    have cx_2_0 : w1.cell? ⟨w.heap.size + 2, 0, none⟩ = some (.string z.p) := Fut.cell h1 (by first | exact c0_2_0 | go_simp)
    have cx_2_1 : w1.cell? ⟨w.heap.size + 2, 1, none⟩ = some (.slice C z.a.length cc) := Fut.cell h1 (by first | exact c0_2_1 | go_simp)
    go_simp; rfl
  simp only [Act.put, List.setIfInBounds_toArray, List.set_cons_succ, List.set_cons_zero, List.nil_append, List.cons_append]
  apply Run.call (by go_simp) (fun _ _ => by go_simp; exact ⟨rfl, rfl⟩)
  · intro w1 h1 hk
    have cx_0_0 : w1.cell? ⟨w.heap.size, 0, none⟩ = some (.string x.p) := Fut.cell h1 (by first | exact c0_0_0 | go_simp)
    have cx_0_1 : w1.cell? ⟨w.heap.size, 1, none⟩ = some (.slice A x.a.length ca) := Fut.cell h1 (by first | exact c0_0_1 | go_simp)
    have cx_1_0 : w1.cell? ⟨w.heap.size + 1, 0, none⟩ = some (.string y.p) := Fut.cell h1 (by first | exact c0_1_0 | go_simp)
    have cx_1_1 : w1.cell? ⟨w.heap.size + 1, 1, none⟩ = some (.slice B y.a.length cb) := Fut.cell h1 (by first | exact c0_1_1 | go_simp)
    have cx_2_0 : w1.cell? ⟨w.heap.size + 2, 0, none⟩ = some (.string z.p) := Fut.cell h1 (by first | exact c0_2_0 | go_simp)
    have cx_2_1 : w1.cell? ⟨w.heap.size + 2, 1, none⟩ = some (.slice C z.a.length cc) := Fut.cell h1 (by first | exact c0_2_1 | go_simp)
    exact sameF_any y z _ _ _ (HY.out.vals.fut RV.stays ((hf4 _ _ _ _).trans h1)) (HZ.out.vals.fut RV.stays ((hf4 _ _ _ _).trans h1))
  simp only [Act.put, List.setIfInBounds_toArray, List.set_cons_succ, List.set_cons_zero, List.nil_append, List.cons_append]
  apply Run.valG (by go_simp)
  · intro w1 h1 hk
    have cx_0_0 : w1.cell? ⟨w.heap.size, 0, none⟩ = some (.string x.p) := Fut.cell h1 (by first | exact c0_0_0 | go_simp)
    have cx_0_1 : w1.cell? ⟨w.heap.size, 1, none⟩ = some (.slice A x.a.length ca) := Fut.cell h1 (by first | exact c0_0_1 | go_simp)
    have cx_1_0 : w1.cell? ⟨w.heap.size + 1, 0, none⟩ = some (.string y.p) := Fut.cell h1 (by first | exact c0_1_0 | go_simp)
    have cx_1_1 : w1.cell? ⟨w.heap.size + 1, 1, none⟩ = some (.slice B y.a.length cb) := Fut.cell h1 (by first | exact c0_1_1 | go_simp)
    have cx_2_0 : w1.cell? ⟨w.heap.size + 2, 0, none⟩ = some (.string z.p) := Fut.cell h1 (by first | exact c0_2_0 | go_simp)
    have cx_2_1 : w1.cell? ⟨w.heap.size + 2, 1, none⟩ = some (.slice C z.a.length cc) := Fut.cell h1 (by first | exact c0_2_1 | go_simp)
    go_simp; rfl
  simp only [Act.put, List.setIfInBounds_toArray, List.set_cons_succ, List.set_cons_zero, List.nil_append, List.cons_append]
  apply Run.valG (by go_simp)
  · intro w1 h1 hk
    have cx_0_0 : w1.cell? ⟨w.heap.size, 0, none⟩ = some (.string x.p) := Fut.cell h1 (by first | exact c0_0_0 | go_simp)
    have cx_0_1 : w1.cell? ⟨w.heap.size, 1, none⟩ = some (.slice A x.a.length ca) := Fut.cell h1 (by first | exact c0_0_1 | go_simp)
    have cx_1_0 : w1.cell? ⟨w.heap.size + 1, 0, none⟩ = some (.string y.p) := Fut.cell h1 (by first | exact c0_1_0 | go_simp)
    have cx_1_1 : w1.cell? ⟨w.heap.size + 1, 1, none⟩ = some (.slice B y.a.length cb) := Fut.cell h1 (by first | exact c0_1_1 | go_simp)
    have cx_2_0 : w1.cell? ⟨w.heap.size + 2, 0, none⟩ = some (.string z.p) := Fut.cell h1 (by first | exact c0_2_0 | go_simp)
    have cx_2_1 : w1.cell? ⟨w.heap.size + 2, 1, none⟩ = some (.slice C z.a.length cc) := Fut.cell h1 (by first | exact c0_2_1 | go_simp)
    go_simp; rfl
  simp only [Act.put, List.setIfInBounds_toArray, List.set_cons_succ, List.set_cons_zero, List.nil_append, List.cons_append]
  apply Run.call (by go_simp) (fun _ _ => by go_simp; exact ⟨rfl, rfl⟩)
  · intro w1 h1 hk
    have cx_0_0 : w1.cell? ⟨w.heap.size, 0, none⟩ = some (.string x.p) := Fut.cell h1 (by first | exact c0_0_0 | go_simp)
    have cx_0_1 : w1.cell? ⟨w.heap.size, 1, none⟩ = some (.slice A x.a.length ca) := Fut.cell h1 (by first | exact c0_0_1 | go_simp)
    have cx_1_0 : w1.cell? ⟨w.heap.size + 1, 0, none⟩ = some (.string y.p) := Fut.cell h1 (by first | exact c0_1_0 | go_simp)
    have cx_1_1 : w1.cell? ⟨w.heap.size + 1, 1, none⟩ = some (.slice B y.a.length cb) := Fut.cell h1 (by first | exact c0_1_1 | go_simp)
    have cx_2_0 : w1.cell? ⟨w.heap.size + 2, 0, none⟩ = some (.string z.p) := Fut.cell h1 (by first | exact c0_2_0 | go_simp)
    have cx_2_1 : w1.cell? ⟨w.heap.size + 2, 1, none⟩ = some (.slice C z.a.length cc) := Fut.cell h1 (by first | exact c0_2_1 | go_simp)
    exact sameF_any x z _ _ _ (HX.out.vals.fut RV.stays ((hf4 _ _ _ _).trans h1)) (HZ.out.vals.fut RV.stays ((hf4 _ _ _ _).trans h1))
  simp only [Act.put, List.setIfInBounds_toArray, List.set_cons_succ, List.set_cons_zero, List.nil_append, List.cons_append]
  apply Run.call (by go_simp) (fun _ _ => by go_simp; exact ⟨rfl, rfl⟩)
  · intro w1 h1 hk
    have cx_0_0 : w1.cell? ⟨w.heap.size, 0, none⟩ = some (.string x.p) := Fut.cell h1 (by first | exact c0_0_0 | go_simp)
    have cx_0_1 : w1.cell? ⟨w.heap.size, 1, none⟩ = some (.slice A x.a.length ca) := Fut.cell h1 (by first | exact c0_0_1 | go_simp)
    have cx_1_0 : w1.cell? ⟨w.heap.size + 1, 0, none⟩ = some (.string y.p) := Fut.cell h1 (by first | exact c0_1_0 | go_simp)
    have cx_1_1 : w1.cell? ⟨w.heap.size + 1, 1, none⟩ = some (.slice B y.a.length cb) := Fut.cell h1 (by first | exact c0_1_1 | go_simp)
    have cx_2_0 : w1.cell? ⟨w.heap.size + 2, 0, none⟩ = some (.string z.p) := Fut.cell h1 (by first | exact c0_2_0 | go_simp)
    have cx_2_1 : w1.cell? ⟨w.heap.size + 2, 1, none⟩ = some (.slice C z.a.length cc) := Fut.cell h1 (by first | exact c0_2_1 | go_simp)
    exact ordered_any ordF x y z _
  simp only [Act.put, List.setIfInBounds_toArray, List.set_cons_succ, List.set_cons_zero, List.nil_append, List.cons_append]
  apply Run.valG (by go_simp)
  · intro w1 h1 hk
    have cx_0_0 : w1.cell? ⟨w.heap.size, 0, none⟩ = some (.string x.p) := Fut.cell h1 (by first | exact c0_0_0 | go_simp)
    have cx_0_1 : w1.cell? ⟨w.heap.size, 1, none⟩ = some (.slice A x.a.length ca) := Fut.cell h1 (by first | exact c0_0_1 | go_simp)
    have cx_1_0 : w1.cell? ⟨w.heap.size + 1, 0, none⟩ = some (.string y.p) := Fut.cell h1 (by first | exact c0_1_0 | go_simp)
    have cx_1_1 : w1.cell? ⟨w.heap.size + 1, 1, none⟩ = some (.slice B y.a.length cb) := Fut.cell h1 (by first | exact c0_1_1 | go_simp)
    have cx_2_0 : w1.cell? ⟨w.heap.size + 2, 0, none⟩ = some (.string z.p) := Fut.cell h1 (by first | exact c0_2_0 | go_simp)
    have cx_2_1 : w1.cell? ⟨w.heap.size + 2, 1, none⟩ = some (.slice C z.a.length cc) := Fut.cell h1 (by first | exact c0_2_1 | go_simp)
    go_simp; rfl
  simp only [Act.put, List.setIfInBounds_toArray, List.set_cons_succ, List.set_cons_zero, List.nil_append, List.cons_append]
  apply Run.valG (wanted_none rfl _)
  · intro w1 h1 hk
    have cx_0_0 : w1.cell? ⟨w.heap.size, 0, none⟩ = some (.string x.p) := Fut.cell h1 (by first | exact c0_0_0 | go_simp)
    have cx_0_1 : w1.cell? ⟨w.heap.size, 1, none⟩ = some (.slice A x.a.length ca) := Fut.cell h1 (by first | exact c0_0_1 | go_simp)
    have cx_1_0 : w1.cell? ⟨w.heap.size + 1, 0, none⟩ = some (.string y.p) := Fut.cell h1 (by first | exact c0_1_0 | go_simp)
    have cx_1_1 : w1.cell? ⟨w.heap.size + 1, 1, none⟩ = some (.slice B y.a.length cb) := Fut.cell h1 (by first | exact c0_1_1 | go_simp)
    have cx_2_0 : w1.cell? ⟨w.heap.size + 2, 0, none⟩ = some (.string z.p) := Fut.cell h1 (by first | exact c0_2_0 | go_simp)
    have cx_2_1 : w1.cell? ⟨w.heap.size + 2, 1, none⟩ = some (.slice C z.a.length cc) := Fut.cell h1 (by first | exact c0_2_1 | go_simp)
    go_simp; rfl
  simp only [Act.put, List.setIfInBounds_toArray, List.set_cons_succ, List.set_cons_zero, List.nil_append, List.cons_append]
  apply Run.done
  intro w2 h2 hk
  have c2_0_0 : w2.cell? ⟨w.heap.size, 0, none⟩ = some (.string x.p) := Fut.cell h2 (by first | exact c0_0_0 | go_simp)
  have c2_0_1 : w2.cell? ⟨w.heap.size, 1, none⟩ = some (.slice A x.a.length ca) := Fut.cell h2 (by first | exact c0_0_1 | go_simp)
  have c2_1_0 : w2.cell? ⟨w.heap.size + 1, 0, none⟩ = some (.string y.p) := Fut.cell h2 (by first | exact c0_1_0 | go_simp)
  have c2_1_1 : w2.cell? ⟨w.heap.size + 1, 1, none⟩ = some (.slice B y.a.length cb) := Fut.cell h2 (by first | exact c0_1_1 | go_simp)
  have c2_2_0 : w2.cell? ⟨w.heap.size + 2, 0, none⟩ = some (.string z.p) := Fut.cell h2 (by first | exact c0_2_0 | go_simp)
  have c2_2_1 : w2.cell? ⟨w.heap.size + 2, 1, none⟩ = some (.slice C z.a.length cc) := Fut.cell h2 (by first | exact c0_2_1 | go_simp)
  clear hk
  have F2 : Fut w w2 := (hf4 _ _ _ _).trans h2
  go_wp2
  refine wp_graph 9 [.d, .d, .d, .d, .d, .d, .d, .d, .d] (by kernel_rfl) (by kernel_rfl) (by kernel_rfl) ?_
  simp only [List.take_succ_cons, List.take_zero, List.drop_succ_cons, List.drop_zero, Exs]
  iterate 9 apply Exists.intro
  apply Run.valG (wanted_none rfl _)
  · intro w1 h1 hk
    have cx_0_0 : w1.cell? ⟨w.heap.size, 0, none⟩ = some (.string x.p) := Fut.cell h1 (by first | exact c2_0_0 | go_simp)
    have cx_0_1 : w1.cell? ⟨w.heap.size, 1, none⟩ = some (.slice A x.a.length ca) := Fut.cell h1 (by first | exact c2_0_1 | go_simp)
    have cx_1_0 : w1.cell? ⟨w.heap.size + 1, 0, none⟩ = some (.string y.p) := Fut.cell h1 (by first | exact c2_1_0 | go_simp)
    have cx_1_1 : w1.cell? ⟨w.heap.size + 1, 1, none⟩ = some (.slice B y.a.length cb) := Fut.cell h1 (by first | exact c2_1_1 | go_simp)
    have cx_2_0 : w1.cell? ⟨w.heap.size + 2, 0, none⟩ = some (.string z.p) := Fut.cell h1 (by first | exact c2_2_0 | go_simp)
    have cx_2_1 : w1.cell? ⟨w.heap.size + 2, 1, none⟩ = some (.slice C z.a.length cc) := Fut.cell h1 (by first | exact c2_2_1 | go_simp)
    go_simp; rfl
  simp only [Act.put, List.setIfInBounds_toArray, List.set_cons_succ, List.set_cons_zero, List.nil_append, List.cons_append]
  apply Run.valG (wanted_none rfl _)
  · intro w1 h1 hk
    have cx_0_0 : w1.cell? ⟨w.heap.size, 0, none⟩ = some (.string x.p) := Fut.cell h1 (by first | exact c2_0_0 | go_simp)
    have cx_0_1 : w1.cell? ⟨w.heap.size, 1, none⟩ = some (.slice A x.a.length ca) := Fut.cell h1 (by first | exact c2_0_1 | go_simp)
    have cx_1_0 : w1.cell? ⟨w.heap.size + 1, 0, none⟩ = some (.string y.p) := Fut.cell h1 (by first | exact c2_1_0 | go_simp)
    have cx_1_1 : w1.cell? ⟨w.heap.size + 1, 1, none⟩ = some (.slice B y.a.length cb) := Fut.cell h1 (by first | exact c2_1_1 | go_simp)
    have cx_2_0 : w1.cell? ⟨w.heap.size + 2, 0, none⟩ = some (.string z.p) := Fut.cell h1 (by first | exact c2_2_0 | go_simp)
    have cx_2_1 : w1.cell? ⟨w.heap.size + 2, 1, none⟩ = some (.slice C z.a.length cc) := Fut.cell h1 (by first | exact c2_2_1 | go_simp)
    go_simp; rfl
  simp only [Act.put, List.setIfInBounds_toArray, List.set_cons_succ, List.set_cons_zero, List.nil_append, List.cons_append]
  apply Run.valG (wanted_none rfl _)
  · intro w1 h1 hk
    have cx_0_0 : w1.cell? ⟨w.heap.size, 0, none⟩ = some (.string x.p) := Fut.cell h1 (by first | exact c2_0_0 | go_simp)
    have cx_0_1 : w1.cell? ⟨w.heap.size, 1, none⟩ = some (.slice A x.a.length ca) := Fut.cell h1 (by first | exact c2_0_1 | go_simp)
    have cx_1_0 : w1.cell? ⟨w.heap.size + 1, 0, none⟩ = some (.string y.p) := Fut.cell h1 (by first | exact c2_1_0 | go_simp)
    have cx_1_1 : w1.cell? ⟨w.heap.size + 1, 1, none⟩ = some (.slice B y.a.length cb) := Fut.cell h1 (by first | exact c2_1_1 | go_simp)
    have cx_2_0 : w1.cell? ⟨w.heap.size + 2, 0, none⟩ = some (.string z.p) := Fut.cell h1 (by first | exact c2_2_0 | go_simp)
    have cx_2_1 : w1.cell? ⟨w.heap.size + 2, 1, none⟩ = some (.slice C z.a.length cc) := Fut.cell h1 (by first | exact c2_2_1 | go_simp)
    go_simp; rfl
  simp only [Act.put, List.setIfInBounds_toArray, List.set_cons_succ, List.set_cons_zero, List.nil_append, List.cons_append]
  apply Run.valG (wanted_none rfl _)
  · intro w1 h1 hk
    have cx_0_0 : w1.cell? ⟨w.heap.size, 0, none⟩ = some (.string x.p) := Fut.cell h1 (by first | exact c2_0_0 | go_simp)
    have cx_0_1 : w1.cell? ⟨w.heap.size, 1, none⟩ = some (.slice A x.a.length ca) := Fut.cell h1 (by first | exact c2_0_1 | go_simp)
    have cx_1_0 : w1.cell? ⟨w.heap.size + 1, 0, none⟩ = some (.string y.p) := Fut.cell h1 (by first | exact c2_1_0 | go_simp)
    have cx_1_1 : w1.cell? ⟨w.heap.size + 1, 1, none⟩ = some (.slice B y.a.length cb) := Fut.cell h1 (by first | exact c2_1_1 | go_simp)
    have cx_2_0 : w1.cell? ⟨w.heap.size + 2, 0, none⟩ = some (.string z.p) := Fut.cell h1 (by first | exact c2_2_0 | go_simp)
    have cx_2_1 : w1.cell? ⟨w.heap.size + 2, 1, none⟩ = some (.slice C z.a.length cc) := Fut.cell h1 (by first | exact c2_2_1 | go_simp)
    go_simp; rfl
  simp only [Act.put, List.setIfInBounds_toArray, List.set_cons_succ, List.set_cons_zero, List.nil_append, List.cons_append]
  apply Run.valG (wanted_none rfl _)
  · intro w1 h1 hk
    have cx_0_0 : w1.cell? ⟨w.heap.size, 0, none⟩ = some (.string x.p) := Fut.cell h1 (by first | exact c2_0_0 | go_simp)
    have cx_0_1 : w1.cell? ⟨w.heap.size, 1, none⟩ = some (.slice A x.a.length ca) := Fut.cell h1 (by first | exact c2_0_1 | go_simp)
    have cx_1_0 : w1.cell? ⟨w.heap.size + 1, 0, none⟩ = some (.string y.p) := Fut.cell h1 (by first | exact c2_1_0 | go_simp)
    have cx_1_1 : w1.cell? ⟨w.heap.size + 1, 1, none⟩ = some (.slice B y.a.length cb) := Fut.cell h1 (by first | exact c2_1_1 | go_simp)
    have cx_2_0 : w1.cell? ⟨w.heap.size + 2, 0, none⟩ = some (.string z.p) := Fut.cell h1 (by first | exact c2_2_0 | go_simp)
    have cx_2_1 : w1.cell? ⟨w.heap.size + 2, 1, none⟩ = some (.slice C z.a.length cc) := Fut.cell h1 (by first | exact c2_2_1 | go_simp)
    go_simp; rfl
  simp only [Act.put, List.setIfInBounds_toArray, List.set_cons_succ, List.set_cons_zero, List.nil_append, List.cons_append]
  apply Run.valG (wanted_none rfl _)
  · intro w1 h1 hk
    have cx_0_0 : w1.cell? ⟨w.heap.size, 0, none⟩ = some (.string x.p) := Fut.cell h1 (by first | exact c2_0_0 | go_simp)
    have cx_0_1 : w1.cell? ⟨w.heap.size, 1, none⟩ = some (.slice A x.a.length ca) := Fut.cell h1 (by first | exact c2_0_1 | go_simp)
    have cx_1_0 : w1.cell? ⟨w.heap.size + 1, 0, none⟩ = some (.string y.p) := Fut.cell h1 (by first | exact c2_1_0 | go_simp)
    have cx_1_1 : w1.cell? ⟨w.heap.size + 1, 1, none⟩ = some (.slice B y.a.length cb) := Fut.cell h1 (by first | exact c2_1_1 | go_simp)
    have cx_2_0 : w1.cell? ⟨w.heap.size + 2, 0, none⟩ = some (.string z.p) := Fut.cell h1 (by first | exact c2_2_0 | go_simp)
    have cx_2_1 : w1.cell? ⟨w.heap.size + 2, 1, none⟩ = some (.slice C z.a.length cc) := Fut.cell h1 (by first | exact c2_2_1 | go_simp)
    go_simp; rfl
  simp only [Act.put, List.setIfInBounds_toArray, List.set_cons_succ, List.set_cons_zero, List.nil_append, List.cons_append]
  apply Run.valG (wanted_none rfl _)
  · intro w1 h1 hk
    have cx_0_0 : w1.cell? ⟨w.heap.size, 0, none⟩ = some (.string x.p) := Fut.cell h1 (by first | exact c2_0_0 | go_simp)
    have cx_0_1 : w1.cell? ⟨w.heap.size, 1, none⟩ = some (.slice A x.a.length ca) := Fut.cell h1 (by first | exact c2_0_1 | go_simp)
    have cx_1_0 : w1.cell? ⟨w.heap.size + 1, 0, none⟩ = some (.string y.p) := Fut.cell h1 (by first | exact c2_1_0 | go_simp)
    have cx_1_1 : w1.cell? ⟨w.heap.size + 1, 1, none⟩ = some (.slice B y.a.length cb) := Fut.cell h1 (by first | exact c2_1_1 | go_simp)
    have cx_2_0 : w1.cell? ⟨w.heap.size + 2, 0, none⟩ = some (.string z.p) := Fut.cell h1 (by first | exact c2_2_0 | go_simp)
    have cx_2_1 : w1.cell? ⟨w.heap.size + 2, 1, none⟩ = some (.slice C z.a.length cc) := Fut.cell h1 (by first | exact c2_2_1 | go_simp)
    go_simp; rfl
  simp only [Act.put, List.setIfInBounds_toArray, List.set_cons_succ, List.set_cons_zero, List.nil_append, List.cons_append]
  apply Run.valG (wanted_none rfl _)
  · intro w1 h1 hk
    have cx_0_0 : w1.cell? ⟨w.heap.size, 0, none⟩ = some (.string x.p) := Fut.cell h1 (by first | exact c2_0_0 | go_simp)
    have cx_0_1 : w1.cell? ⟨w.heap.size, 1, none⟩ = some (.slice A x.a.length ca) := Fut.cell h1 (by first | exact c2_0_1 | go_simp)
    have cx_1_0 : w1.cell? ⟨w.heap.size + 1, 0, none⟩ = some (.string y.p) := Fut.cell h1 (by first | exact c2_1_0 | go_simp)
    have cx_1_1 : w1.cell? ⟨w.heap.size + 1, 1, none⟩ = some (.slice B y.a.length cb) := Fut.cell h1 (by first | exact c2_1_1 | go_simp)
    have cx_2_0 : w1.cell? ⟨w.heap.size + 2, 0, none⟩ = some (.string z.p) := Fut.cell h1 (by first | exact c2_2_0 | go_simp)
    have cx_2_1 : w1.cell? ⟨w.heap.size + 2, 1, none⟩ = some (.slice C z.a.length cc) := Fut.cell h1 (by first | exact c2_2_1 | go_simp)
    go_simp; rfl
  simp only [Act.put, List.setIfInBounds_toArray, List.set_cons_succ, List.set_cons_zero, List.nil_append, List.cons_append]
  apply Run.valG (wanted_none rfl _)
  · intro w1 h1 hk
    have cx_0_0 : w1.cell? ⟨w.heap.size, 0, none⟩ = some (.string x.p) := Fut.cell h1 (by first | exact c2_0_0 | go_simp)
    have cx_0_1 : w1.cell? ⟨w.heap.size, 1, none⟩ = some (.slice A x.a.length ca) := Fut.cell h1 (by first | exact c2_0_1 | go_simp)
    have cx_1_0 : w1.cell? ⟨w.heap.size + 1, 0, none⟩ = some (.string y.p) := Fut.cell h1 (by first | exact c2_1_0 | go_simp)
    have cx_1_1 : w1.cell? ⟨w.heap.size + 1, 1, none⟩ = some (.slice B y.a.length cb) := Fut.cell h1 (by first | exact c2_1_1 | go_simp)
    have cx_2_0 : w1.cell? ⟨w.heap.size + 2, 0, none⟩ = some (.string z.p) := Fut.cell h1 (by first | exact c2_2_0 | go_simp)
    have cx_2_1 : w1.cell? ⟨w.heap.size + 2, 1, none⟩ = some (.slice C z.a.length cc) := Fut.cell h1 (by first | exact c2_2_1 | go_simp)
    go_simp; rfl
  simp only [Act.put, List.setIfInBounds_toArray, List.set_cons_succ, List.set_cons_zero, List.nil_append, List.cons_append]
  apply Run.done
  intro w3 h3 hk
  have c3_0_0 : w3.cell? ⟨w.heap.size, 0, none⟩ = some (.string x.p) := Fut.cell h3 (by first | exact c2_0_0 | go_simp)
  have c3_0_1 : w3.cell? ⟨w.heap.size, 1, none⟩ = some (.slice A x.a.length ca) := Fut.cell h3 (by first | exact c2_0_1 | go_simp)
  have c3_1_0 : w3.cell? ⟨w.heap.size + 1, 0, none⟩ = some (.string y.p) := Fut.cell h3 (by first | exact c2_1_0 | go_simp)
  have c3_1_1 : w3.cell? ⟨w.heap.size + 1, 1, none⟩ = some (.slice B y.a.length cb) := Fut.cell h3 (by first | exact c2_1_1 | go_simp)
  have c3_2_0 : w3.cell? ⟨w.heap.size + 2, 0, none⟩ = some (.string z.p) := Fut.cell h3 (by first | exact c2_2_0 | go_simp)
  have c3_2_1 : w3.cell? ⟨w.heap.size + 2, 1, none⟩ = some (.slice C z.a.length cc) := Fut.cell h3 (by first | exact c2_2_1 | go_simp)
  clear hk
  have F3 : Fut w w3 := F2.trans ((Fut.drew _).trans h3)
  go_wp2_with fail
  refine (num_any _ _).mono ?_
  rintro e w4 ⟨rfl, h4⟩
  have F4 := F3.trans h4
  have c4_0_0 := h4.cell c3_0_0
  have c4_0_1 := h4.cell c3_0_1
  have c4_1_0 := h4.cell c3_1_0
  have c4_1_1 := h4.cell c3_1_1
  have c4_2_0 := h4.cell c3_2_0
  have c4_2_1 := h4.cell c3_2_1
  obtain ⟨bz, oz, rfl, hok, z0, z1, z2⟩ := Vals.at_ (HZ.out.vals.fut RV.stays F4) E2.out
  rw [show z.a[0]'E2.out = v from (List.getElem?_eq_some_iff.1 E0.out).2] at hok z0 z1 z2
  have y0 := fun o => (Fut.alloc w4 o).cell z0
  have y1 := fun o => (Fut.alloc w4 o).cell z1
  have y2 := fun o => (Fut.alloc w4 o).cell z2
  simp only [Nat.zero_mul, Nat.add_zero] at y0 y1 y2
  have HOK := Lib.hid hok; clear hok z0 z1 z2
  simp only [numV, V.val]
  go_wp2_with fail
  refine (cmpT_any _ _ x.a y.a _ (HX.out.vals.fut RV.stays (F4.trans (Fut.alloc _ _))) (HY.out.vals.fut RV.stays (F4.trans (Fut.alloc _ _)))).mono ?_
  rintro e w5 ⟨rfl, h5⟩
  have F5 := (F4.trans (Fut.alloc _ _)).trans h5
  have H5 := h5
  go_wp2_with fail
  refine (cmpT_any _ _ y.a z.a _ (HY.out.vals.fut RV.stays F5) (HZ.out.vals.fut RV.stays F5)).mono ?_
  rintro e w6 ⟨rfl, h6⟩
  have F6 := F5.trans h6
  have H6 := H5.trans h6
  go_wp2_with fail
  refine (cmpT_any _ _ x.a z.a _ (HX.out.vals.fut RV.stays F6) (HZ.out.vals.fut RV.stays F6)).mono ?_
  rintro e w7 ⟨rfl, h7⟩
  have F7 := F6.trans h7
  have H7 := H6.trans h7
  go_wp2_with fail
  refine (cmpT_any _ _ y.a x.a _ (HY.out.vals.fut RV.stays F7) (HX.out.vals.fut RV.stays F7)).mono ?_
  rintro e w8 ⟨rfl, h8⟩
  have F8 := F7.trans h8
  have H8 := H7.trans h8
  go_wp2_with fail
  refine (cmpT_any _ _ z.a y.a _ (HZ.out.vals.fut RV.stays F8) (HY.out.vals.fut RV.stays F8)).mono ?_
  rintro e w9 ⟨rfl, h9⟩
  have F9 := F8.trans h9
  have H9 := H8.trans h9
  go_wp2_with fail
  refine (cmpT_any _ _ z.a x.a _ (HZ.out.vals.fut RV.stays F9) (HX.out.vals.fut RV.stays F9)).mono ?_
  rintro e w10 ⟨rfl, h10⟩
  have F10 := F9.trans h10
  have H10 := H9.trans h10
  go_wp2_with fail
  refine (same_any _ _ x.a y.a _ (HX.out.vals.fut RV.stays F10) (HY.out.vals.fut RV.stays F10)).mono ?_
  rintro e w11 ⟨rfl, h11⟩
  have F11 := F10.trans h11
  have H11 := H10.trans h11
  go_wp2_with fail
  refine (same_any _ _ y.a z.a _ (HY.out.vals.fut RV.stays F11) (HZ.out.vals.fut RV.stays F11)).mono ?_
  rintro e w12 ⟨rfl, h12⟩
  have F12 := F11.trans h12
  have H12 := H11.trans h12
  go_wp2_with fail
  refine (same_any _ _ x.a z.a _ (HX.out.vals.fut RV.stays F12) (HZ.out.vals.fut RV.stays F12)).mono ?_
  rintro e w13 ⟨rfl, h13⟩
  have F13 := F12.trans h13
  have H13 := H12.trans h13
  go_wp2_with fail
  refine (ordered_any ordT x.a y.a z.a _).mono ?_
  rintro e w14 ⟨rfl, h14⟩
  have F14 := F13.trans h14
  have H14 := H13.trans h14
  have c14_0_0 := H14.cell ((Fut.alloc _ _).cell c4_0_0)
  have c14_0_1 := H14.cell ((Fut.alloc _ _).cell c4_0_1)
  have c14_1_0 := H14.cell ((Fut.alloc _ _).cell c4_1_0)
  have c14_1_1 := H14.cell ((Fut.alloc _ _).cell c4_1_1)
  have c14_2_0 := H14.cell ((Fut.alloc _ _).cell c4_2_0)
  have c14_2_1 := H14.cell ((Fut.alloc _ _).cell c4_2_1)
  have k14_0 : w14.cell? ⟨w4.heap.size, 0, none⟩ = some (.int .i8 v.k) := H14.cell (by go_simp)
  have k14_1 : w14.cell? ⟨w4.heap.size, 1, none⟩ = some (.int .i64 v.n) := H14.cell (by go_simp)
  have k14_2 : w14.cell? ⟨w4.heap.size, 2, none⟩ = some (.string v.s) := H14.cell (by go_simp)
  clear c4_0_0 c4_0_1 c4_1_0 c4_1_1 c4_2_0 c4_2_1
  have k_0 := k14_0
  have k_1 := k14_1
  have k_2 := k14_2
  obtain ⟨W, hW⟩ : ∃ W, W = w14 := ⟨_, rfl⟩
  have FW : Fut w W := hW ▸ F14
  rw [← hW] at k_0 k_1 k_2
  subst hW
  go_wp2
  refine wp_graph 4 [.d, .r (fun u ww => OwnV W.heap.size 25 ww u x.a), .d, .r (fun u ww => Vals ww u [v])] (by kernel_rfl) (by kernel_rfl) (by kernel_rfl) ?_
  simp only [List.take_succ_cons, List.take_zero, List.drop_succ_cons, List.drop_zero, Exs]
  iterate 2 apply Exists.intro
  apply Run.valG (wanted_none rfl _)
  · intro w1 h1 hk
    have q0 := h1.cell k_0; have q1' := h1.cell k_1; have q2' := h1.cell k_2
    have hcw := fun b o => Below.cell (p := ⟨b, o, none⟩) h1
    go_simp; rfl
  simp only [Act.put, List.setIfInBounds_toArray, List.set_cons_succ, List.set_cons_zero, List.nil_append, List.cons_append]
  apply Run.valR (wanted_none rfl _) (by intro v w w' hf hs; exact hs.fut RV.stays hf)
  · intro w1 h1 hk
    have q0 := h1.cell k_0; have q1' := h1.cell k_1; have q2' := h1.cell k_2
    (obtain ⟨v', w', hr, g2, g3⟩ := run_append_V (ty := 44) (t := 44) Tryd.underlying44 infoV (OwnL.nil (B := W.heap.size) (w := w1)) (HX.out.vals.fut RV.stays (FW.trans ((Fut.drew _).trans h1))) (by have := HL.out; simp; omega) (by have := h1.size; simpa using this); exact ⟨v', w', run_op_append rfl rfl rfl hr, Fut.grown (Fut.refl _) g3 (fun k hk => by cases hk), g2⟩)
  intro v1
  simp only [Act.put, List.setIfInBounds_toArray, List.set_cons_succ, List.set_cons_zero, List.nil_append, List.cons_append]
  apply Run.valG (wanted_none rfl _)
  · intro w1 h1 hk
    have q0 := h1.cell k_0; have q1' := h1.cell k_1; have q2' := h1.cell k_2
    have hcw := fun b o => Below.cell (p := ⟨b, o, none⟩) h1
    go_simp; rfl
  simp only [Act.put, List.setIfInBounds_toArray, List.set_cons_succ, List.set_cons_zero, List.nil_append, List.cons_append]
  apply Run.valR (wanted_none rfl _) (by intro v w w' hf hs; exact hs.fut RV.stays hf)
  · intro w1 h1 hk
    have q0 := h1.cell k_0; have q1' := h1.cell k_1; have q2' := h1.cell k_2
    go_simp; exact ⟨_, _, ⟨rfl, rfl⟩, Fut.alloc _ _, (own_one w1 v HOK.out _ 0 (Nat.zero_le _)).vals⟩
  intro v3
  simp only [Act.put, List.setIfInBounds_toArray, List.set_cons_succ, List.set_cons_zero, List.nil_append, List.cons_append]
  apply Run.done
  intro w20 h20 hk
  obtain ⟨f1, f3, _⟩ := hk
  refine wpList_append_V (by go_simp) _ _ 44 25 rfl Tryd.underlying44 infoV W.heap.size _ _ x.a [v] rfl rfl f1 f3 (by have := HL.out; simp; omega) (by have := h20.size; simpa using this) ?_
  intro v21 w21 o21 g21
  have W21 : Fut W w21 := Fut.grown ((Fut.drew _).trans h20) g21 (fun k hk => (f1.block k hk).1)
  have F21 := FW.trans W21
  go_wp2_with fail
  refine (show Calls Tryd.prog 27 _ _ _ from (by have := cmpT_any _ _ x.a (x.a ++ [v]) w21 (HX.out.vals.fut RV.stays F21) o21.vals; rw [cmpT_more] at this; exact this)).mono ?_
  rintro e w22 ⟨rfl, h22⟩
  have F22 := F21.trans h22
  go_wp2_with (at_builtin; refine wpList_append_V (by go_simp) _ _ 44 25 rfl Tryd.underlying44 infoV w22.heap.size _ _ [] x.a rfl rfl (OwnL.nil) (HX.out.vals.fut RV.stays F22) ?l23 ?b23 ?k23)
  case l23 => have := HL.out; simp; omega
  case b23 => first | exact Nat.le_refl _ | exact (Below.size (Fut.refl w22))
  case k23 =>
  intro v23 w23 o23 g23
  have W23 : Fut w22 w23 := Fut.grown (Fut.refl _) g23 (fun k hk => by cases hk)
  have F23 := F22.trans W23
  go_wp2_with (at_builtin; refine wpList_append_V (by go_simp) _ _ 44 25 rfl Tryd.underlying44 infoV w22.heap.size _ _ x.a y.a rfl rfl o23 (HY.out.vals.fut RV.stays F23) ?l24 ?b24 ?k24)
  case l24 => have := HL.out; simp; omega
  case b24 => first | exact Nat.le_refl _ | exact (Below.size W23)
  case k24 =>
  intro v24 w24 o24 g24
  have W24 : Fut w22 w24 := Fut.grown W23 g24 (fun k hk => (o23.block k hk).1)
  have F24 := F22.trans W24
  go_wp2_with (at_builtin; refine wpList_append_V (by go_simp) _ _ 44 25 rfl Tryd.underlying44 infoV w24.heap.size _ _ [] x.a rfl rfl (OwnL.nil) (HX.out.vals.fut RV.stays F24) ?l25 ?b25 ?k25)
  case l25 => have := HL.out; simp; omega
  case b25 => first | exact Nat.le_refl _ | exact (Below.size (Fut.refl w24))
  case k25 =>
  intro v25 w25 o25 g25
  have W25 : Fut w24 w25 := Fut.grown (Fut.refl _) g25 (fun k hk => by cases hk)
  have F25 := F24.trans W25
  go_wp2_with (at_builtin; refine wpList_append_V (by go_simp) _ _ 44 25 rfl Tryd.underlying44 infoV w24.heap.size _ _ x.a z.a rfl rfl o25 (HZ.out.vals.fut RV.stays F25) ?l26 ?b26 ?k26)
  case l26 => have := HL.out; simp; omega
  case b26 => first | exact Nat.le_refl _ | exact (Below.size W25)
  case k26 =>
  intro v26 w26 o26 g26
  have W26 : Fut w24 w26 := Fut.grown W25 g26 (fun k hk => (o25.block k hk).1)
  have F26 := F24.trans W26
  try simp only [List.nil_append] at o24 o26
  go_wp2_with fail
  refine (show Calls Tryd.prog 27 _ _ _ from (by have := cmpT_any _ _ (x.a ++ y.a) (x.a ++ z.a) w26 (o24.vals.fut RV.stays W26) o26.vals; rw [cmpT_ahead] at this; exact this)).mono ?_
  rintro e w27 ⟨rfl, h27⟩
  have F27 := F26.trans h27
  go_wp2_with fail
  refine (cmpT_any _ _ y.a z.a _ (HY.out.vals.fut RV.stays F27) (HZ.out.vals.fut RV.stays F27)).mono ?_
  rintro e w28 ⟨rfl, h28⟩
  have F28 := F27.trans h28
  have W28 : Fut W w28 := W21.trans (h22.trans (W24.trans (W26.trans (h27.trans h28))))
  have k28_0 := W28.cell k_0
  have k28_1 := W28.cell k_1
  have k28_2 := W28.cell k_2
  go_wp2
  refine wp_graph 4 [.d, .d, .d, .d] (by kernel_rfl) (by kernel_rfl) (by kernel_rfl) ?_
  simp only [List.take_succ_cons, List.take_zero, List.drop_succ_cons, List.drop_zero, Exs]
  iterate 4 apply Exists.intro
  apply Run.valG (wanted_none rfl _)
  · intro w1 h1 hk
    have q0 := h1.cell k28_0; have q1' := h1.cell k28_1; have q2' := h1.cell k28_2
    have hcw := fun b o => Below.cell (p := ⟨b, o, none⟩) h1
    go_simp; rfl
  simp only [Act.put, List.setIfInBounds_toArray, List.set_cons_succ, List.set_cons_zero, List.nil_append, List.cons_append]
  apply Run.call (wanted_none rfl _) (fun _ _ => by go_simp; exact ⟨rfl, rfl⟩)
  · intro w1 h1 hk
    have q0 := h1.cell k28_0; have q1' := h1.cell k28_1; have q2' := h1.cell k28_2
    exact num_any 0 _
  simp only [Act.put, List.setIfInBounds_toArray, List.set_cons_succ, List.set_cons_zero, List.nil_append, List.cons_append]
  apply Run.call (wanted_none rfl _) (fun _ _ => by go_simp; exact ⟨rfl, rfl⟩)
  · intro w1 h1 hk
    have q0 := h1.cell k28_0; have q1' := h1.cell k28_1; have q2' := h1.cell k28_2
    have := compare_any v (numV 0) w1; rw [E1.out] at this; exact this
  simp only [Act.put, List.setIfInBounds_toArray, List.set_cons_succ, List.set_cons_zero, List.nil_append, List.cons_append]
  apply Run.valG (wanted_none rfl _)
  · intro w1 h1 hk
    have q0 := h1.cell k28_0; have q1' := h1.cell k28_1; have q2' := h1.cell k28_2
    have hcw := fun b o => Below.cell (p := ⟨b, o, none⟩) h1
    go_simp; rfl
  simp only [Act.put, List.setIfInBounds_toArray, List.set_cons_succ, List.set_cons_zero, List.nil_append, List.cons_append]
  apply Run.done
  intro w29 h29 hk
  clear hk
  have F29 := F28.trans ((Fut.drew _).trans h29)
  go_wp2
  go_ret
  exact ⟨rfl, F29⟩

end Go.Proofs.YtailfcodbibnjaaDoor
