/- lives; value.Show of a name. -/
import Derived.Test.YtlihkmldclocoaaDoorName
namespace Go.Proofs.YtlihkmldclocoaaDoor
open Go.RowKit
set_option linter.unusedSimpArgs false
set_option linter.unusedVariables false

set_option maxHeartbeats 1600000 in
theorem show_name (s : ByteArray) (w : World) (hs : s.size ≤ 120) (hn : nameV s = true) :
    Calls Tryd.prog 15 #[(txtV s).val] w fun e w' => e = .returned (.tuple #[.string s, .int .i64 0]) ∧ Fut w w' := by
  unfold txtV V.val
  go_enter Tryd.func15, Tryd.ntmps15
  go_wp2_with fail
  refine (check_any _ _ _ _ (by omega)).mono ?_
  rintro e w1 ⟨rfl, h1⟩
  rw [show chk 2 0 s = 0 by simp [chk]; omega]
  have c0 : w1.cell? ⟨w.heap.size, 0, none⟩ = some (.int .i8 2) := h1.cell (by go_simp)
  have c2 : w1.cell? ⟨w.heap.size, 2, none⟩ = some (.string s) := h1.cell (by go_simp)
  go_wp2_with fail
  refine (name_any s _ (by omega)).mono ?_
  rintro e w2 ⟨rfl, h2⟩
  have d2 := h2.cell c2
  rw [hn]
  go_wp2
  exact bodyPost_ret (v := .tuple #[.string s, .int .i64 0]) (by simp [results, Tryd.results15, go_sem]) rfl ⟨rfl, (Fut.alloc _ _).trans (h1.trans h2)⟩

theorem vals_two (w : World) (x y : V) (hx : x.ok) (hy : y.ok) (e : TypeId) : Vals (w.alloc (.cells #[.int .i8 x.k, .int .i64 x.n, .string x.s, .int .i8 y.k, .int .i64 y.n, .string y.s] e)) (.slice (some ⟨w.heap.size, 0, none⟩) 2 2) [x, y] := by
  refine vals_of_blk (N := 6) (xs := [x, y]) (BlkF.new w e #[.int .i8 x.k, .int .i64 x.n, .string x.s, .int .i8 y.k, .int .i64 y.n, .string y.s]) (by simp) (fun j hj => ?_) (by simp) (by simp) (by simp [hx, hy])
  simp at hj
  rcases (by omega : j = 0 ∨ j = 1 ∨ j = 2 ∨ j = 3 ∨ j = 4 ∨ j = 5) with rfl | rfl | rfl | rfl | rfl | rfl <;> rfl
theorem numV_ok (n : Int) (h : (Lit.int .i64 n).wf = true) : (numV n).ok := ⟨(by decide : (Lit.int .i8 1).wf = true), h, Nat.zero_le _⟩
theorem good_num (n : Int) : good 1 (numV n) = true := by simp [good, numV, chk, ByteArray.toList_eq]
theorem good_txt (s : ByteArray) (h : s.size ≤ 200) : good 2 (txtV s) = true := by simp [good, txtV, chk, h]

def boB : ByteArray := ⟨#[98, 111]⟩
theorem name_bo : nameV boB = true := by unfold nameV keyB; rw [ByteArray.toList_eq]; decide
theorem cmp_31 : cmpV (numV 3) (txtV ⟨#[]⟩) = -1 := by simp [cmpV, firstNZ, cmpI, numV, txtV]
theorem cmp_32 : cmpV (numV 3) (numV 2) = 1 := by simp [cmpV, firstNZ, cmpI, numV]
set_option maxHeartbeats 1600000 in
theorem lives_any (w : World) (hT : Takes w) : Calls Tryd.prog 14 #[] w fun e w' => e = .returned (.bool true) ∧ Fut w w' := by
  have hT7 : (Lit.int .i64 7).wf = true := by decide
  have hT5 : (Lit.int .i64 5).wf = true := by decide
  go_enter Tryd.func14, Tryd.ntmps14
  go_wp2_with fail
  refine (num_any 7 _).mono ?_
  rintro e w1 ⟨rfl, h1⟩
  go_wp2_with fail
  refine (num_any 5 _).mono ?_
  rintro e w2 ⟨rfl, h2⟩
  simp only [numV, V.val]
  go_wp2_with fail
  have hF2 : Fut w w2 := h1.trans h2
  refine (arith3_any _ (numV 7) (numV 5) _ (hT.fut (hF2.trans (Fut.alloc _ _))) (vals_two w2 (numV 7) (numV 5) (numV_ok _ hT7) (numV_ok _ hT5) _) (good_num _) (good_num _)).mono ?_
  rintro e w3 ⟨rfl, h3⟩
  have hF3 : Fut w w3 := hF2.trans ((Fut.alloc _ _).trans h3)
  rw [show wrap64 ((numV 7).n - (numV 5).n) = 2 by simp [numV, wrap64]]
  simp only [pairV, numV, V.val]
  go_wp2_with fail
  refine (word_any boB _).mono ?_
  rintro e w4 ⟨rfl, h4⟩
  have g40 : w4.cell? ⟨w3.heap.size, 0, none⟩ = some (.int .i8 1) := h4.cell (by go_simp)
  have g41 : w4.cell? ⟨w3.heap.size, 1, none⟩ = some (.int .i64 2) := h4.cell (by go_simp)
  have g42 : w4.cell? ⟨w3.heap.size, 2, none⟩ = some (.string ⟨#[]⟩) := h4.cell (by go_simp)
  simp only [txtV, V.val]
  go_wp2_with fail
  refine (show_name boB _ (by decide) name_bo).mono ?_
  rintro e w5 ⟨rfl, h5⟩
  have g50 := h5.cell g40
  have g51 := h5.cell g41
  have g52 := h5.cell g42
  go_wp2
  have hbo : (boB.toList == [98, 111]) = true := by rw [ByteArray.toList_eq]; rfl
  have hF5 : Fut w w5 := hF3.trans ((Fut.alloc _ _).trans (h4.trans h5))
  refine wp_graph 27 [.d, .d, .d, .d, .d, .d, .d, .d, .d, .d, .d, .d, .d, .d, .d, .d, .d, .d, .d, .d, .d, .d, .d, .d, .d, .d, .d] (by kernel_rfl) (by kernel_rfl) (by kernel_rfl) ?_
  simp only [List.take_succ_cons, List.take_zero, List.drop_succ_cons, List.drop_zero, Exs]
  iterate 27 apply Exists.intro
  apply Run.valG (wanted_none rfl _)
  · intro w1 h1 hk
    have q0 := h1.cell g50; have q1 := h1.cell g51; have q2 := h1.cell g52
    have hcw := fun b o => Below.cell (p := ⟨b, o, none⟩) h1
    go_simp; rfl
  simp only [Act.put, List.setIfInBounds_toArray, List.set_cons_succ, List.set_cons_zero, List.nil_append, List.cons_append]
  apply Run.valG (wanted_none rfl _)
  · intro w1 h1 hk
    have q0 := h1.cell g50; have q1 := h1.cell g51; have q2 := h1.cell g52
    have hcw := fun b o => Below.cell (p := ⟨b, o, none⟩) h1
    go_simp; rfl
  simp only [Act.put, List.setIfInBounds_toArray, List.set_cons_succ, List.set_cons_zero, List.nil_append, List.cons_append]
  apply Run.valG (by go_simp)
  · intro w1 h1 hk
    have q0 := h1.cell g50; have q1 := h1.cell g51; have q2 := h1.cell g52
    have hcw := fun b o => Below.cell (p := ⟨b, o, none⟩) h1
    go_simp; rfl
  simp only [Act.put, List.setIfInBounds_toArray, List.set_cons_succ, List.set_cons_zero, List.nil_append, List.cons_append]
  apply Run.call (by go_simp) (fun _ _ => by go_simp; exact ⟨rfl, rfl⟩)
  · intro w1 h1 hk
    have q0 := h1.cell g50; have q1 := h1.cell g51; have q2 := h1.cell g52
    exact num_any 2 _
  simp only [Act.put, List.setIfInBounds_toArray, List.set_cons_succ, List.set_cons_zero, List.nil_append, List.cons_append]
  apply Run.valG (by go_simp)
  · intro w1 h1 hk
    have q0 := h1.cell g50; have q1 := h1.cell g51; have q2 := h1.cell g52
    have hcw := fun b o => Below.cell (p := ⟨b, o, none⟩) h1
    exact (exec_eqV rfl (numV 2) (numV 2) rfl rfl w1).trans (by rw [decide_eq_true rfl])
  simp only [Act.put, List.setIfInBounds_toArray, List.set_cons_succ, List.set_cons_zero, List.nil_append, List.cons_append]
  apply Run.valG (wanted_none rfl _)
  · intro w1 h1 hk
    have q0 := h1.cell g50; have q1 := h1.cell g51; have q2 := h1.cell g52
    have hcw := fun b o => Below.cell (p := ⟨b, o, none⟩) h1
    go_simp; rfl
  simp only [Act.put, List.setIfInBounds_toArray, List.set_cons_succ, List.set_cons_zero, List.nil_append, List.cons_append]
  apply Run.valG (wanted_none rfl _)
  · intro w1 h1 hk
    have q0 := h1.cell g50; have q1 := h1.cell g51; have q2 := h1.cell g52
    have hcw := fun b o => Below.cell (p := ⟨b, o, none⟩) h1
    go_simp; rfl
  simp only [Act.put, List.setIfInBounds_toArray, List.set_cons_succ, List.set_cons_zero, List.nil_append, List.cons_append]
  apply Run.valG (by go_simp)
  · intro w1 h1 hk
    have q0 := h1.cell g50; have q1 := h1.cell g51; have q2 := h1.cell g52
    have hcw := fun b o => Below.cell (p := ⟨b, o, none⟩) h1
    go_simp; rfl
  simp only [Act.put, List.setIfInBounds_toArray, List.set_cons_succ, List.set_cons_zero, List.nil_append, List.cons_append]
  apply Run.valG (by go_simp)
  · intro w1 h1 hk
    have q0 := h1.cell g50; have q1 := h1.cell g51; have q2 := h1.cell g52
    have hcw := fun b o => Below.cell (p := ⟨b, o, none⟩) h1
    go_simp; rfl
  simp only [Act.put, List.setIfInBounds_toArray, List.set_cons_succ, List.set_cons_zero, List.nil_append, List.cons_append]
  apply Run.valG (wanted_none rfl _)
  · intro w1 h1 hk
    have q0 := h1.cell g50; have q1 := h1.cell g51; have q2 := h1.cell g52
    have hcw := fun b o => Below.cell (p := ⟨b, o, none⟩) h1
    go_simp; rfl
  simp only [Act.put, List.setIfInBounds_toArray, List.set_cons_succ, List.set_cons_zero, List.nil_append, List.cons_append]
  apply Run.valG (wanted_none rfl _)
  · intro w1 h1 hk
    have q0 := h1.cell g50; have q1 := h1.cell g51; have q2 := h1.cell g52
    have hcw := fun b o => Below.cell (p := ⟨b, o, none⟩) h1
    go_simp; rfl
  simp only [Act.put, List.setIfInBounds_toArray, List.set_cons_succ, List.set_cons_zero, List.nil_append, List.cons_append]
  apply Run.valG (by go_simp)
  · intro w1 h1 hk
    have q0 := h1.cell g50; have q1 := h1.cell g51; have q2 := h1.cell g52
    have hcw := fun b o => Below.cell (p := ⟨b, o, none⟩) h1
    go_simp; rfl
  simp only [Act.put, List.setIfInBounds_toArray, List.set_cons_succ, List.set_cons_zero, List.nil_append, List.cons_append]
  apply Run.valG (by go_simp)
  · intro w1 h1 hk
    have q0 := h1.cell g50; have q1 := h1.cell g51; have q2 := h1.cell g52
    have hcw := fun b o => Below.cell (p := ⟨b, o, none⟩) h1
    go_simp; rfl
  simp only [Act.put, List.setIfInBounds_toArray, List.set_cons_succ, List.set_cons_zero, List.nil_append, List.cons_append]
  apply Run.valG (wanted_none rfl _)
  · intro w1 h1 hk
    have q0 := h1.cell g50; have q1 := h1.cell g51; have q2 := h1.cell g52
    have hcw := fun b o => Below.cell (p := ⟨b, o, none⟩) h1
    go_simp; rfl
  simp only [Act.put, List.setIfInBounds_toArray, List.set_cons_succ, List.set_cons_zero, List.nil_append, List.cons_append]
  apply Run.valG (wanted_none rfl _)
  · intro w1 h1 hk
    have q0 := h1.cell g50; have q1 := h1.cell g51; have q2 := h1.cell g52
    have hcw := fun b o => Below.cell (p := ⟨b, o, none⟩) h1
    go_simp; rfl
  simp only [Act.put, List.setIfInBounds_toArray, List.set_cons_succ, List.set_cons_zero, List.nil_append, List.cons_append]
  apply Run.call (by go_simp) (fun _ _ => by go_simp; exact ⟨rfl, rfl⟩)
  · intro w1 h1 hk
    have q0 := h1.cell g50; have q1 := h1.cell g51; have q2 := h1.cell g52
    exact num_any 3 _
  simp only [Act.put, List.setIfInBounds_toArray, List.set_cons_succ, List.set_cons_zero, List.nil_append, List.cons_append]
  apply Run.call (by go_simp) (fun _ _ => by go_simp; exact ⟨rfl, rfl⟩)
  · intro w1 h1 hk
    have q0 := h1.cell g50; have q1 := h1.cell g51; have q2 := h1.cell g52
    exact word_any ⟨#[]⟩ _
  simp only [Act.put, List.setIfInBounds_toArray, List.set_cons_succ, List.set_cons_zero, List.nil_append, List.cons_append]
  apply Run.call (by go_simp) (fun _ _ => by go_simp; exact ⟨rfl, rfl⟩)
  · intro w1 h1 hk
    have q0 := h1.cell g50; have q1 := h1.cell g51; have q2 := h1.cell g52
    have := compare_any (numV 3) (txtV ⟨#[]⟩) w1; rw [cmp_31] at this; exact this
  simp only [Act.put, List.setIfInBounds_toArray, List.set_cons_succ, List.set_cons_zero, List.nil_append, List.cons_append]
  apply Run.valG (by go_simp)
  · intro w1 h1 hk
    have q0 := h1.cell g50; have q1 := h1.cell g51; have q2 := h1.cell g52
    have hcw := fun b o => Below.cell (p := ⟨b, o, none⟩) h1
    go_simp; rfl
  simp only [Act.put, List.setIfInBounds_toArray, List.set_cons_succ, List.set_cons_zero, List.nil_append, List.cons_append]
  apply Run.valG (wanted_none rfl _)
  · intro w1 h1 hk
    have q0 := h1.cell g50; have q1 := h1.cell g51; have q2 := h1.cell g52
    have hcw := fun b o => Below.cell (p := ⟨b, o, none⟩) h1
    go_simp; rfl
  simp only [Act.put, List.setIfInBounds_toArray, List.set_cons_succ, List.set_cons_zero, List.nil_append, List.cons_append]
  apply Run.valG (wanted_none rfl _)
  · intro w1 h1 hk
    have q0 := h1.cell g50; have q1 := h1.cell g51; have q2 := h1.cell g52
    have hcw := fun b o => Below.cell (p := ⟨b, o, none⟩) h1
    go_simp; rfl
  simp only [Act.put, List.setIfInBounds_toArray, List.set_cons_succ, List.set_cons_zero, List.nil_append, List.cons_append]
  apply Run.call (by go_simp) (fun _ _ => by go_simp; exact ⟨rfl, rfl⟩)
  · intro w1 h1 hk
    have q0 := h1.cell g50; have q1 := h1.cell g51; have q2 := h1.cell g52
    exact num_any 3 _
  simp only [Act.put, List.setIfInBounds_toArray, List.set_cons_succ, List.set_cons_zero, List.nil_append, List.cons_append]
  apply Run.call (by go_simp) (fun _ _ => by go_simp; exact ⟨rfl, rfl⟩)
  · intro w1 h1 hk
    have q0 := h1.cell g50; have q1 := h1.cell g51; have q2 := h1.cell g52
    exact num_any 2 _
  simp only [Act.put, List.setIfInBounds_toArray, List.set_cons_succ, List.set_cons_zero, List.nil_append, List.cons_append]
  apply Run.call (by go_simp) (fun _ _ => by go_simp; exact ⟨rfl, rfl⟩)
  · intro w1 h1 hk
    have q0 := h1.cell g50; have q1 := h1.cell g51; have q2 := h1.cell g52
    have := compare_any (numV 3) (numV 2) w1; rw [cmp_32] at this; exact this
  simp only [Act.put, List.setIfInBounds_toArray, List.set_cons_succ, List.set_cons_zero, List.nil_append, List.cons_append]
  apply Run.valG (by go_simp)
  · intro w1 h1 hk
    have q0 := h1.cell g50; have q1 := h1.cell g51; have q2 := h1.cell g52
    have hcw := fun b o => Below.cell (p := ⟨b, o, none⟩) h1
    go_simp; rfl
  simp only [Act.put, List.setIfInBounds_toArray, List.set_cons_succ, List.set_cons_zero, List.nil_append, List.cons_append]
  apply Run.valG (wanted_none rfl _)
  · intro w1 h1 hk
    have q0 := h1.cell g50; have q1 := h1.cell g51; have q2 := h1.cell g52
    have hcw := fun b o => Below.cell (p := ⟨b, o, none⟩) h1
    go_simp; rfl
  simp only [Act.put, List.setIfInBounds_toArray, List.set_cons_succ, List.set_cons_zero, List.nil_append, List.cons_append]
  apply Run.valG (wanted_none rfl _)
  · intro w1 h1 hk
    have q0 := h1.cell g50; have q1 := h1.cell g51; have q2 := h1.cell g52
    have hcw := fun b o => Below.cell (p := ⟨b, o, none⟩) h1
    go_simp; rfl
  simp only [Act.put, List.setIfInBounds_toArray, List.set_cons_succ, List.set_cons_zero, List.nil_append, List.cons_append]
  apply Run.done
  intro w2 h2 hk
  clear hk
  go_wp2
  go_ret
  exact ⟨rfl, hF5.trans ((Fut.drew _).trans h2)⟩

end Go.Proofs.YtlihkmldclocoaaDoor
