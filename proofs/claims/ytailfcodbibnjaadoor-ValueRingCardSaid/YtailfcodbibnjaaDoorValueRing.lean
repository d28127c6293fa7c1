/- The law ValueRing holds: numbers are a ring; quotient and rest. No condition. -/
import Derived.Test.YtailfcodbibnjaaDoorRing
import Derived.Test.YtailfcodbibnjaaDoorCards
import Derived.Test.YtailfcodbibnjaaDoorTie
import Derived.SevenTiedAt
import Derived.Lay
import Derived.LaidOnce
namespace Go.Proofs.YtailfcodbibnjaaDoor
open Go.RowKit Go.ChangeShapes Go.WideShapes Go.ChangeAt
set_option linter.unusedSimpArgs false
set_option linter.unusedVariables false

set_option maxHeartbeats 400000 in
theorem size_any (a : Int) (w : World) (ha : (Lit.int .i64 a).wf = true) :
    Calls Tryd.prog 19 #[.int .i64 a] w fun e w' => e = .returned (.int .u64 (a.natAbs : Int)) ∧ Fut w w' := by
  have hr := wf_in ha
  go_enter Tryd.func19, Tryd.ntmps19
  go_wp2
  all_goals go_ret
  all_goals refine ⟨?_, Fut.refl _⟩
  · show Ending.returned (Value.int .u64 _) = _
    congr 2
    simp only [IntKind.wrap_u64]
    omega
  · show Ending.returned (Value.int .u64 _) = _
    congr 2
    omega
theorem vals_one (w : World) (x : V) (hx : x.ok) (e : TypeId) : Vals (w.alloc (.cells #[.int .i8 x.k, .int .i64 x.n, .string x.s] e)) (.slice (some ⟨w.heap.size, 0, none⟩) 1 1) [x] := by
  refine vals_of_blk (N := 3) (xs := [x]) (BlkF.new w e #[.int .i8 x.k, .int .i64 x.n, .string x.s]) (by simp) (fun j hj => ?_) (by simp) (by simp) (by simp [hx])
  simp at hj
  rcases (by omega : j = 0 ∨ j = 1 ∨ j = 2) with rfl | rfl | rfl <;> rfl
theorem natAbs_wrap {z : Int} (h : z.natAbs ≤ 9223372036854775808) : (wrap64 z).natAbs = z.natAbs := by unfold wrap64; omega
theorem q_le (a b : Int) : (a.tdiv b).natAbs ≤ a.natAbs := by rw [Int.natAbs_tdiv]; exact Nat.div_le_self _ _
theorem r_lt (a b : Int) (hb : ¬ b = 0) : (a.tmod b).natAbs < b.natAbs := by rw [Int.natAbs_tmod]; exact Nat.mod_lt _ (by omega)
theorem r_le (a b : Int) : (a.tmod b).natAbs ≤ a.natAbs := by rw [Int.natAbs_tmod]; exact Nat.mod_le _ _
theorem qr (a b : Int) : a.tdiv b * b + a.tmod b = a := by rw [Int.mul_comm]; exact Int.mul_tdiv_add_tmod a b
theorem r_sign (a b : Int) (h : ¬ a.tmod b = 0) : decide (a.tmod b < 0) = decide (a < 0) := by
  by_cases ha : 0 ≤ a
  · have := Int.tmod_nonneg b ha
    rw [decide_eq_false (by omega), decide_eq_false (by omega)]
  · have := Int.tmod_nonneg (a := -a) b (by omega)
    rw [Int.neg_tmod] at this
    rw [decide_eq_true (by omega), decide_eq_true (by omega)]

set_option maxHeartbeats 2000000 in
set_option maxRecDepth 100000 in
theorem valueRing_zero (a c : Int) (w : World) (hT : Takes w) (ha : (Lit.int .i64 a).wf = true) (hc : (Lit.int .i64 c).wf = true) :
    Calls Tryd.prog 4 #[.int .i64 a, .int .i64 0, .int .i64 c] w fun e w' => e = .returned (.bool true) ∧ Fut w w' := by
  have w0 : (Lit.int .i64 0).wf = true := by decide
  have HT := Lib.hid hT
  have Ha := Lib.hid ha
  have Hc := Lib.hid hc
  have Hb := Lib.hid w0
  have hz := Lib.hid (show wrap64 (a + wrap64 (-a)) = 0 by rw [wrap64_add_r, Int.add_right_neg]; simp [wrap64])
  clear hT ha hc w0
  go_enter Tryd.func4, Tryd.ntmps4
  go_wp2_with fail
  refine (lives_any _ HT.out).mono ?_
  rintro e w1 ⟨rfl, F1⟩
  go_wp2_with fail
  refine (ring_any a 0 c _ (HT.out.fut F1) Ha.out Hb.out Hc.out).mono ?_
  rintro e w2 ⟨rfl, h2⟩
  have F2 := F1.trans h2
  go_wp2_with fail
  refine (num_any a _).mono ?_
  rintro e w3 ⟨rfl, h3⟩
  have F3 := F2.trans h3
  simp only [numV, V.val]
  go_wp2_with fail
  refine (arith1_any _ (numV a) _ (HT.out.fut (F3.trans (Fut.alloc _ _))) (vals_one w3 (numV a) (numV_ok _ Ha.out) _) (good_num _)).mono ?_
  rintro e w4 ⟨rfl, h4⟩
  have F4 := F3.trans ((Fut.alloc _ _).trans h4)
  obtain ⟨z, hzz⟩ : ∃ z, wrap64 (-(numV a).n) = z := ⟨_, rfl⟩
  have Hz := Lib.hid (show (Lit.int .i64 z).wf = true from hzz ▸ wf64 _)
  have hz' := Lib.hid (show wrap64 (a + z) = 0 from hzz ▸ hz.out)
  rw [hzz]
  clear hzz
  simp only [pairV, numV, V.val]
  go_wp2_with fail
  refine (two2 a z 0 _ (HT.out.fut (F4.trans (Fut.alloc _ _))) Ha.out Hz.out hz'.out).mono ?_
  rintro e w5 ⟨rfl, h5⟩
  have F5 := F4.trans ((Fut.alloc _ _).trans h5)
  have g0 : w5.cell? ⟨w4.heap.size, 0, none⟩ = some (.int .i8 1) := h5.cell (by go_simp)
  have g1 : w5.cell? ⟨w4.heap.size, 1, none⟩ = some (.int .i64 z) := h5.cell (by go_simp)
  have g2 : w5.cell? ⟨w4.heap.size, 2, none⟩ = some (.string ⟨#[]⟩) := h5.cell (by go_simp)
  go_wp2
  refine wp_graph 17 [.d, .d, .d, .d, .d, .d, .d, .d, .d, .d, .d, .d, .d, .d, .d, .d, .d] (by kernel_rfl) (by kernel_rfl) (by kernel_rfl) ?_
  simp only [List.take_succ_cons, List.take_zero, List.drop_succ_cons, List.drop_zero, Exs]
  iterate 17 apply Exists.intro
  apply Run.valG (wanted_none rfl _)
  · intro w1 h1 hk
    have q0 := h1.cell g0; have q1 := h1.cell g1; have q2 := h1.cell g2
    have hcw := fun b o => Below.cell (p := ⟨b, o, none⟩) h1
    go_simp; rfl
  simp only [Act.put, List.setIfInBounds_toArray, List.set_cons_succ, List.set_cons_zero, List.nil_append, List.cons_append]
  apply Run.valG (wanted_none rfl _)
  · intro w1 h1 hk
    have q0 := h1.cell g0; have q1 := h1.cell g1; have q2 := h1.cell g2
    have hcw := fun b o => Below.cell (p := ⟨b, o, none⟩) h1
    go_simp; rfl
  simp only [Act.put, List.setIfInBounds_toArray, List.set_cons_succ, List.set_cons_zero, List.nil_append, List.cons_append]
  apply Run.valG (wanted_none rfl _)
  · intro w1 h1 hk
    have q0 := h1.cell g0; have q1 := h1.cell g1; have q2 := h1.cell g2
    have hcw := fun b o => Below.cell (p := ⟨b, o, none⟩) h1
    go_simp; rfl
  simp only [Act.put, List.setIfInBounds_toArray, List.set_cons_succ, List.set_cons_zero, List.nil_append, List.cons_append]
  apply Run.valG (by go_simp)
  · intro w1 h1 hk
    have q0 := h1.cell g0; have q1 := h1.cell g1; have q2 := h1.cell g2
    have hcw := fun b o => Below.cell (p := ⟨b, o, none⟩) h1
    go_simp; rfl
  simp only [Act.put, List.setIfInBounds_toArray, List.set_cons_succ, List.set_cons_zero, List.nil_append, List.cons_append]
  apply Run.valG (by go_simp)
  · intro w1 h1 hk
    have q0 := h1.cell g0; have q1 := h1.cell g1; have q2 := h1.cell g2
    have hcw := fun b o => Below.cell (p := ⟨b, o, none⟩) h1
    go_simp; rfl
  simp only [Act.put, List.setIfInBounds_toArray, List.set_cons_succ, List.set_cons_zero, List.nil_append, List.cons_append]
  apply Run.valG (by go_simp)
  · intro w1 h1 hk
    have q0 := h1.cell g0; have q1 := h1.cell g1; have q2 := h1.cell g2
    have hcw := fun b o => Below.cell (p := ⟨b, o, none⟩) h1
    go_simp; rfl
  simp only [Act.put, List.setIfInBounds_toArray, List.set_cons_succ, List.set_cons_zero, List.nil_append, List.cons_append]
  apply Run.call (by go_simp) (fun _ _ => by go_simp; exact ⟨rfl, rfl⟩)
  · intro w1 h1 hk
    have q0 := h1.cell g0; have q1 := h1.cell g1; have q2 := h1.cell g2
    exact num_any z _
  simp only [Act.put, List.setIfInBounds_toArray, List.set_cons_succ, List.set_cons_zero, List.nil_append, List.cons_append]
  apply Run.valG (by go_simp)
  · intro w1 h1 hk
    have q0 := h1.cell g0; have q1 := h1.cell g1; have q2 := h1.cell g2
    have hcw := fun b o => Below.cell (p := ⟨b, o, none⟩) h1
    exact (exec_neV rfl (numV z) (numV z) rfl rfl w1).trans (by rw [decide_eq_true rfl, Bool.not_true])
  simp only [Act.put, List.setIfInBounds_toArray, List.set_cons_succ, List.set_cons_zero, List.nil_append, List.cons_append]
  apply Run.valG (wanted_none rfl _)
  · intro w1 h1 hk
    have q0 := h1.cell g0; have q1 := h1.cell g1; have q2 := h1.cell g2
    have hcw := fun b o => Below.cell (p := ⟨b, o, none⟩) h1
    go_simp; rfl
  simp only [Act.put, List.setIfInBounds_toArray, List.set_cons_succ, List.set_cons_zero, List.nil_append, List.cons_append]
  apply Run.valG (wanted_none rfl _)
  · intro w1 h1 hk
    have q0 := h1.cell g0; have q1 := h1.cell g1; have q2 := h1.cell g2
    have hcw := fun b o => Below.cell (p := ⟨b, o, none⟩) h1
    go_simp; rfl
  simp only [Act.put, List.setIfInBounds_toArray, List.set_cons_succ, List.set_cons_zero, List.nil_append, List.cons_append]
  apply Run.valG (by go_simp)
  · intro w1 h1 hk
    have q0 := h1.cell g0; have q1 := h1.cell g1; have q2 := h1.cell g2
    have hcw := fun b o => Below.cell (p := ⟨b, o, none⟩) h1
    go_simp; rfl
  simp only [Act.put, List.setIfInBounds_toArray, List.set_cons_succ, List.set_cons_zero, List.nil_append, List.cons_append]
  apply Run.valG (by go_simp)
  · intro w1 h1 hk
    have q0 := h1.cell g0; have q1 := h1.cell g1; have q2 := h1.cell g2
    have hcw := fun b o => Below.cell (p := ⟨b, o, none⟩) h1
    go_simp; rfl
  simp only [Act.put, List.setIfInBounds_toArray, List.set_cons_succ, List.set_cons_zero, List.nil_append, List.cons_append]
  apply Run.valG (wanted_none rfl _)
  · intro w1 h1 hk
    have q0 := h1.cell g0; have q1 := h1.cell g1; have q2 := h1.cell g2
    have hcw := fun b o => Below.cell (p := ⟨b, o, none⟩) h1
    go_simp; rfl
  simp only [Act.put, List.setIfInBounds_toArray, List.set_cons_succ, List.set_cons_zero, List.nil_append, List.cons_append]
  apply Run.valG (wanted_none rfl _)
  · intro w1 h1 hk
    have q0 := h1.cell g0; have q1 := h1.cell g1; have q2 := h1.cell g2
    have hcw := fun b o => Below.cell (p := ⟨b, o, none⟩) h1
    go_simp; rfl
  simp only [Act.put, List.setIfInBounds_toArray, List.set_cons_succ, List.set_cons_zero, List.nil_append, List.cons_append]
  apply Run.valG (by go_simp)
  · intro w1 h1 hk
    have q0 := h1.cell g0; have q1 := h1.cell g1; have q2 := h1.cell g2
    have hcw := fun b o => Below.cell (p := ⟨b, o, none⟩) h1
    go_simp; rfl
  simp only [Act.put, List.setIfInBounds_toArray, List.set_cons_succ, List.set_cons_zero, List.nil_append, List.cons_append]
  apply Run.valG (by go_simp)
  · intro w1 h1 hk
    have q0 := h1.cell g0; have q1 := h1.cell g1; have q2 := h1.cell g2
    have hcw := fun b o => Below.cell (p := ⟨b, o, none⟩) h1
    go_simp; rfl
  simp only [Act.put, List.setIfInBounds_toArray, List.set_cons_succ, List.set_cons_zero, List.nil_append, List.cons_append]
  apply Run.valG (wanted_none rfl _)
  · intro w1 h1 hk
    have q0 := h1.cell g0; have q1 := h1.cell g1; have q2 := h1.cell g2
    have hcw := fun b o => Below.cell (p := ⟨b, o, none⟩) h1
    go_simp; rfl
  simp only [Act.put, List.setIfInBounds_toArray, List.set_cons_succ, List.set_cons_zero, List.nil_append, List.cons_append]
  apply Run.done
  intro w2 h2 hk
  clear hk
  have F6 := F5.trans ((Fut.drew _).trans h2)
  go_wp2_with fail
  refine (two_no 5 a 0 0 _ (HT.out.fut F6) Ha.out Hb.out (fun v w hT hv => arith5n_any v (numV a) (numV 0) w hT hv (good_num _) (good_num _) rfl)).mono ?_
  rintro e w7 ⟨rfl, h7⟩
  have F7 := F6.trans h7
  go_wp2_with fail
  refine (two_no 6 a 0 0 _ (HT.out.fut F7) Ha.out Hb.out (fun v w hT hv => arith6n_any v (numV a) (numV 0) w hT hv (good_num _) (good_num _) rfl)).mono ?_
  rintro e w8 ⟨rfl, h8⟩
  have F8 := F7.trans h8
  go_wp2_with fail
  refine (num_any a _).mono ?_
  rintro e w9 ⟨rfl, h9⟩
  go_wp2_with fail
  refine (num_any 0 _).mono ?_
  rintro e w10 ⟨rfl, h10⟩
  have F10 := F8.trans (h9.trans h10)
  simp only [numV, V.val]
  go_wp2_with fail
  refine (arith5n_any _ (numV a) (numV 0) _ (HT.out.fut (F10.trans (Fut.alloc _ _))) (vals_two w10 (numV a) (numV 0) (numV_ok _ Ha.out) (numV_ok _ Hb.out) _) (good_num _) (good_num _) rfl).mono ?_
  rintro e w11 ⟨rfl, h11⟩
  have F11 := F10.trans ((Fut.alloc _ _).trans h11)
  simp only [pairV, noV, V.val]
  go_wp2_with fail
  refine (num_any a _).mono ?_
  rintro e w12 ⟨rfl, h12⟩
  have k0 : w12.cell? ⟨w11.heap.size, 0, none⟩ = some (.int .i8 0) := h12.cell (by go_simp)
  have k1 : w12.cell? ⟨w11.heap.size, 1, none⟩ = some (.int .i64 0) := h12.cell (by go_simp)
  have k2 : w12.cell? ⟨w11.heap.size, 2, none⟩ = some (.string ⟨#[]⟩) := h12.cell (by go_simp)
  have F12 := F11.trans ((Fut.alloc _ _).trans h12)
  go_wp2_with fail
  refine (num_any 0 _).mono ?_
  rintro e w13 ⟨rfl, h13⟩
  have F13 := F12.trans h13
  simp only [numV, V.val]
  go_wp2_with fail
  refine (arith6n_any _ (numV a) (numV 0) _ (HT.out.fut (F13.trans (Fut.alloc _ _))) (vals_two w13 (numV a) (numV 0) (numV_ok _ Ha.out) (numV_ok _ Hb.out) _) (good_num _) (good_num _) rfl).mono ?_
  rintro e w14 ⟨rfl, h14⟩
  have F14 := F13.trans ((Fut.alloc _ _).trans h14)
  have l0 := fun o => (Fut.alloc w14 o).cell (h14.cell ((Fut.alloc _ _).cell (h13.cell k0)))
  have l1 := fun o => (Fut.alloc w14 o).cell (h14.cell ((Fut.alloc _ _).cell (h13.cell k1)))
  have l2 := fun o => (Fut.alloc w14 o).cell (h14.cell ((Fut.alloc _ _).cell (h13.cell k2)))
  simp only [pairV, noV, V.val]
  go_wp2
  go_ret
  exact ⟨rfl, F14.trans (Fut.alloc _ _)⟩

set_option maxHeartbeats 2000000 in
set_option maxRecDepth 100000 in
theorem valueRing_some (a b c : Int) (w : World) (hT : Takes w) (hb0 : ¬ b = 0) (ha : (Lit.int .i64 a).wf = true) (hb : (Lit.int .i64 b).wf = true) (hc : (Lit.int .i64 c).wf = true) :
    Calls Tryd.prog 4 #[.int .i64 a, .int .i64 b, .int .i64 c] w fun e w' => e = .returned (.bool true) ∧ Fut w w' := by
  have HT := Lib.hid hT
  have Ha := Lib.hid ha
  have Hc := Lib.hid hc
  have Hb := Lib.hid hb
  have hz := Lib.hid (show wrap64 (a + wrap64 (-a)) = 0 by rw [wrap64_add_r, Int.add_right_neg]; simp [wrap64])
  have ia := wf_in ha
  have ib := wf_in hb
  have b0 : (b == 0) = false := by simpa using hb0
  have B0 := Lib.hid hb0
  obtain ⟨q, eq⟩ : ∃ q, wrap64 (a.tdiv b) = q := ⟨_, rfl⟩
  obtain ⟨r, er⟩ : ∃ r, a.tmod b = r := ⟨_, rfl⟩
  have Wq := Lib.hid (show (Lit.int .i64 q).wf = true from eq ▸ wf64 _)
  have lr := r_le a b
  have lt := r_lt a b hb0
  have lq := q_le a b
  have sg := r_sign a b
  have hw := natAbs_wrap (z := a.tdiv b) (by omega)
  have hs : wrap64 (wrap64 (q * b) + r) = a := by rw [← eq, ← er, wrap64_add_l, ← wrap64_add_l, wrap64_mul_l, wrap64_add_l, qr, wrap64_in ia]
  rw [eq] at hw
  rw [er] at lr lt sg
  have d1 : decide ((r.natAbs : Int) < (b.natAbs : Int)) = true := decide_eq_true (by omega)
  have d3 : decide (r.natAbs < b.natAbs) = true := decide_eq_true (by omega)
  have d4 : decide (q.natAbs ≤ a.natAbs) = true := decide_eq_true (by omega)
  have d2 : decide ((q.natAbs : Int) ≤ (a.natAbs : Int)) = true := decide_eq_true (by omega)
  have Wr := Lib.hid (show (Lit.int .i64 r).wf = true from in_wf (by omega))
  have EQ := Lib.hid eq
  have ER := Lib.hid er
  have HS := Lib.hid hs
  have SG := Lib.hid sg
  clear eq er hs lr lt lq sg hw ia ib hT ha hc hb hb0
  go_enter Tryd.func4, Tryd.ntmps4
  go_wp2_with fail
  refine (lives_any _ HT.out).mono ?_
  rintro e w1 ⟨rfl, F1⟩
  go_wp2_with fail
  refine (ring_any a b c _ (HT.out.fut F1) Ha.out Hb.out Hc.out).mono ?_
  rintro e w2 ⟨rfl, h2⟩
  have F2 := F1.trans h2
  go_wp2_with fail
  refine (num_any a _).mono ?_
  rintro e w3 ⟨rfl, h3⟩
  have F3 := F2.trans h3
  simp only [numV, V.val]
  go_wp2_with fail
  refine (arith1_any _ (numV a) _ (HT.out.fut (F3.trans (Fut.alloc _ _))) (vals_one w3 (numV a) (numV_ok _ Ha.out) _) (good_num _)).mono ?_
  rintro e w4 ⟨rfl, h4⟩
  have F4 := F3.trans ((Fut.alloc _ _).trans h4)
  obtain ⟨z, hzz⟩ : ∃ z, wrap64 (-(numV a).n) = z := ⟨_, rfl⟩
  have Hz := Lib.hid (show (Lit.int .i64 z).wf = true from hzz ▸ wf64 _)
  have hz' := Lib.hid (show wrap64 (a + z) = 0 from hzz ▸ hz.out)
  rw [hzz]
  clear hzz
  simp only [pairV, numV, V.val]
  go_wp2_with fail
  refine (two2 a z 0 _ (HT.out.fut (F4.trans (Fut.alloc _ _))) Ha.out Hz.out hz'.out).mono ?_
  rintro e w5 ⟨rfl, h5⟩
  have F5 := F4.trans ((Fut.alloc _ _).trans h5)
  have g0 : w5.cell? ⟨w4.heap.size, 0, none⟩ = some (.int .i8 1) := h5.cell (by go_simp)
  have g1 : w5.cell? ⟨w4.heap.size, 1, none⟩ = some (.int .i64 z) := h5.cell (by go_simp)
  have g2 : w5.cell? ⟨w4.heap.size, 2, none⟩ = some (.string ⟨#[]⟩) := h5.cell (by go_simp)
  go_wp2
  refine wp_graph 17 [.d, .d, .d, .d, .d, .d, .d, .d, .d, .d, .d, .d, .d, .d, .d, .d, .d] (by kernel_rfl) (by kernel_rfl) (by kernel_rfl) ?_
  simp only [List.take_succ_cons, List.take_zero, List.drop_succ_cons, List.drop_zero, Exs]
  iterate 17 apply Exists.intro
  apply Run.valG (wanted_none rfl _)
  · intro w1 h1 hk
    have q0 := h1.cell g0; have q1 := h1.cell g1; have q2 := h1.cell g2
    have hcw := fun b o => Below.cell (p := ⟨b, o, none⟩) h1
    go_simp; rfl
  simp only [Act.put, List.setIfInBounds_toArray, List.set_cons_succ, List.set_cons_zero, List.nil_append, List.cons_append]
  apply Run.valG (wanted_none rfl _)
  · intro w1 h1 hk
    have q0 := h1.cell g0; have q1 := h1.cell g1; have q2 := h1.cell g2
    have hcw := fun b o => Below.cell (p := ⟨b, o, none⟩) h1
    go_simp; rfl
  simp only [Act.put, List.setIfInBounds_toArray, List.set_cons_succ, List.set_cons_zero, List.nil_append, List.cons_append]
  apply Run.valG (wanted_none rfl _)
  · intro w1 h1 hk
    have q0 := h1.cell g0; have q1 := h1.cell g1; have q2 := h1.cell g2
    have hcw := fun b o => Below.cell (p := ⟨b, o, none⟩) h1
    go_simp; rfl
  simp only [Act.put, List.setIfInBounds_toArray, List.set_cons_succ, List.set_cons_zero, List.nil_append, List.cons_append]
  apply Run.valG (by go_simp)
  · intro w1 h1 hk
    have q0 := h1.cell g0; have q1 := h1.cell g1; have q2 := h1.cell g2
    have hcw := fun b o => Below.cell (p := ⟨b, o, none⟩) h1
    go_simp; rfl
  simp only [Act.put, List.setIfInBounds_toArray, List.set_cons_succ, List.set_cons_zero, List.nil_append, List.cons_append]
  apply Run.valG (by go_simp)
  · intro w1 h1 hk
    have q0 := h1.cell g0; have q1 := h1.cell g1; have q2 := h1.cell g2
    have hcw := fun b o => Below.cell (p := ⟨b, o, none⟩) h1
    go_simp; rfl
  simp only [Act.put, List.setIfInBounds_toArray, List.set_cons_succ, List.set_cons_zero, List.nil_append, List.cons_append]
  apply Run.valG (by go_simp)
  · intro w1 h1 hk
    have q0 := h1.cell g0; have q1 := h1.cell g1; have q2 := h1.cell g2
    have hcw := fun b o => Below.cell (p := ⟨b, o, none⟩) h1
    go_simp; rfl
  simp only [Act.put, List.setIfInBounds_toArray, List.set_cons_succ, List.set_cons_zero, List.nil_append, List.cons_append]
  apply Run.call (by go_simp) (fun _ _ => by go_simp; exact ⟨rfl, rfl⟩)
  · intro w1 h1 hk
    have q0 := h1.cell g0; have q1 := h1.cell g1; have q2 := h1.cell g2
    exact num_any z _
  simp only [Act.put, List.setIfInBounds_toArray, List.set_cons_succ, List.set_cons_zero, List.nil_append, List.cons_append]
  apply Run.valG (by go_simp)
  · intro w1 h1 hk
    have q0 := h1.cell g0; have q1 := h1.cell g1; have q2 := h1.cell g2
    have hcw := fun b o => Below.cell (p := ⟨b, o, none⟩) h1
    exact (exec_neV rfl (numV z) (numV z) rfl rfl w1).trans (by rw [decide_eq_true rfl, Bool.not_true])
  simp only [Act.put, List.setIfInBounds_toArray, List.set_cons_succ, List.set_cons_zero, List.nil_append, List.cons_append]
  apply Run.valG (wanted_none rfl _)
  · intro w1 h1 hk
    have q0 := h1.cell g0; have q1 := h1.cell g1; have q2 := h1.cell g2
    have hcw := fun b o => Below.cell (p := ⟨b, o, none⟩) h1
    go_simp; rfl
  simp only [Act.put, List.setIfInBounds_toArray, List.set_cons_succ, List.set_cons_zero, List.nil_append, List.cons_append]
  apply Run.valG (wanted_none rfl _)
  · intro w1 h1 hk
    have q0 := h1.cell g0; have q1 := h1.cell g1; have q2 := h1.cell g2
    have hcw := fun b o => Below.cell (p := ⟨b, o, none⟩) h1
    go_simp; rfl
  simp only [Act.put, List.setIfInBounds_toArray, List.set_cons_succ, List.set_cons_zero, List.nil_append, List.cons_append]
  apply Run.valG (by go_simp)
  · intro w1 h1 hk
    have q0 := h1.cell g0; have q1 := h1.cell g1; have q2 := h1.cell g2
    have hcw := fun b o => Below.cell (p := ⟨b, o, none⟩) h1
    go_simp; rfl
  simp only [Act.put, List.setIfInBounds_toArray, List.set_cons_succ, List.set_cons_zero, List.nil_append, List.cons_append]
  apply Run.valG (by go_simp)
  · intro w1 h1 hk
    have q0 := h1.cell g0; have q1 := h1.cell g1; have q2 := h1.cell g2
    have hcw := fun b o => Below.cell (p := ⟨b, o, none⟩) h1
    go_simp; rfl
  simp only [Act.put, List.setIfInBounds_toArray, List.set_cons_succ, List.set_cons_zero, List.nil_append, List.cons_append]
  apply Run.valG (wanted_none rfl _)
  · intro w1 h1 hk
    have q0 := h1.cell g0; have q1 := h1.cell g1; have q2 := h1.cell g2
    have hcw := fun b o => Below.cell (p := ⟨b, o, none⟩) h1
    go_simp; rfl
  simp only [Act.put, List.setIfInBounds_toArray, List.set_cons_succ, List.set_cons_zero, List.nil_append, List.cons_append]
  apply Run.valG (wanted_none rfl _)
  · intro w1 h1 hk
    have q0 := h1.cell g0; have q1 := h1.cell g1; have q2 := h1.cell g2
    have hcw := fun b o => Below.cell (p := ⟨b, o, none⟩) h1
    go_simp; rfl
  simp only [Act.put, List.setIfInBounds_toArray, List.set_cons_succ, List.set_cons_zero, List.nil_append, List.cons_append]
  apply Run.valG (by go_simp)
  · intro w1 h1 hk
    have q0 := h1.cell g0; have q1 := h1.cell g1; have q2 := h1.cell g2
    have hcw := fun b o => Below.cell (p := ⟨b, o, none⟩) h1
    go_simp; rfl
  simp only [Act.put, List.setIfInBounds_toArray, List.set_cons_succ, List.set_cons_zero, List.nil_append, List.cons_append]
  apply Run.valG (by go_simp)
  · intro w1 h1 hk
    have q0 := h1.cell g0; have q1 := h1.cell g1; have q2 := h1.cell g2
    have hcw := fun b o => Below.cell (p := ⟨b, o, none⟩) h1
    go_simp; rfl
  simp only [Act.put, List.setIfInBounds_toArray, List.set_cons_succ, List.set_cons_zero, List.nil_append, List.cons_append]
  apply Run.valG (wanted_none rfl _)
  · intro w1 h1 hk
    have q0 := h1.cell g0; have q1 := h1.cell g1; have q2 := h1.cell g2
    have hcw := fun b o => Below.cell (p := ⟨b, o, none⟩) h1
    go_simp; rfl
  simp only [Act.put, List.setIfInBounds_toArray, List.set_cons_succ, List.set_cons_zero, List.nil_append, List.cons_append]
  apply Run.done
  intro w2 h2 hk
  clear hk
  have F6 := F5.trans ((Fut.drew _).trans h2)
  go_wp2_with fail
  refine (two_ok 5 a b q _ (HT.out.fut F6) Ha.out Hb.out (fun v w hT hv => by have := arith5y_any v (numV a) (numV b) w hT hv (good_num _) (good_num _) B0.out; rw [show wrap64 ((numV a).n.tdiv (numV b).n) = q from EQ.out] at this; exact this)).mono ?_
  rintro e w7 ⟨rfl, h7⟩
  have F7 := F6.trans h7
  go_wp2_with fail
  refine (two_ok 6 a b r _ (HT.out.fut F7) Ha.out Hb.out (fun v w hT hv => by have := arith6y_any v (numV a) (numV b) w hT hv (good_num _) (good_num _) B0.out; rw [show (numV a).n.tmod (numV b).n = r from ER.out] at this; exact this)).mono ?_
  rintro e w8 ⟨rfl, h8⟩
  have F8 := F7.trans h8
  go_wp2_with fail
  refine (two4 q b _ _ (HT.out.fut F8) Wq.out Hb.out rfl).mono ?_
  rintro e w9 ⟨rfl, h9⟩
  have F9 := F8.trans h9
  go_wp2_with fail
  refine (two2 (wrap64 (q * b)) r a _ (HT.out.fut F9) (wf64 _) Wr.out HS.out).mono ?_
  rintro e w10 ⟨rfl, h10⟩
  have F10 := F9.trans h10
  go_wp2_with fail
  refine (size_any r _ Wr.out).mono ?_
  rintro e w11 ⟨rfl, h11⟩
  go_wp2_with fail
  refine (size_any b _ Hb.out).mono ?_
  rintro e w12 ⟨rfl, h12⟩
  have F12 := F10.trans (h11.trans h12)
  go_wp2_with fail
  refine (size_any q _ Wq.out).mono ?_
  rintro e w13 ⟨rfl, h13⟩
  go_wp2_with fail
  refine (size_any a _ Ha.out).mono ?_
  rintro e w14 ⟨rfl, h14⟩
  have F14 := F12.trans (h13.trans h14)
  by_cases r0 : r = 0
  · have r1 : (r == 0) = true := by simpa using r0
    clear r0
    go_wp2
    all_goals go_ret
    all_goals refine ⟨?_, F14⟩
    all_goals first | rfl | (exfalso; simp_all; done) | (simp_all; done) | (exfalso; omega)
  · have r1 : (r == 0) = false := by simpa using r0
    have r2 := SG.out r0
    clear r0
    go_wp2
    all_goals go_ret
    all_goals refine ⟨?_, F14⟩
    all_goals first | rfl | (exfalso; simp_all; done) | (simp_all; done) | (exfalso; omega)

theorem ValueRing_own : ownKnob Tryd.prog.godebug = none := by kernel_rfl
theorem ValueRing_laidOut : laidOutB Tryd.prog = true := by kernel_rfl
set_option maxRecDepth 100000 in
theorem ValueRing_row_walk {H : Type} {enc : TypeId × Value → H} (W : World) (base : Nat) (args : Array Value) (ds : List (DataW H)) (p : List MemPlace)
    (hval : ∀ (j : Nat) t v, (#[2, 2, 2] : Array Nat)[j]? = some t → args[j]? = some v → Value.okWide Tryd.prog W .any base t v)
    (hA : DataW.TrodAll enc Tryd.prog W 0 (fun _ => true) true [2, 2, 2] args.toList ds p) (hS : (DataW.weightsEach Tryd.prog [2, 2, 2] ds).all (fun n => decide (n ≤ reachBytes)) = true)
    (hL : laidMet Tryd.prog Rows.valueRingRow.laid W) :
    Calls Tryd.prog 4 args W fun e W' => e = .returned (.bool true) ∧ Fut W W' := by
  obtain ⟨v0, vs0, d0, ds0, p0, q0, hargs, rfl, rfl, h0, r0⟩ := trodAll_cons hA
  obtain ⟨v1, vs1, d1, ds1, p1, q1, rfl, rfl, rfl, h1, r1⟩ := trodAll_cons r0
  obtain ⟨v2, vs2, d2, ds2, p2, q2, rfl, rfl, rfl, h2, r2⟩ := trodAll_cons r1
  obtain ⟨rfl, rfl, rfl⟩ := trodAll_nil r2
  obtain rfl : args = #[v0, v1, v2] := Array.toList_inj.1 hargs
  have k0 := hval 0 2 v0 rfl rfl
  have k1 := hval 1 2 v1 rfl rfl
  have k2 := hval 2 2 v2 rfl rfl
  have s0 := weights_arg hS 0 rfl rfl
  have s1 := weights_arg hS 1 rfl rfl
  have s2 := weights_arg hS 2 rfl rfl
  clear hval hA hS
  obtain ⟨a, rfl, _, _, ha⟩ := open_int Tryd.underlying2 k0 h0
  obtain ⟨b, rfl, _, _, hb⟩ := open_int Tryd.underlying2 k1 h1
  obtain ⟨c, rfl, _, _, hc⟩ := open_int Tryd.underlying2 k2 h2
  have hT : Takes W := takes_of_laid hL (by simp [Rows.valueRingRow])
  by_cases h0 : b = 0
  · subst h0; exact valueRing_zero a c W hT ha hc
  · exact valueRing_some a b c W hT h0 ha hb hc
set_option maxRecDepth 100000 in
theorem ValueRing_lifted (os : Os) (started : os.Started) (H : Type) (enc : TypeId × Value → H) :
    ReturnsInHanded {} Tryd.checked os 4 .any (fun w args => (Rows.valueRingSpec.pre enc Tryd.prog Tryd.f4 [] false w args ∧ laidMetH Tryd.prog Rows.valueRingRow.laid w) ∧ sizedMet enc Tryd.prog Tryd.f4 (OpenSpec.ofChange Rows.valueRingSpec) false w args)
      (Rows.valueRingSpec.post enc Tryd.prog Tryd.f4 false true false false) := by
  refine returnsInHanded_of_change_and (C := Tryd.checked) (X := (fun w _ => laidMetH Tryd.prog Rows.valueRingRow.laid w)) (fun _ _ _ hh h => h.of_heap hh) ValueRing_own started (by kernel_rfl) Tryd.func4
    (ChangeSpec.witness_shaped (enc := enc) (C := Tryd.checked) (os := os) (X := (fun w _ => laidMetH Tryd.prog Rows.valueRingRow.laid w)) false (World.laidAll Tryd.prog os Rows.valueRingRow.laid) #[.int .i64 0, .int .i64 0, .int .i64 0] 8 (World.laidAll_os _ _ _)
      (World.shaped_of_ZipB (by kernel_rfl) (by kernel_rfl)) (by kernel_rfl) (by kernel_rfl) (by kernel_rfl)
      (by rw [MakeChecks.laidMetH_plain _ _ _ (by kernel_rfl)]; exact laidMet_laidAll _ (by kernel_rfl) (by kernel_rfl))) ?_
  intro W base args ds gs before hval0 hW _ hsz hL _
  have hW' := hW
  obtain ⟨p, q, hA0, hV, rfl, _, _⟩ := hW
  have hA : DataW.TrodAll enc Tryd.prog W 0 (fun _ => true) true [2, 2, 2] args.toList ds p := hA0
  obtain ⟨rfl, rfl⟩ := trodVars_none hV
  rw [List.append_nil] at hsz
  rw [MakeChecks.laidMetH_plain _ _ _ (by kernel_rfl)] at hL
  refine (ValueRing_row_walk W base args ds p hval0 hA hsz hL).mono fun e W' ⟨he, hf⟩ => ?_
  subst he
  obtain ⟨v0, vs0, d0, ds0, p0, q0, _, rfl, _, _, r0⟩ := trodAll_cons hA
  obtain ⟨v1, vs1, d1, ds1, p1, q1, _, rfl, _, _, r1⟩ := trodAll_cons r0
  obtain ⟨v2, vs2, d2, ds2, p2, q2, _, rfl, _, _, r2⟩ := trodAll_cons r1
  obtain ⟨_, rfl, _⟩ := trodAll_nil r2
  exact ⟨_, rfl, law_post (tb := 4) ValueRing_laidOut hW' rfl (by kernel_rfl) rfl Tryd.underlying4 rfl rfl rfl hf⟩
theorem ValueRing_said : Rows.ValueRingSaid :=
  OpenClaim.holds_of_wide 4 Tryd.f4 rfl rfl rfl rfl rfl rfl rfl ⟨rfl, rfl, rfl, rfl, rfl⟩ rfl rfl rfl rfl rfl (by kernel_rfl) Tryd.func4 (by kernel_rfl)
    (of_decide_eq_true (by kernel_rfl)) (by unfold Func.isWrapper; first | (rw [if_pos (by decide +kernel)]; kernel_rfl) | (rw [if_neg (by decide +kernel)]; exact ⟨rfl, rfl⟩))
    (fun os started H enc _ => ValueRing_lifted os started H enc)
theorem ValueRing_plain (f : FuncId) (fn : Func) (hf : Tryd.pinned.checked.prog.funcNamed "pedigree/pedigreelaw01.ValueRing" = some f) (hfn : Tryd.pinned.checked.prog.funcs[f]? = some fn) :
    Rows.valueRingCard.stood.looks = Tryd.pinned.checked.prog.looks [] ∧ ∀ (j : Nat) t, fn.params[j]? = some t → Tryd.pinned.checked.prog.wantsStandIn t = false := by
  obtain rfl : f = 4 := Option.some.inj ((show Tryd.prog.funcNamed "pedigree/pedigreelaw01.ValueRing" = some 4 by kernel_rfl).symm.trans hf) |>.symm
  obtain rfl : fn = Tryd.f4 := (Option.some.inj (Tryd.func4.symm.trans hfn)).symm
  refine ⟨by kernel_rfl, fun j t ht => ?_⟩
  have hall : (Tryd.f4.params.toList.all fun t => !Tryd.prog.wantsStandIn t) = true := by kernel_rfl
  have := List.all_eq_true.1 hall t (by simpa using Array.mem_of_getElem? ht)
  exact (by simpa using this : Tryd.prog.wantsStandIn t = false)
theorem ValueRing_holds : Rows.ValueRingCardSaid :=
  Claim7.holds_tied_plain_at .later [] _ _ _ _ ValueRing_said (fun _ h => by cases h) (by kernel_rfl) (fun _ h => by cases h) valueRing_row_tie rfl ⟨rfl, rfl⟩ (by kernel_rfl) rfl ValueRing_plain (by kernel_rfl)
end Go.Proofs.YtailfcodbibnjaaDoor
