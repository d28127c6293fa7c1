/- two, size, ring. -/
import Derived.Test.YtailfcodbibnjaaDoorDivide
import Derived.Test.YtailfcodbibnjaaDoorTotal0
namespace Go.Proofs.YtailfcodbibnjaaDoor
open Go.RowKit
set_option linter.unusedSimpArgs false
set_option linter.unusedVariables false

theorem noV_eq : (noV = numV 0) = False := by simp [noV, numV]
set_option maxHeartbeats 800000 in
theorem two_ok (O a b r : Int) (w : World) (hT : Takes w) (ha : (Lit.int .i64 a).wf = true) (hb : (Lit.int .i64 b).wf = true)
    (hA : ∀ (v : Value) (w : World), Takes w → Vals w v [numV a, numV b] → Calls Tryd.prog 16 #[.int .i8 O, v] w fun e w' => e = .returned (pairV (numV r) true) ∧ Fut w w') :
    Calls Tryd.prog 18 #[.int .i8 O, .int .i64 a, .int .i64 b] w fun e w' => e = .returned (.tuple #[.int .i64 (r), .bool true]) ∧ Fut w w' := by
  have HA := Lib.hid hA
  have HT := Lib.hid hT
  have Ha := Lib.hid ha
  have Hb := Lib.hid hb
  clear hA hT ha hb
  go_enter Tryd.func18, Tryd.ntmps18
  go_wp2_with fail
  refine (num_any a _).mono ?_
  rintro e w1 ⟨rfl, h1⟩
  go_wp2_with fail
  refine (num_any b _).mono ?_
  rintro e w2 ⟨rfl, h2⟩
  simp only [numV, V.val]
  go_wp2_with fail
  refine (HA.out _ _ (HT.out.fut ((h1.trans h2).trans (Fut.alloc _ _))) (vals_two w2 (numV a) (numV b) (numV_ok _ Ha.out) (numV_ok _ Hb.out) _)).mono ?_
  rintro e w3 ⟨rfl, h3⟩
  have hF : Fut w w3 := (h1.trans h2).trans ((Fut.alloc _ _).trans h3)
  simp only [pairV, numV, noV, V.val]
  go_wp2
  refine wp_graph 12 [.d, .d, .d, .d, .d, .d, .d, .d, .d, .d, .d, .d] (by kernel_rfl) (by kernel_rfl) (by kernel_rfl) ?_
  simp only [List.take_succ_cons, List.take_zero, List.drop_succ_cons, List.drop_zero, Exs]
  iterate 12 apply Exists.intro
  apply Run.valG (wanted_none rfl _)
  · intro w1 h1 hk
    have hcw := fun b o => Below.cell (p := ⟨b, o, none⟩) h1
    go_simp; rfl
  simp only [Act.put, List.setIfInBounds_toArray, List.set_cons_succ, List.set_cons_zero, List.nil_append, List.cons_append]
  apply Run.valG (wanted_none rfl _)
  · intro w1 h1 hk
    have hcw := fun b o => Below.cell (p := ⟨b, o, none⟩) h1
    go_simp; rfl
  simp only [Act.put, List.setIfInBounds_toArray, List.set_cons_succ, List.set_cons_zero, List.nil_append, List.cons_append]
  apply Run.valG (wanted_none rfl _)
  · intro w1 h1 hk
    have hcw := fun b o => Below.cell (p := ⟨b, o, none⟩) h1
    go_simp; rfl
  simp only [Act.put, List.setIfInBounds_toArray, List.set_cons_succ, List.set_cons_zero, List.nil_append, List.cons_append]
  apply Run.valG (wanted_none rfl _)
  · intro w1 h1 hk
    have hcw := fun b o => Below.cell (p := ⟨b, o, none⟩) h1
    go_simp; rfl
  simp only [Act.put, List.setIfInBounds_toArray, List.set_cons_succ, List.set_cons_zero, List.nil_append, List.cons_append]
  apply Run.valG (by go_simp)
  · intro w1 h1 hk
    have hcw := fun b o => Below.cell (p := ⟨b, o, none⟩) h1
    go_simp; rfl
  simp only [Act.put, List.setIfInBounds_toArray, List.set_cons_succ, List.set_cons_zero, List.nil_append, List.cons_append]
  apply Run.valG (by go_simp)
  · intro w1 h1 hk
    have hcw := fun b o => Below.cell (p := ⟨b, o, none⟩) h1
    go_simp; rfl
  simp only [Act.put, List.setIfInBounds_toArray, List.set_cons_succ, List.set_cons_zero, List.nil_append, List.cons_append]
  apply Run.valG (by go_simp)
  · intro w1 h1 hk
    have hcw := fun b o => Below.cell (p := ⟨b, o, none⟩) h1
    go_simp; rfl
  simp only [Act.put, List.setIfInBounds_toArray, List.set_cons_succ, List.set_cons_zero, List.nil_append, List.cons_append]
  apply Run.call (by go_simp) (fun _ _ => by go_simp; exact ⟨rfl, rfl⟩)
  · intro w1 h1 hk
    exact num_any (r) _
  simp only [Act.put, List.setIfInBounds_toArray, List.set_cons_succ, List.set_cons_zero, List.nil_append, List.cons_append]
  apply Run.valG (by go_simp)
  · intro w1 h1 hk
    have hcw := fun b o => Below.cell (p := ⟨b, o, none⟩) h1
    exact (exec_eqV rfl (numV r) (numV r) rfl rfl w1).trans (by rw [decide_eq_true rfl])
  simp only [Act.put, List.setIfInBounds_toArray, List.set_cons_succ, List.set_cons_zero, List.nil_append, List.cons_append]
  apply Run.valG (wanted_none rfl _)
  · intro w1 h1 hk
    have hcw := fun b o => Below.cell (p := ⟨b, o, none⟩) h1
    go_simp; rfl
  simp only [Act.put, List.setIfInBounds_toArray, List.set_cons_succ, List.set_cons_zero, List.nil_append, List.cons_append]
  apply Run.valG (wanted_none rfl _)
  · intro w1 h1 hk
    have hcw := fun b o => Below.cell (p := ⟨b, o, none⟩) h1
    go_simp; rfl
  simp only [Act.put, List.setIfInBounds_toArray, List.set_cons_succ, List.set_cons_zero, List.nil_append, List.cons_append]
  apply Run.valG (wanted_none rfl _)
  · intro w1 h1 hk
    have hcw := fun b o => Below.cell (p := ⟨b, o, none⟩) h1
    go_simp; rfl
  simp only [Act.put, List.setIfInBounds_toArray, List.set_cons_succ, List.set_cons_zero, List.nil_append, List.cons_append]
  apply Run.done
  intro w2 h2 hk
  clear hk
  go_wp2
  exact bodyPost_ret (v := .tuple #[.int .i64 (r), .bool true]) (by simp [results, Tryd.results18, go_sem]) rfl ⟨rfl, hF.trans ((Fut.alloc _ _).trans ((Fut.drew _).trans h2))⟩
set_option maxHeartbeats 800000 in
theorem two_no (O a b r : Int) (w : World) (hT : Takes w) (ha : (Lit.int .i64 a).wf = true) (hb : (Lit.int .i64 b).wf = true)
    (hA : ∀ (v : Value) (w : World), Takes w → Vals w v [numV a, numV b] → Calls Tryd.prog 16 #[.int .i8 O, v] w fun e w' => e = .returned (pairV (noV) false) ∧ Fut w w') :
    Calls Tryd.prog 18 #[.int .i8 O, .int .i64 a, .int .i64 b] w fun e w' => e = .returned (.tuple #[.int .i64 (0), .bool false]) ∧ Fut w w' := by
  have HA := Lib.hid hA
  have HT := Lib.hid hT
  have Ha := Lib.hid ha
  have Hb := Lib.hid hb
  clear hA hT ha hb
  go_enter Tryd.func18, Tryd.ntmps18
  go_wp2_with fail
  refine (num_any a _).mono ?_
  rintro e w1 ⟨rfl, h1⟩
  go_wp2_with fail
  refine (num_any b _).mono ?_
  rintro e w2 ⟨rfl, h2⟩
  simp only [numV, V.val]
  go_wp2_with fail
  refine (HA.out _ _ (HT.out.fut ((h1.trans h2).trans (Fut.alloc _ _))) (vals_two w2 (numV a) (numV b) (numV_ok _ Ha.out) (numV_ok _ Hb.out) _)).mono ?_
  rintro e w3 ⟨rfl, h3⟩
  have hF : Fut w w3 := (h1.trans h2).trans ((Fut.alloc _ _).trans h3)
  simp only [pairV, numV, noV, V.val]
  go_wp2
  refine wp_graph 12 [.d, .d, .d, .d, .d, .d, .d, .d, .d, .d, .d, .d] (by kernel_rfl) (by kernel_rfl) (by kernel_rfl) ?_
  simp only [List.take_succ_cons, List.take_zero, List.drop_succ_cons, List.drop_zero, Exs]
  iterate 12 apply Exists.intro
  apply Run.valG (wanted_none rfl _)
  · intro w1 h1 hk
    have hcw := fun b o => Below.cell (p := ⟨b, o, none⟩) h1
    go_simp; rfl
  simp only [Act.put, List.setIfInBounds_toArray, List.set_cons_succ, List.set_cons_zero, List.nil_append, List.cons_append]
  apply Run.valG (wanted_none rfl _)
  · intro w1 h1 hk
    have hcw := fun b o => Below.cell (p := ⟨b, o, none⟩) h1
    go_simp; rfl
  simp only [Act.put, List.setIfInBounds_toArray, List.set_cons_succ, List.set_cons_zero, List.nil_append, List.cons_append]
  apply Run.valG (wanted_none rfl _)
  · intro w1 h1 hk
    have hcw := fun b o => Below.cell (p := ⟨b, o, none⟩) h1
    go_simp; rfl
  simp only [Act.put, List.setIfInBounds_toArray, List.set_cons_succ, List.set_cons_zero, List.nil_append, List.cons_append]
  apply Run.valG (wanted_none rfl _)
  · intro w1 h1 hk
    have hcw := fun b o => Below.cell (p := ⟨b, o, none⟩) h1
    go_simp; rfl
  simp only [Act.put, List.setIfInBounds_toArray, List.set_cons_succ, List.set_cons_zero, List.nil_append, List.cons_append]
  apply Run.skip (by go_simp)
  simp only [Act.put, List.setIfInBounds_toArray, List.set_cons_succ, List.set_cons_zero, List.nil_append, List.cons_append]
  apply Run.skip (by go_simp)
  simp only [Act.put, List.setIfInBounds_toArray, List.set_cons_succ, List.set_cons_zero, List.nil_append, List.cons_append]
  apply Run.skip (by go_simp)
  simp only [Act.put, List.setIfInBounds_toArray, List.set_cons_succ, List.set_cons_zero, List.nil_append, List.cons_append]
  apply Run.skip (by go_simp)
  simp only [Act.put, List.setIfInBounds_toArray, List.set_cons_succ, List.set_cons_zero, List.nil_append, List.cons_append]
  apply Run.skip (by go_simp)
  simp only [Act.put, List.setIfInBounds_toArray, List.set_cons_succ, List.set_cons_zero, List.nil_append, List.cons_append]
  apply Run.valG (wanted_none rfl _)
  · intro w1 h1 hk
    have hcw := fun b o => Below.cell (p := ⟨b, o, none⟩) h1
    go_simp; rfl
  simp only [Act.put, List.setIfInBounds_toArray, List.set_cons_succ, List.set_cons_zero, List.nil_append, List.cons_append]
  apply Run.valG (wanted_none rfl _)
  · intro w1 h1 hk
    have hcw := fun b o => Below.cell (p := ⟨b, o, none⟩) h1
    go_simp; rfl
  simp only [Act.put, List.setIfInBounds_toArray, List.set_cons_succ, List.set_cons_zero, List.nil_append, List.cons_append]
  apply Run.valG (wanted_none rfl _)
  · intro w1 h1 hk
    have hcw := fun b o => Below.cell (p := ⟨b, o, none⟩) h1
    go_simp; rfl
  simp only [Act.put, List.setIfInBounds_toArray, List.set_cons_succ, List.set_cons_zero, List.nil_append, List.cons_append]
  apply Run.done
  intro w2 h2 hk
  clear hk
  go_wp2
  exact bodyPost_ret (v := .tuple #[.int .i64 (0), .bool false]) (by simp [results, Tryd.results18, go_sem]) rfl ⟨rfl, hF.trans ((Fut.alloc _ _).trans ((Fut.drew _).trans h2))⟩


theorem wf64 (z : Int) : (Lit.int .i64 (wrap64 z)).wf = true := by
  simp [Lit.wf, IntKind.min, IntKind.max, IntKind.signed, IntKind.bits, wrap64]; omega
theorem wf_in {z : Int} (h : (Lit.int .i64 z).wf = true) : -9223372036854775808 ≤ z ∧ z ≤ 9223372036854775807 := by
  simpa [Lit.wf, IntKind.min, IntKind.max, IntKind.signed, IntKind.bits] using h
theorem in_wf {z : Int} (h : -9223372036854775808 ≤ z ∧ z ≤ 9223372036854775807) : (Lit.int .i64 z).wf = true := by
  simpa [Lit.wf, IntKind.min, IntKind.max, IntKind.signed, IntKind.bits] using h
theorem wrap64_k (z : Int) : ∃ k : Int, wrap64 z = z + k * 18446744073709551616 := ⟨-((z + 9223372036854775808) / 18446744073709551616), by unfold wrap64; omega⟩
theorem wrap64_add (z k : Int) : wrap64 (z + k * 18446744073709551616) = wrap64 z := by unfold wrap64; omega
theorem wrap64_in {z : Int} (h : -9223372036854775808 ≤ z ∧ z ≤ 9223372036854775807) : wrap64 z = z := by unfold wrap64; omega
theorem wrap64_mul_l (a b : Int) : wrap64 (wrap64 a * b) = wrap64 (a * b) := by
  obtain ⟨k, hk⟩ := wrap64_k a
  rw [hk, Int.add_mul, show k * 18446744073709551616 * b = (k * b) * 18446744073709551616 by rw [Int.mul_assoc, Int.mul_comm 18446744073709551616 b, ← Int.mul_assoc], wrap64_add]
theorem wrap64_mul_r (a b : Int) : wrap64 (a * wrap64 b) = wrap64 (a * b) := by rw [Int.mul_comm, wrap64_mul_l, Int.mul_comm]
theorem wrap64_add_l (a b : Int) : wrap64 (wrap64 a + b) = wrap64 (a + b) := by unfold wrap64; omega
theorem wrap64_add_r (a b : Int) : wrap64 (a + wrap64 b) = wrap64 (a + b) := by unfold wrap64; omega
theorem wrap64_sub_l (a b : Int) : wrap64 (wrap64 a - b) = wrap64 (a - b) := by unfold wrap64; omega

theorem two2 (a b r : Int) (w : World) (hT : Takes w) (ha : (Lit.int .i64 a).wf = true) (hb : (Lit.int .i64 b).wf = true) (hr : wrap64 (a + b) = r) :
    Calls Tryd.prog 18 #[.int .i8 2, .int .i64 a, .int .i64 b] w fun e w' => e = .returned (.tuple #[.int .i64 r, .bool true]) ∧ Fut w w' :=
  two_ok 2 a b r w hT ha hb fun v w hT hv => by
    have := arith2_any v (numV a) (numV b) w hT hv (good_num _) (good_num _)
    rw [show wrap64 ((numV a).n + (numV b).n) = r from hr] at this
    exact this
theorem two3 (a b r : Int) (w : World) (hT : Takes w) (ha : (Lit.int .i64 a).wf = true) (hb : (Lit.int .i64 b).wf = true) (hr : wrap64 (a - b) = r) :
    Calls Tryd.prog 18 #[.int .i8 3, .int .i64 a, .int .i64 b] w fun e w' => e = .returned (.tuple #[.int .i64 r, .bool true]) ∧ Fut w w' :=
  two_ok 3 a b r w hT ha hb fun v w hT hv => by
    have := arith3_any v (numV a) (numV b) w hT hv (good_num _) (good_num _)
    rw [show wrap64 ((numV a).n - (numV b).n) = r from hr] at this
    exact this
theorem two4 (a b r : Int) (w : World) (hT : Takes w) (ha : (Lit.int .i64 a).wf = true) (hb : (Lit.int .i64 b).wf = true) (hr : wrap64 (a * b) = r) :
    Calls Tryd.prog 18 #[.int .i8 4, .int .i64 a, .int .i64 b] w fun e w' => e = .returned (.tuple #[.int .i64 r, .bool true]) ∧ Fut w w' :=
  two_ok 4 a b r w hT ha hb fun v w hT hv => by
    have := arith4_any v (numV a) (numV b) w hT hv (good_num _) (good_num _)
    rw [show wrap64 ((numV a).n * (numV b).n) = r from hr] at this
    exact this

set_option maxHeartbeats 4000000 in
set_option maxRecDepth 100000 in
theorem ring_any (a b c : Int) (w : World) (hT : Takes w) (ha : (Lit.int .i64 a).wf = true) (hb : (Lit.int .i64 b).wf = true) (hc : (Lit.int .i64 c).wf = true) :
    Calls Tryd.prog 15 #[.int .i64 a, .int .i64 b, .int .i64 c] w fun e w' => e = .returned (.bool true) ∧ Fut w w' := by
  obtain ⟨ab, eab⟩ : ∃ x, wrap64 (a + b) = x := ⟨_, rfl⟩
  obtain ⟨abc, eabc⟩ : ∃ x, wrap64 (ab + c) = x := ⟨_, rfl⟩
  obtain ⟨bc, ebc⟩ : ∃ x, wrap64 (b + c) = x := ⟨_, rfl⟩
  obtain ⟨p, ep⟩ : ∃ x, wrap64 (a * b) = x := ⟨_, rfl⟩
  obtain ⟨r, er⟩ : ∃ x, wrap64 (p * c) = x := ⟨_, rfl⟩
  obtain ⟨s, es⟩ : ∃ x, wrap64 (b * c) = x := ⟨_, rfl⟩
  obtain ⟨u, eu⟩ : ∃ x, wrap64 (a * bc) = x := ⟨_, rfl⟩
  obtain ⟨v, ev⟩ : ∃ x, wrap64 (a * c) = x := ⟨_, rfl⟩
  have wab : (Lit.int .i64 ab).wf = true := eab ▸ wf64 _
  have wbc : (Lit.int .i64 bc).wf = true := ebc ▸ wf64 _
  have wp : (Lit.int .i64 p).wf = true := ep ▸ wf64 _
  have ws : (Lit.int .i64 s).wf = true := es ▸ wf64 _
  have wv : (Lit.int .i64 v).wf = true := ev ▸ wf64 _
  have e1 : wrap64 (b + a) = ab := by rw [Int.add_comm, eab]
  have e2 : wrap64 (a + bc) = abc := by rw [← ebc, wrap64_add_r, ← eabc, ← eab, wrap64_add_l, Int.add_assoc]
  have e3 : wrap64 (ab - b) = a := by rw [← eab, wrap64_sub_l, Int.add_sub_cancel, wrap64_in (wf_in ha)]
  have e4 : wrap64 (b * a) = p := by rw [Int.mul_comm, ep]
  have e5 : wrap64 (a * s) = r := by rw [← es, wrap64_mul_r, ← er, ← ep, wrap64_mul_l, Int.mul_assoc]
  have e6 : wrap64 (p + v) = u := by rw [← ep, ← ev, wrap64_add_l, wrap64_add_r, ← eu, ← ebc, wrap64_mul_r, Int.mul_add]
  have e7 : wrap64 (a * 1) = a := by rw [Int.mul_one, wrap64_in (wf_in ha)]
  have e8 : wrap64 (a + 0) = a := by rw [Int.add_zero, wrap64_in (wf_in ha)]
  have w1' : (Lit.int .i64 1).wf = true := by decide
  have w0' : (Lit.int .i64 0).wf = true := by decide
  have E := Lib.hid (And.intro eab (And.intro e1 (And.intro eabc (And.intro ebc (And.intro e2 (And.intro e3 (And.intro ep (And.intro e4 (And.intro er (And.intro es (And.intro e5 (And.intro eu (And.intro ev (And.intro e6 (And.intro e7 e8)))))))))))))))
  have W := Lib.hid (And.intro ha (And.intro hb (And.intro hc (And.intro wab (And.intro wbc (And.intro wp (And.intro ws (And.intro wv (And.intro w1' w0')))))))))
  have HT := Lib.hid hT
  clear eab e1 eabc ebc e2 e3 ep e4 er es e5 eu ev e6 e7 e8 ha hb hc wab wbc wp ws wv w1' w0' hT
  have F0 : Fut w w := Fut.refl w
  go_enter Tryd.func15, Tryd.ntmps15
  go_wp2_with fail
  refine (two2 a b _ _ (HT.out.fut F0) (W.out.1) (W.out.2.1) (E.out.1)).mono ?_
  rintro e w1 ⟨rfl, h1⟩
  have F1 := F0.trans h1
  go_wp2_with fail
  refine (two2 b a _ _ (HT.out.fut F1) (W.out.2.1) (W.out.1) (E.out.2.1)).mono ?_
  rintro e w2 ⟨rfl, h2⟩
  have F2 := F1.trans h2
  go_wp2_with fail
  refine (two2 ab c _ _ (HT.out.fut F2) (W.out.2.2.2.1) (W.out.2.2.1) (E.out.2.2.1)).mono ?_
  rintro e w3 ⟨rfl, h3⟩
  have F3 := F2.trans h3
  go_wp2_with fail
  refine (two2 b c _ _ (HT.out.fut F3) (W.out.2.1) (W.out.2.2.1) (E.out.2.2.2.1)).mono ?_
  rintro e w4 ⟨rfl, h4⟩
  have F4 := F3.trans h4
  go_wp2_with fail
  refine (two2 a bc _ _ (HT.out.fut F4) (W.out.1) (W.out.2.2.2.2.1) (E.out.2.2.2.2.1)).mono ?_
  rintro e w5 ⟨rfl, h5⟩
  have F5 := F4.trans h5
  go_wp2_with fail
  refine (two3 ab b _ _ (HT.out.fut F5) (W.out.2.2.2.1) (W.out.2.1) (E.out.2.2.2.2.2.1)).mono ?_
  rintro e w6 ⟨rfl, h6⟩
  have F6 := F5.trans h6
  go_wp2_with fail
  refine (two4 a b _ _ (HT.out.fut F6) (W.out.1) (W.out.2.1) (E.out.2.2.2.2.2.2.1)).mono ?_
  rintro e w7 ⟨rfl, h7⟩
  have F7 := F6.trans h7
  go_wp2_with fail
  refine (two4 b a _ _ (HT.out.fut F7) (W.out.2.1) (W.out.1) (E.out.2.2.2.2.2.2.2.1)).mono ?_
  rintro e w8 ⟨rfl, h8⟩
  have F8 := F7.trans h8
  go_wp2_with fail
  refine (two4 p c _ _ (HT.out.fut F8) (W.out.2.2.2.2.2.1) (W.out.2.2.1) (E.out.2.2.2.2.2.2.2.2.1)).mono ?_
  rintro e w9 ⟨rfl, h9⟩
  have F9 := F8.trans h9
  go_wp2_with fail
  refine (two4 b c _ _ (HT.out.fut F9) (W.out.2.1) (W.out.2.2.1) (E.out.2.2.2.2.2.2.2.2.2.1)).mono ?_
  rintro e w10 ⟨rfl, h10⟩
  have F10 := F9.trans h10
  go_wp2_with fail
  refine (two4 a s _ _ (HT.out.fut F10) (W.out.1) (W.out.2.2.2.2.2.2.1) (E.out.2.2.2.2.2.2.2.2.2.2.1)).mono ?_
  rintro e w11 ⟨rfl, h11⟩
  have F11 := F10.trans h11
  go_wp2_with fail
  refine (two4 a bc _ _ (HT.out.fut F11) (W.out.1) (W.out.2.2.2.2.1) (E.out.2.2.2.2.2.2.2.2.2.2.2.1)).mono ?_
  rintro e w12 ⟨rfl, h12⟩
  have F12 := F11.trans h12
  go_wp2_with fail
  refine (two4 a c _ _ (HT.out.fut F12) (W.out.1) (W.out.2.2.1) (E.out.2.2.2.2.2.2.2.2.2.2.2.2.1)).mono ?_
  rintro e w13 ⟨rfl, h13⟩
  have F13 := F12.trans h13
  go_wp2_with fail
  refine (two2 p v _ _ (HT.out.fut F13) (W.out.2.2.2.2.2.1) (W.out.2.2.2.2.2.2.2.1) (E.out.2.2.2.2.2.2.2.2.2.2.2.2.2.1)).mono ?_
  rintro e w14 ⟨rfl, h14⟩
  have F14 := F13.trans h14
  go_wp2_with fail
  refine (two4 a 1 _ _ (HT.out.fut F14) (W.out.1) (W.out.2.2.2.2.2.2.2.2.1) (E.out.2.2.2.2.2.2.2.2.2.2.2.2.2.2.1)).mono ?_
  rintro e w15 ⟨rfl, h15⟩
  have F15 := F14.trans h15
  go_wp2_with fail
  refine (two2 a 0 _ _ (HT.out.fut F15) (W.out.1) (W.out.2.2.2.2.2.2.2.2.2) (E.out.2.2.2.2.2.2.2.2.2.2.2.2.2.2.2)).mono ?_
  rintro e w16 ⟨rfl, h16⟩
  have F16 := F15.trans h16
  go_wp2
  go_ret
  exact ⟨rfl, F16⟩

end Go.Proofs.YtailfcodbibnjaaDoor
