/- The law ValueLists holds: for any two api.Fact, the program's order of facts and of tuples is the reference's, and both facts are left as they were. No condition. -/
import Derived.Test.YtghidmemadjamaaFact
namespace Go.Proofs.Ytghidmemadjamaa
open Go.RowKit Go.ChangeShapes Go.WideShapes Go.ChangeAt
set_option linter.unusedSimpArgs false
set_option linter.unusedVariables false

theorem facs_two (w : World) (n : Nat) (f g : Fc) (u v : Value) (hn : n = w.heap.size) (hu : Vals w u f.a) (hv : Vals w v g.a) (hp : f.p.size ≤ 140737488351232) (hq : g.p.size ≤ 140737488351232) :
    Facs (w.alloc (.cells #[.string f.p, u, .string g.p, v] 31)) (.slice (some ⟨n, 0, none⟩) 2 2) [f, g] := by
  subst hn
  have hF := Fut.alloc w (.cells #[.string f.p, u, .string g.p, v] 31)
  refine ⟨_, 2, rfl, Nat.le_refl _, by omega, fun i x hx => ?_⟩
  have hil : i < 2 := (List.getElem?_eq_some_iff.1 hx).1
  rcases (by omega : i = 0 ∨ i = 1) with rfl | rfl
  · simp at hx
    subst hx
    refine ⟨_, 0, [.string f.p, u], rfl, rfl, fun j c hj => ?_, u, rfl, hp, hu.fut RV.stays hF⟩
    have hjl : j < 2 := (List.getElem?_eq_some_iff.1 hj).1
    refine (World.cell?_alloc_mark w _ _ (0, 0) _).trans ?_
    rcases (by omega : j = 0 ∨ j = 1) with rfl | rfl <;> simpa using hj
  · simp at hx
    subst hx
    refine ⟨_, 0, [.string g.p, v], rfl, rfl, fun j c hj => ?_, v, rfl, hq, hv.fut RV.stays hF⟩
    have hjl : j < 2 := (List.getElem?_eq_some_iff.1 hj).1
    refine (World.cell?_alloc_mark w _ _ (0, 0) _).trans ?_
    rcases (by omega : j = 0 ∨ j = 1) with rfl | rfl <;> simpa using hj

set_option maxHeartbeats 800000 in
theorem valueLists_any (f g : Fc) (u v : Value) (w : World) (hu : Vals w u f.a) (hv : Vals w v g.a) (hp : f.p.size ≤ 140737488351232) (hq : g.p.size ≤ 140737488351232) :
    Calls Try.prog 4 #[.agg #[.string f.p, u], .agg #[.string g.p, v]] w fun e w' => e = .returned (.bool true) ∧ Fut w w' := by
  obtain ⟨A, cap, rfl, hl, hm⟩ := SlRep.form hu
  obtain ⟨B, cap', rfl, hl', hm'⟩ := SlRep.form hv
  have hf0 : ∀ X Y, Fut w ((w.alloc X).alloc Y) := fun X Y => ((Fut.alloc _ _).trans (Fut.alloc _ _))
  have hpb : parts [f, g] = 2 + f.a.length + g.a.length := by simp [parts]; omega
  have HPB := Lib.hid hpb
  clear hpb
  by_cases hb : 1048576 < parts [f, g]
  · have hbd : decide (1048576 < parts [f, g]) = true := decide_eq_true hb
    go_enter Try.func4, Try.ntmps4
    go_wp2_with fail
    refine (beyondF_any _ [f, g] _ ?_).mono ?_
    · exact facs_two _ _ f g _ _ (by simp) (hu.fut RV.stays (hf0 _ _)) (hv.fut RV.stays (hf0 _ _)) hp hq
    rintro e w1 ⟨rfl, rfl⟩
    go_wp2
    go_ret
    exact ⟨rfl, (hf0 _ _).trans (Fut.alloc _ _)⟩
  · have hbd : decide (1048576 < parts [f, g]) = false := decide_eq_false hb
    have hnf : f.a.length < 4398046511104 := by have := HPB.out; omega
    have hng : g.a.length < 4398046511104 := by have := HPB.out; omega
    clear hb
    go_enter Try.func4, Try.ntmps4
    go_wp2_with fail
    refine (beyondF_any _ [f, g] _ ?_).mono ?_
    · exact facs_two _ _ f g _ _ (by simp) (hu.fut RV.stays (hf0 _ _)) (hv.fut RV.stays (hf0 _ _)) hp hq
    rintro e w1 ⟨rfl, hw1⟩
    have hF1 : Fut w w1 := by rw [hw1]; exact (hf0 _ _).trans (Fut.alloc _ _)
    have c1_0_0 : w1.cell? ⟨w.heap.size, 0, none⟩ = some (.string f.p) := by rw [hw1]; go_simp
    have c1_0_1 : w1.cell? ⟨w.heap.size, 1, none⟩ = some (.slice A f.a.length cap) := by rw [hw1]; go_simp
    have c1_1_0 : w1.cell? ⟨w.heap.size + 1, 0, none⟩ = some (.string g.p) := by rw [hw1]; go_simp
    have c1_1_1 : w1.cell? ⟨w.heap.size + 1, 1, none⟩ = some (.slice B g.a.length cap') := by rw [hw1]; go_simp
    clear hw1
    go_wp2_with fail
    refine (twinF_any f _ _ (hu.fut RV.stays hF1) hnf).mono ?_
    rintro e w2 ⟨v1, rfl, ht1, h2⟩
    have HT1 := Lib.hid ht1
    obtain ⟨g1, _, rfl, _⟩ := ht1
    have c2_0_0 := h2.cell c1_0_0
    have c2_0_1 := h2.cell c1_0_1
    have c2_1_0 := h2.cell c1_1_0
    have c2_1_1 := h2.cell c1_1_1
    have hF2 := Lib.hid (hF1.trans h2)
    have l2_0 : w.heap.size < w2.heap.size := lt_of_cell c2_0_0
    have l2_1 : w.heap.size + 1 < w2.heap.size := lt_of_cell c2_1_0
    clear c1_0_0 c1_0_1 c1_1_0 c1_1_1 h2
    go_wp2_with fail
    refine (twinF_any g _ _ (hv.fut RV.stays (hF2.out.trans (Fut.alloc _ _))) hng).mono ?_
    rintro e w3 ⟨v2, rfl, ht2, h3⟩
    have HT2 := Lib.hid ht2
    obtain ⟨g2, _, rfl, _⟩ := ht2
    have h23 := (Fut.alloc _ _).trans h3
    have c3_0_0 := h23.cell c2_0_0
    have c3_0_1 := h23.cell c2_0_1
    have c3_1_0 := h23.cell c2_1_0
    have c3_1_1 := h23.cell c2_1_1
    have c3_5_0 : w3.cell? ⟨w2.heap.size, 0, none⟩ = some (.string f.p) := h3.cell (by go_simp)
    have c3_5_1 : w3.cell? ⟨w2.heap.size, 1, none⟩ = some (.slice (some ⟨g1, 0, none⟩) f.a.length (f.a.length + 1)) := h3.cell (by go_simp)
    have hF3 := Lib.hid (hF2.out.trans h23)
    have HT1' := Lib.hid (HT1.out.fut h23)
    have l3_0 : w.heap.size < w3.heap.size := lt_of_cell c3_0_0
    have l3_1 : w.heap.size + 1 < w3.heap.size := lt_of_cell c3_1_0
    have l3_5 : w2.heap.size < w3.heap.size := lt_of_cell c3_5_0
    clear c2_0_0 c2_0_1 c2_1_0 c2_1_1 h3 h23
    go_wp2_with fail
    generalize hw4 : w3.alloc (.cells #[.string g.p, .slice (some ⟨g2, 0, none⟩) g.a.length (g.a.length + 1)] 31) = w4
    have h34 : Fut w3 w4 := by rw [← hw4]; exact Fut.alloc _ _
    have c4_6_0 : w4.cell? ⟨w3.heap.size, 0, none⟩ = some (.string g.p) := by rw [← hw4]; exact World.cell?_alloc_mark w3 _ _ (0, 0) 0
    have c4_6_1 : w4.cell? ⟨w3.heap.size, 1, none⟩ = some (.slice (some ⟨g2, 0, none⟩) g.a.length (g.a.length + 1)) := by rw [← hw4]; exact World.cell?_alloc_mark w3 _ _ (0, 0) 1
    have HT2' := HT2.out.fut h34
    have HT1'' := HT1'.out.fut h34
    have hv1 := HT1''.vals hu.oks hnf
    have hv2 := HT2'.vals hv.oks hng
    have hF4 := hF3.out.trans h34
    have hu4 := hu.fut RV.stays hF4
    have hv4 := hv.fut RV.stays hF4
    have HP := Lib.hid (And.intro HT1'' (And.intro HT2' (And.intro hv1 (And.intro hv2 (And.intro hu4 (And.intro hv4 hF4))))))
    have c4_0_0 := h34.cell c3_0_0
    have c4_0_1 := h34.cell c3_0_1
    have c4_1_0 := h34.cell c3_1_0
    have c4_1_1 := h34.cell c3_1_1
    have c4_5_0 := h34.cell c3_5_0
    have c4_5_1 := h34.cell c3_5_1
    clear HT1'' HT2' hv1 hv2 hu4 hv4 hF4 h34 hw4 c3_0_0 c3_0_1 c3_1_0 c3_1_1 c3_5_0 c3_5_1 HT1 HT2 HT1' hF1 hF2 hF3
    refine wp_graph 31 [.d, .d, .d, .d, .d, .d, .d, .d, .d, .d, .d, .d, .d, .d, .d, .d, .d, .d, .d, .d, .d, .d, .d, .d, .d, .d, .d, .d, .d, .d, .d] (by kernel_rfl) (by kernel_rfl) (by kernel_rfl) ?_
    simp only [List.take_succ_cons, List.take_zero, List.drop_succ_cons, List.drop_zero, Exs]
    iterate 31 apply Exists.intro
    apply Run.valG (wanted_none rfl _)
    · intro w1 h1 hk
      have hh := (Fut.drew _).trans h1; have x00 := hh.cell c4_0_0; have x01 := hh.cell c4_0_1; have x10 := hh.cell c4_1_0; have x11 := hh.cell c4_1_1; have x50 := hh.cell c4_5_0; have x51 := hh.cell c4_5_1; have x60 := hh.cell c4_6_0; have x61 := hh.cell c4_6_1
      have hcw := fun b o => Below.cell (p := ⟨b, o, none⟩) h1
      go_simp; rfl
    simp only [Act.put, List.setIfInBounds_toArray, List.set_cons_succ, List.set_cons_zero, List.nil_append, List.cons_append]
    apply Run.valG (wanted_none rfl _)
    · intro w1 h1 hk
      have hh := (Fut.drew _).trans h1; have x00 := hh.cell c4_0_0; have x01 := hh.cell c4_0_1; have x10 := hh.cell c4_1_0; have x11 := hh.cell c4_1_1; have x50 := hh.cell c4_5_0; have x51 := hh.cell c4_5_1; have x60 := hh.cell c4_6_0; have x61 := hh.cell c4_6_1
      have hcw := fun b o => Below.cell (p := ⟨b, o, none⟩) h1
      go_simp; rfl
    simp only [Act.put, List.setIfInBounds_toArray, List.set_cons_succ, List.set_cons_zero, List.nil_append, List.cons_append]
    apply Run.call (wanted_none rfl _) (fun _ _ => by go_simp; exact ⟨rfl, rfl⟩)
    · intro w1 h1 hk
      have hh := (Fut.drew _).trans h1; have x00 := hh.cell c4_0_0; have x01 := hh.cell c4_0_1; have x10 := hh.cell c4_1_0; have x11 := hh.cell c4_1_1; have x50 := hh.cell c4_5_0; have x51 := hh.cell c4_5_1; have x60 := hh.cell c4_6_0; have x61 := hh.cell c4_6_1
      exact cmpF_any f g _ _ _ (HP.out.2.2.1.fut RV.stays hh) (HP.out.2.2.2.1.fut RV.stays hh)
    simp only [Act.put, List.setIfInBounds_toArray, List.set_cons_succ, List.set_cons_zero, List.nil_append, List.cons_append]
    apply Run.valG (wanted_none rfl _)
    · intro w1 h1 hk
      have hh := (Fut.drew _).trans h1; have x00 := hh.cell c4_0_0; have x01 := hh.cell c4_0_1; have x10 := hh.cell c4_1_0; have x11 := hh.cell c4_1_1; have x50 := hh.cell c4_5_0; have x51 := hh.cell c4_5_1; have x60 := hh.cell c4_6_0; have x61 := hh.cell c4_6_1
      have hcw := fun b o => Below.cell (p := ⟨b, o, none⟩) h1
      go_simp; rfl
    simp only [Act.put, List.setIfInBounds_toArray, List.set_cons_succ, List.set_cons_zero, List.nil_append, List.cons_append]
    apply Run.valG (wanted_none rfl _)
    · intro w1 h1 hk
      have hh := (Fut.drew _).trans h1; have x00 := hh.cell c4_0_0; have x01 := hh.cell c4_0_1; have x10 := hh.cell c4_1_0; have x11 := hh.cell c4_1_1; have x50 := hh.cell c4_5_0; have x51 := hh.cell c4_5_1; have x60 := hh.cell c4_6_0; have x61 := hh.cell c4_6_1
      have hcw := fun b o => Below.cell (p := ⟨b, o, none⟩) h1
      go_simp; rfl
    simp only [Act.put, List.setIfInBounds_toArray, List.set_cons_succ, List.set_cons_zero, List.nil_append, List.cons_append]
    apply Run.call (wanted_none rfl _) (fun _ _ => by go_simp; exact ⟨rfl, rfl⟩)
    · intro w1 h1 hk
      have hh := (Fut.drew _).trans h1; have x00 := hh.cell c4_0_0; have x01 := hh.cell c4_0_1; have x10 := hh.cell c4_1_0; have x11 := hh.cell c4_1_1; have x50 := hh.cell c4_5_0; have x51 := hh.cell c4_5_1; have x60 := hh.cell c4_6_0; have x61 := hh.cell c4_6_1
      exact rcmpF_any f g _ _ _ (HP.out.2.2.2.2.1.fut RV.stays hh) (HP.out.2.2.2.2.2.1.fut RV.stays hh)
    simp only [Act.put, List.setIfInBounds_toArray, List.set_cons_succ, List.set_cons_zero, List.nil_append, List.cons_append]
    apply Run.valG (wanted_none rfl _)
    · intro w1 h1 hk
      have hh := (Fut.drew _).trans h1; have x00 := hh.cell c4_0_0; have x01 := hh.cell c4_0_1; have x10 := hh.cell c4_1_0; have x11 := hh.cell c4_1_1; have x50 := hh.cell c4_5_0; have x51 := hh.cell c4_5_1; have x60 := hh.cell c4_6_0; have x61 := hh.cell c4_6_1
      have hcw := fun b o => Below.cell (p := ⟨b, o, none⟩) h1
      go_simp; rfl
    simp only [Act.put, List.setIfInBounds_toArray, List.set_cons_succ, List.set_cons_zero, List.nil_append, List.cons_append]
    apply Run.valG (wanted_none rfl _)
    · intro w1 h1 hk
      have hh := (Fut.drew _).trans h1; have x00 := hh.cell c4_0_0; have x01 := hh.cell c4_0_1; have x10 := hh.cell c4_1_0; have x11 := hh.cell c4_1_1; have x50 := hh.cell c4_5_0; have x51 := hh.cell c4_5_1; have x60 := hh.cell c4_6_0; have x61 := hh.cell c4_6_1
      have hcw := fun b o => Below.cell (p := ⟨b, o, none⟩) h1
      go_simp; rfl
    simp only [Act.put, List.setIfInBounds_toArray, List.set_cons_succ, List.set_cons_zero, List.nil_append, List.cons_append]
    apply Run.valG (by go_simp)
    · intro w1 h1 hk
      have hh := (Fut.drew _).trans h1; have x00 := hh.cell c4_0_0; have x01 := hh.cell c4_0_1; have x10 := hh.cell c4_1_0; have x11 := hh.cell c4_1_1; have x50 := hh.cell c4_5_0; have x51 := hh.cell c4_5_1; have x60 := hh.cell c4_6_0; have x61 := hh.cell c4_6_1
      have hcw := fun b o => Below.cell (p := ⟨b, o, none⟩) h1
      go_simp; rfl
    simp only [Act.put, List.setIfInBounds_toArray, List.set_cons_succ, List.set_cons_zero, List.nil_append, List.cons_append]
    apply Run.valG (by go_simp)
    · intro w1 h1 hk
      have hh := (Fut.drew _).trans h1; have x00 := hh.cell c4_0_0; have x01 := hh.cell c4_0_1; have x10 := hh.cell c4_1_0; have x11 := hh.cell c4_1_1; have x50 := hh.cell c4_5_0; have x51 := hh.cell c4_5_1; have x60 := hh.cell c4_6_0; have x61 := hh.cell c4_6_1
      have hcw := fun b o => Below.cell (p := ⟨b, o, none⟩) h1
      go_simp; rfl
    simp only [Act.put, List.setIfInBounds_toArray, List.set_cons_succ, List.set_cons_zero, List.nil_append, List.cons_append]
    apply Run.valG (by go_simp)
    · intro w1 h1 hk
      have hh := (Fut.drew _).trans h1; have x00 := hh.cell c4_0_0; have x01 := hh.cell c4_0_1; have x10 := hh.cell c4_1_0; have x11 := hh.cell c4_1_1; have x50 := hh.cell c4_5_0; have x51 := hh.cell c4_5_1; have x60 := hh.cell c4_6_0; have x61 := hh.cell c4_6_1
      have hcw := fun b o => Below.cell (p := ⟨b, o, none⟩) h1
      go_simp; rfl
    simp only [Act.put, List.setIfInBounds_toArray, List.set_cons_succ, List.set_cons_zero, List.nil_append, List.cons_append]
    apply Run.valG (by go_simp)
    · intro w1 h1 hk
      have hh := (Fut.drew _).trans h1; have x00 := hh.cell c4_0_0; have x01 := hh.cell c4_0_1; have x10 := hh.cell c4_1_0; have x11 := hh.cell c4_1_1; have x50 := hh.cell c4_5_0; have x51 := hh.cell c4_5_1; have x60 := hh.cell c4_6_0; have x61 := hh.cell c4_6_1
      have hcw := fun b o => Below.cell (p := ⟨b, o, none⟩) h1
      go_simp; rfl
    simp only [Act.put, List.setIfInBounds_toArray, List.set_cons_succ, List.set_cons_zero, List.nil_append, List.cons_append]
    apply Run.call (by go_simp) (fun _ _ => by go_simp; exact ⟨rfl, rfl⟩)
    · intro w1 h1 hk
      have hh := (Fut.drew _).trans h1; have x00 := hh.cell c4_0_0; have x01 := hh.cell c4_0_1; have x10 := hh.cell c4_1_0; have x11 := hh.cell c4_1_1; have x50 := hh.cell c4_5_0; have x51 := hh.cell c4_5_1; have x60 := hh.cell c4_6_0; have x61 := hh.cell c4_6_1
      exact cmpT_any _ _ f.a g.a _ (HP.out.2.2.1.fut RV.stays hh) (HP.out.2.2.2.1.fut RV.stays hh)
    simp only [Act.put, List.setIfInBounds_toArray, List.set_cons_succ, List.set_cons_zero, List.nil_append, List.cons_append]
    apply Run.valG (by go_simp)
    · intro w1 h1 hk
      have hh := (Fut.drew _).trans h1; have x00 := hh.cell c4_0_0; have x01 := hh.cell c4_0_1; have x10 := hh.cell c4_1_0; have x11 := hh.cell c4_1_1; have x50 := hh.cell c4_5_0; have x51 := hh.cell c4_5_1; have x60 := hh.cell c4_6_0; have x61 := hh.cell c4_6_1
      have hcw := fun b o => Below.cell (p := ⟨b, o, none⟩) h1
      go_simp; rfl
    simp only [Act.put, List.setIfInBounds_toArray, List.set_cons_succ, List.set_cons_zero, List.nil_append, List.cons_append]
    apply Run.valG (by go_simp)
    · intro w1 h1 hk
      have hh := (Fut.drew _).trans h1; have x00 := hh.cell c4_0_0; have x01 := hh.cell c4_0_1; have x10 := hh.cell c4_1_0; have x11 := hh.cell c4_1_1; have x50 := hh.cell c4_5_0; have x51 := hh.cell c4_5_1; have x60 := hh.cell c4_6_0; have x61 := hh.cell c4_6_1
      have hcw := fun b o => Below.cell (p := ⟨b, o, none⟩) h1
      go_simp; rfl
    simp only [Act.put, List.setIfInBounds_toArray, List.set_cons_succ, List.set_cons_zero, List.nil_append, List.cons_append]
    apply Run.valG (by go_simp)
    · intro w1 h1 hk
      have hh := (Fut.drew _).trans h1; have x00 := hh.cell c4_0_0; have x01 := hh.cell c4_0_1; have x10 := hh.cell c4_1_0; have x11 := hh.cell c4_1_1; have x50 := hh.cell c4_5_0; have x51 := hh.cell c4_5_1; have x60 := hh.cell c4_6_0; have x61 := hh.cell c4_6_1
      have hcw := fun b o => Below.cell (p := ⟨b, o, none⟩) h1
      go_simp; rfl
    simp only [Act.put, List.setIfInBounds_toArray, List.set_cons_succ, List.set_cons_zero, List.nil_append, List.cons_append]
    apply Run.valG (by go_simp)
    · intro w1 h1 hk
      have hh := (Fut.drew _).trans h1; have x00 := hh.cell c4_0_0; have x01 := hh.cell c4_0_1; have x10 := hh.cell c4_1_0; have x11 := hh.cell c4_1_1; have x50 := hh.cell c4_5_0; have x51 := hh.cell c4_5_1; have x60 := hh.cell c4_6_0; have x61 := hh.cell c4_6_1
      have hcw := fun b o => Below.cell (p := ⟨b, o, none⟩) h1
      go_simp; rfl
    simp only [Act.put, List.setIfInBounds_toArray, List.set_cons_succ, List.set_cons_zero, List.nil_append, List.cons_append]
    apply Run.call (by go_simp) (fun _ _ => by go_simp; exact ⟨rfl, rfl⟩)
    · intro w1 h1 hk
      have hh := (Fut.drew _).trans h1; have x00 := hh.cell c4_0_0; have x01 := hh.cell c4_0_1; have x10 := hh.cell c4_1_0; have x11 := hh.cell c4_1_1; have x50 := hh.cell c4_5_0; have x51 := hh.cell c4_5_1; have x60 := hh.cell c4_6_0; have x61 := hh.cell c4_6_1
      exact rcmpT_any _ _ f.a g.a _ (HP.out.2.2.2.2.1.fut RV.stays hh) (HP.out.2.2.2.2.2.1.fut RV.stays hh)
    simp only [Act.put, List.setIfInBounds_toArray, List.set_cons_succ, List.set_cons_zero, List.nil_append, List.cons_append]
    apply Run.valG (by go_simp)
    · intro w1 h1 hk
      have hh := (Fut.drew _).trans h1; have x00 := hh.cell c4_0_0; have x01 := hh.cell c4_0_1; have x10 := hh.cell c4_1_0; have x11 := hh.cell c4_1_1; have x50 := hh.cell c4_5_0; have x51 := hh.cell c4_5_1; have x60 := hh.cell c4_6_0; have x61 := hh.cell c4_6_1
      have hcw := fun b o => Below.cell (p := ⟨b, o, none⟩) h1
      go_simp; rfl
    simp only [Act.put, List.setIfInBounds_toArray, List.set_cons_succ, List.set_cons_zero, List.nil_append, List.cons_append]
    apply Run.valG (wanted_none rfl _)
    · intro w1 h1 hk
      have hh := (Fut.drew _).trans h1; have x00 := hh.cell c4_0_0; have x01 := hh.cell c4_0_1; have x10 := hh.cell c4_1_0; have x11 := hh.cell c4_1_1; have x50 := hh.cell c4_5_0; have x51 := hh.cell c4_5_1; have x60 := hh.cell c4_6_0; have x61 := hh.cell c4_6_1
      have hcw := fun b o => Below.cell (p := ⟨b, o, none⟩) h1
      go_simp; rfl
    simp only [Act.put, List.setIfInBounds_toArray, List.set_cons_succ, List.set_cons_zero, List.nil_append, List.cons_append]
    apply Run.valG (wanted_none rfl _)
    · intro w1 h1 hk
      have hh := (Fut.drew _).trans h1; have x00 := hh.cell c4_0_0; have x01 := hh.cell c4_0_1; have x10 := hh.cell c4_1_0; have x11 := hh.cell c4_1_1; have x50 := hh.cell c4_5_0; have x51 := hh.cell c4_5_1; have x60 := hh.cell c4_6_0; have x61 := hh.cell c4_6_1
      have hcw := fun b o => Below.cell (p := ⟨b, o, none⟩) h1
      go_simp; rfl
    simp only [Act.put, List.setIfInBounds_toArray, List.set_cons_succ, List.set_cons_zero, List.nil_append, List.cons_append]
    apply Run.valG (by go_simp)
    · intro w1 h1 hk
      have hh := (Fut.drew _).trans h1; have x00 := hh.cell c4_0_0; have x01 := hh.cell c4_0_1; have x10 := hh.cell c4_1_0; have x11 := hh.cell c4_1_1; have x50 := hh.cell c4_5_0; have x51 := hh.cell c4_5_1; have x60 := hh.cell c4_6_0; have x61 := hh.cell c4_6_1
      have hcw := fun b o => Below.cell (p := ⟨b, o, none⟩) h1
      go_simp; rfl
    simp only [Act.put, List.setIfInBounds_toArray, List.set_cons_succ, List.set_cons_zero, List.nil_append, List.cons_append]
    apply Run.valG (by go_simp)
    · intro w1 h1 hk
      have hh := (Fut.drew _).trans h1; have x00 := hh.cell c4_0_0; have x01 := hh.cell c4_0_1; have x10 := hh.cell c4_1_0; have x11 := hh.cell c4_1_1; have x50 := hh.cell c4_5_0; have x51 := hh.cell c4_5_1; have x60 := hh.cell c4_6_0; have x61 := hh.cell c4_6_1
      have hcw := fun b o => Below.cell (p := ⟨b, o, none⟩) h1
      go_simp; rfl
    simp only [Act.put, List.setIfInBounds_toArray, List.set_cons_succ, List.set_cons_zero, List.nil_append, List.cons_append]
    apply Run.call (by go_simp) (fun _ _ => by go_simp; exact ⟨rfl, rfl⟩)
    · intro w1 h1 hk
      have hh := (Fut.drew _).trans h1; have x00 := hh.cell c4_0_0; have x01 := hh.cell c4_0_1; have x10 := hh.cell c4_1_0; have x11 := hh.cell c4_1_1; have x50 := hh.cell c4_5_0; have x51 := hh.cell c4_5_1; have x60 := hh.cell c4_6_0; have x61 := hh.cell c4_6_1
      exact leftF_any _ f _ _ _ (HP.out.1.fut hh) (HP.out.2.2.2.2.1.fut RV.stays hh) hnf
    simp only [Act.put, List.setIfInBounds_toArray, List.set_cons_succ, List.set_cons_zero, List.nil_append, List.cons_append]
    apply Run.valG (wanted_none rfl _)
    · intro w1 h1 hk
      have hh := (Fut.drew _).trans h1; have x00 := hh.cell c4_0_0; have x01 := hh.cell c4_0_1; have x10 := hh.cell c4_1_0; have x11 := hh.cell c4_1_1; have x50 := hh.cell c4_5_0; have x51 := hh.cell c4_5_1; have x60 := hh.cell c4_6_0; have x61 := hh.cell c4_6_1
      have hcw := fun b o => Below.cell (p := ⟨b, o, none⟩) h1
      go_simp; rfl
    simp only [Act.put, List.setIfInBounds_toArray, List.set_cons_succ, List.set_cons_zero, List.nil_append, List.cons_append]
    apply Run.valG (wanted_none rfl _)
    · intro w1 h1 hk
      have hh := (Fut.drew _).trans h1; have x00 := hh.cell c4_0_0; have x01 := hh.cell c4_0_1; have x10 := hh.cell c4_1_0; have x11 := hh.cell c4_1_1; have x50 := hh.cell c4_5_0; have x51 := hh.cell c4_5_1; have x60 := hh.cell c4_6_0; have x61 := hh.cell c4_6_1
      have hcw := fun b o => Below.cell (p := ⟨b, o, none⟩) h1
      go_simp; rfl
    simp only [Act.put, List.setIfInBounds_toArray, List.set_cons_succ, List.set_cons_zero, List.nil_append, List.cons_append]
    apply Run.valG (by go_simp)
    · intro w1 h1 hk
      have hh := (Fut.drew _).trans h1; have x00 := hh.cell c4_0_0; have x01 := hh.cell c4_0_1; have x10 := hh.cell c4_1_0; have x11 := hh.cell c4_1_1; have x50 := hh.cell c4_5_0; have x51 := hh.cell c4_5_1; have x60 := hh.cell c4_6_0; have x61 := hh.cell c4_6_1
      have hcw := fun b o => Below.cell (p := ⟨b, o, none⟩) h1
      go_simp; rfl
    simp only [Act.put, List.setIfInBounds_toArray, List.set_cons_succ, List.set_cons_zero, List.nil_append, List.cons_append]
    apply Run.valG (by go_simp)
    · intro w1 h1 hk
      have hh := (Fut.drew _).trans h1; have x00 := hh.cell c4_0_0; have x01 := hh.cell c4_0_1; have x10 := hh.cell c4_1_0; have x11 := hh.cell c4_1_1; have x50 := hh.cell c4_5_0; have x51 := hh.cell c4_5_1; have x60 := hh.cell c4_6_0; have x61 := hh.cell c4_6_1
      have hcw := fun b o => Below.cell (p := ⟨b, o, none⟩) h1
      go_simp; rfl
    simp only [Act.put, List.setIfInBounds_toArray, List.set_cons_succ, List.set_cons_zero, List.nil_append, List.cons_append]
    apply Run.call (by go_simp) (fun _ _ => by go_simp; exact ⟨rfl, rfl⟩)
    · intro w1 h1 hk
      have hh := (Fut.drew _).trans h1; have x00 := hh.cell c4_0_0; have x01 := hh.cell c4_0_1; have x10 := hh.cell c4_1_0; have x11 := hh.cell c4_1_1; have x50 := hh.cell c4_5_0; have x51 := hh.cell c4_5_1; have x60 := hh.cell c4_6_0; have x61 := hh.cell c4_6_1
      exact leftF_any _ g _ _ _ (HP.out.2.1.fut hh) (HP.out.2.2.2.2.2.1.fut RV.stays hh) hng
    simp only [Act.put, List.setIfInBounds_toArray, List.set_cons_succ, List.set_cons_zero, List.nil_append, List.cons_append]
    apply Run.valG (wanted_none rfl _)
    · intro w1 h1 hk
      have hh := (Fut.drew _).trans h1; have x00 := hh.cell c4_0_0; have x01 := hh.cell c4_0_1; have x10 := hh.cell c4_1_0; have x11 := hh.cell c4_1_1; have x50 := hh.cell c4_5_0; have x51 := hh.cell c4_5_1; have x60 := hh.cell c4_6_0; have x61 := hh.cell c4_6_1
      have hcw := fun b o => Below.cell (p := ⟨b, o, none⟩) h1
      go_simp; rfl
    simp only [Act.put, List.setIfInBounds_toArray, List.set_cons_succ, List.set_cons_zero, List.nil_append, List.cons_append]
    apply Run.valG (wanted_none rfl _)
    · intro w1 h1 hk
      have hh := (Fut.drew _).trans h1; have x00 := hh.cell c4_0_0; have x01 := hh.cell c4_0_1; have x10 := hh.cell c4_1_0; have x11 := hh.cell c4_1_1; have x50 := hh.cell c4_5_0; have x51 := hh.cell c4_5_1; have x60 := hh.cell c4_6_0; have x61 := hh.cell c4_6_1
      have hcw := fun b o => Below.cell (p := ⟨b, o, none⟩) h1
      go_simp; rfl
    simp only [Act.put, List.setIfInBounds_toArray, List.set_cons_succ, List.set_cons_zero, List.nil_append, List.cons_append]
    apply Run.done
    intro w2 h2 hk
    clear hk
    go_wp2
    go_ret
    exact ⟨rfl, HP.out.2.2.2.2.2.2.trans ((Fut.drew _).trans h2)⟩
theorem rF : Reads Try.prog 31 RF := reads_F Try.underlying31 (by kernel_rfl) Try.underlying9 (rVs.imp fun w cs d ⟨v, h1, h2⟩ => ⟨v, h1, h2.more (by omega)⟩) rfl rfl (by kernel_rfl) (by kernel_rfl)
theorem ValueLists_own : ownKnob Try.prog.godebug = none := by kernel_rfl
theorem ValueLists_laidOut : laidOutB Try.prog = true := by kernel_rfl
theorem ValueLists_row_walk {H : Type} {enc : TypeId × Value → H} (W : World) (base : Nat) (args : Array Value) (ds : List (DataW H)) (p : List MemPlace)
    (hval : ∀ (j : Nat) t v, (#[31, 31] : Array Nat)[j]? = some t → args[j]? = some v → Value.okWide Try.prog W .any base t v)
    (hA : DataW.TrodAll enc Try.prog W 0 (fun _ => true) true [31, 31] args.toList ds p) (hS : (DataW.weightsEach Try.prog [31, 31] ds).all (fun n => decide (n ≤ reachBytes)) = true) :
    Calls Try.prog 4 args W fun e W' => e = .returned (.bool true) ∧ Fut W W' := by
  obtain ⟨v0, vs0, d0, ds0, p0, q0, hargs, rfl, rfl, h0, r0⟩ := trodAll_cons hA
  obtain ⟨v1, vs1, d1, ds1, p1, q1, rfl, rfl, rfl, h1, r1⟩ := trodAll_cons r0
  obtain ⟨rfl, rfl, rfl⟩ := trodAll_nil r1
  obtain rfl : args = #[v0, v1] := by cases args; simp_all
  have k0 := hval 0 31 v0 rfl rfl
  have k1 := hval 1 31 v1 rfl rfl
  have s0 := weights_arg hS 0 rfl rfl
  have s1 := weights_arg hS 1 rfl rfl
  clear hval hA hS
  obtain ⟨f, hf⟩ := reads_arg rF h0 s0
  obtain ⟨u, rfl, hp, hu⟩ := arg_F hf (arg_struct Try.underlying31 k0)
  obtain ⟨g, hg⟩ := reads_arg rF h1 s1
  obtain ⟨v, rfl, hq, hv⟩ := arg_F hg (arg_struct Try.underlying31 k1)
  exact valueLists_any f g u v W hu hv hp hq
set_option maxRecDepth 100000 in
theorem ValueLists_lifted (os : Os) (started : os.Started) (H : Type) (enc : TypeId × Value → H) :
    ReturnsInHanded {} Try.checked os 4 .any (Rows.valueListsSpec.pre6 enc Try.prog Try.f4 Rows.valueListsRow.domain false) (Rows.valueListsSpec.post enc Try.prog Try.f4 false true false false) := by
  refine returnsInHanded_of_change_sized (C := Try.checked) ValueLists_own started (by kernel_rfl) Try.func4
    (ChangeSpec.witness6 (enc := enc) (C := Try.checked) false ⟨#[], #[.agg #[.string ⟨#[]⟩, .slice none 0 0], .agg #[.string ⟨#[]⟩, .slice none 0 0]], []⟩ 8 (by kernel_rfl) (by kernel_rfl) (by kernel_rfl) (by kernel_rfl)) ?_
  intro W base args ds gs before hval0 hW _ hsz _
  have hW' := hW
  obtain ⟨p, q, hA0, hV, rfl, _, _⟩ := hW
  have hA : DataW.TrodAll enc Try.prog W 0 (fun _ => true) true [31, 31] args.toList ds p := hA0
  obtain ⟨rfl, rfl⟩ := trodVars_none hV
  rw [List.append_nil] at hsz
  refine (ValueLists_row_walk W base args ds p hval0 hA hsz).mono fun e W' ⟨he, hf⟩ => ?_
  subst he
  obtain ⟨v0, vs0, d0, ds0, p0, q0, _, rfl, _, _, r0⟩ := trodAll_cons hA
  obtain ⟨v1, vs1, d1, ds1, p1, q1, _, rfl, _, _, r1⟩ := trodAll_cons r0
  obtain ⟨_, rfl, _⟩ := trodAll_nil r1
  exact ⟨_, rfl, law_post (tb := 4) ValueLists_laidOut hW' rfl (by kernel_rfl) rfl Try.underlying4 rfl rfl rfl hf⟩
theorem ValueLists_holds : Rows.ValueListsSaid :=
  OpenClaim.holds_of_wide 4 Try.f4 rfl rfl rfl rfl rfl rfl rfl ⟨rfl, rfl, rfl, rfl, rfl⟩ rfl rfl rfl rfl rfl (by kernel_rfl) Try.func4 (by kernel_rfl)
    (of_decide_eq_true (by kernel_rfl)) (by unfold Func.isWrapper; first | (rw [if_pos (by decide +kernel)]; kernel_rfl) | (rw [if_neg (by decide +kernel)]; exact ⟨rfl, rfl⟩))
    (fun os started H enc _ => ValueLists_lifted os started H enc)

end Go.Proofs.Ytghidmemadjamaa
