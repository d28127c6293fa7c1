/- BothF, DoesAll, RelReads, OpR, BothI, RelTurns -/
import Derived.Test.YtcekphjcmippoaaRows
import Derived.Deep.CondSized
import Derived.JoinedCond
import Derived.Test.YtcekphjcmippoaaC21
/- does: At. -/
namespace Go.Proofs.Ytcekphjcmippoaa
open Go.RowKit Go.WideMaps
set_option linter.unusedSimpArgs false
set_option linter.unusedVariables false

/-- What was made since may be written over, its size kept. -/
def Fresh (n : Nat) (a b : World) : Prop := Only (fun k => n ≤ k) a b ∧ ∀ (k : Nat) (arr : Array Value), a.heap[k]? = some (.cells arr 32 (0, 0)) → ∃ arr' : Array Value, b.heap[k]? = some (.cells arr' 32 (0, 0)) ∧ arr'.size = arr.size
theorem Fresh.fut {n : Nat} {a b : World} (h : Fut a b) : Fresh n a b := ⟨Only.fut h, fun k arr h0 => ⟨arr, h.block h0, rfl⟩⟩
theorem Fresh.trans {n : Nat} {a b c : World} (h : Fresh n a b) (k : Fresh n b c) : Fresh n a c := ⟨h.1.trans k.1, fun i arr h0 => by
  obtain ⟨a1, h1, h2⟩ := h.2 i arr h0
  obtain ⟨a2, h3, h4⟩ := k.2 i a1 h1
  exact ⟨a2, h3, h4.trans h2⟩⟩
theorem Fresh.put {n : Nat} {w : World} {b : Nat} {arr arr2 : Array Value} (hb : n ≤ b) (h : w.heap[b]? = some (.cells arr 32 (0, 0))) (hs : arr2.size = arr.size) : Fresh n w (w.putObj b (.cells arr2 32 (0, 0))) :=
  ⟨Only.put _ _ hb, fun k a hk => by
    by_cases hkb : k = b
    · subst hkb
      have e := h.symm.trans hk
      injection e with e
      injection e with e
      subst e
      exact ⟨arr2, World.putObj_heap_same (Array.getElem?_eq_some_iff.1 h).1, hs⟩
    · exact ⟨a, (World.putObj_heap_other hkb).trans hk, rfl⟩⟩
def Holds (n : Nat) (x0 : Rw) (x : Value) (w : World) : Prop := ∃ b, x = .pointer (some ⟨b, 0, none⟩) ∧ n ≤ b ∧ w.heap[b]? = some (.cells (Rw.cells x0).toArray 32 (0, 0))
theorem Holds.fut {n : Nat} {x0 : Rw} {x : Value} {a b : World} (h : Fut a b) (k : Holds n x0 x a) : Holds n x0 x b := by
  obtain ⟨c, h1, h2, h3⟩ := k
  exact ⟨c, h1, h2, h.block h3⟩
theorem exec_alloc_R {w : World} {o : Oper} {a : Act} (ho : o.op = .alloc 32) : (execOp a.eval o).run Try.prog w = .ok (.value (.pointer (some ⟨w.heap.size, 0, none⟩))) (w.alloc (.cells (Rw.cells zeroRow).toArray 32)) := by
  unfold execOp
  rw [ho]
  kernel_rfl
section
variable {B : Nat} {w : World} {bb off : Nat} {S : Option RSt} {O FT FD : Nat → Prop} {p q : Option Addr} {kv : Value} {f t : Int}
set_option maxHeartbeats 1600000 in
set_option maxRecDepth 100000 in
theorem does_at (h : BothAt B w bb off S O p q kv f t FT FD) (hl : (rowsS S).length < 1353244080301) (hgn : goneS S < 4611686018427387904) (o : OpL) (ho : o.ok) (hk : o.kind = 3) :
    Calls Try.prog 26 #[.pointer (some ⟨bb, off, none⟩), o.val] w (Did B w bb off S O p q) := by
  have H := Lib.hid h
  obtain ⟨c0, c1, _⟩ := h.cell
  have hro := ho.row
  have hmo := ho.mask
  have hrow := op_row (w := w) (t := 67) hro
  have ck : (w.alloc (.cells o.cells.toArray 67)).cell? ⟨w.heap.size, 1, none⟩ = some (.int .i64 3) := by rw [← hk]; exact cell_at (heap_alloc_new w _) 1 _ rfl
  have cn : (w.alloc (.cells o.cells.toArray 67)).cell? ⟨w.heap.size, 2, none⟩ = some (.int .i64 o.n) := cell_at (heap_alloc_new w _) 2 _ rfl
  have cm : (w.alloc (.cells o.cells.toArray 67)).cell? ⟨w.heap.size, 4, none⟩ = some (.int .u32 o.mask) := cell_at (heap_alloc_new w _) 4 _ rfl
  have F1 := Fut.alloc w (.cells o.cells.toArray 67)
  clear h
  unfold OpL.val
  go_enter Try.func26, Try.ntmps26
  go_wp2_with fail
  obtain ⟨W1, hW⟩ : ∃ W1, w.alloc (.cells o.cells.toArray 67) = W1 := ⟨_, rfl⟩
  rw [hW] at hrow ck cn cm F1 ⊢
  clear hW
  replace c0 := F1.cell c0
  replace c1 := F1.cell c1
  have HW := Lib.hid (H.out.fut F1)
  have hx0 := atR_ok (S := S) H.out.T.oks o.n
  obtain ⟨x0, hxe⟩ : ∃ x, atR S o.n = x := ⟨_, rfl⟩
  obtain ⟨n0, hne⟩ : ∃ n, atN S o.n = n := ⟨_, rfl⟩
  rw [hxe] at hx0
  have hs1 := F1.size
  have hbb : bb < W1.heap.size := by have := lt_of_cell c0; exact this
  letI i1 : On.Mut := On.Mut.oneJ 11 (Fresh W1.heap.size) Fresh.fut Fresh.trans 9 (Holds W1.heap.size x0) Holds.fut
  refine On.wp_graph 13 [.d, .d, .d, .d, .d, .d, .d, .d, .d, .d, .r (fun v w => ∃ b, v = .pointer (some ⟨b, 0, none⟩) ∧ W1.heap.size ≤ b ∧ ∃ arr, w.heap[b]? = some (.cells arr 32 (0, 0)) ∧ arr.size = 24), .d, .d] (by kernel_rfl) (by kernel_rfl) (by kernel_rfl) (.inl (by kernel_rfl)) On.oneJ_dep ?_
  simp only [List.take_succ_cons, List.take_zero, List.drop_succ_cons, List.drop_zero, Exs]
  iterate 12 apply Exists.intro
  apply On.Run.valG (.inl (Nat.ne_of_beq_eq_false rfl)) (wanted_none rfl _)
  · intro w1 h1 hk
    have hg : Only (fun k => W1.heap.size ≤ k) W1 w1 := (Only.fut (Fut.drew _)).trans (by first | exact (show Fresh _ _ _ from h1).1 | exact Only.fut h1); have q0 := hg.cell c0 (by show ¬ W1.heap.size ≤ bb; omega); have q1 := hg.cell cn (by have := lt_of_cell cn; show ¬ W1.heap.size ≤ w.heap.size; simp only at this; omega)
    go_simp; rfl
  simp only [Act.put, List.setIfInBounds_toArray, List.set_cons_succ, List.set_cons_zero, List.nil_append, List.cons_append]
  apply On.Run.valG (.inl (Nat.ne_of_beq_eq_false rfl)) (wanted_none rfl _)
  · intro w1 h1 hk
    have hg : Only (fun k => W1.heap.size ≤ k) W1 w1 := (Only.fut (Fut.drew _)).trans (by first | exact (show Fresh _ _ _ from h1).1 | exact Only.fut h1); have q0 := hg.cell c0 (by show ¬ W1.heap.size ≤ bb; omega); have q1 := hg.cell cn (by have := lt_of_cell cn; show ¬ W1.heap.size ≤ w.heap.size; simp only at this; omega)
    go_simp; rfl
  simp only [Act.put, List.setIfInBounds_toArray, List.set_cons_succ, List.set_cons_zero, List.nil_append, List.cons_append]
  apply On.Run.valG (.inl (Nat.ne_of_beq_eq_false rfl)) (wanted_none rfl _)
  · intro w1 h1 hk
    have hg : Only (fun k => W1.heap.size ≤ k) W1 w1 := (Only.fut (Fut.drew _)).trans (by first | exact (show Fresh _ _ _ from h1).1 | exact Only.fut h1); have q0 := hg.cell c0 (by show ¬ W1.heap.size ≤ bb; omega); have q1 := hg.cell cn (by have := lt_of_cell cn; show ¬ W1.heap.size ≤ w.heap.size; simp only at this; omega)
    go_simp; rfl
  simp only [Act.put, List.setIfInBounds_toArray, List.set_cons_succ, List.set_cons_zero, List.nil_append, List.cons_append]
  apply On.Run.valG (.inl (Nat.ne_of_beq_eq_false rfl)) (wanted_none rfl _)
  · intro w1 h1 hk
    have hg : Only (fun k => W1.heap.size ≤ k) W1 w1 := (Only.fut (Fut.drew _)).trans (by first | exact (show Fresh _ _ _ from h1).1 | exact Only.fut h1); have q0 := hg.cell c0 (by show ¬ W1.heap.size ≤ bb; omega); have q1 := hg.cell cn (by have := lt_of_cell cn; show ¬ W1.heap.size ≤ w.heap.size; simp only at this; omega)
    go_simp; rfl
  simp only [Act.put, List.setIfInBounds_toArray, List.set_cons_succ, List.set_cons_zero, List.nil_append, List.cons_append]
  apply On.Run.valG (.inl (Nat.ne_of_beq_eq_false rfl)) (wanted_none rfl _)
  · intro w1 h1 hk
    have hg : Only (fun k => W1.heap.size ≤ k) W1 w1 := (Only.fut (Fut.drew _)).trans (by first | exact (show Fresh _ _ _ from h1).1 | exact Only.fut h1); have q0 := hg.cell c0 (by show ¬ W1.heap.size ≤ bb; omega); have q1 := hg.cell cn (by have := lt_of_cell cn; show ¬ W1.heap.size ≤ w.heap.size; simp only at this; omega)
    go_simp; rfl
  simp only [Act.put, List.setIfInBounds_toArray, List.set_cons_succ, List.set_cons_zero, List.nil_append, List.cons_append]
  apply On.Run.valG (.inl (Nat.ne_of_beq_eq_false rfl)) (wanted_none rfl _)
  · intro w1 h1 hk
    have hg : Only (fun k => W1.heap.size ≤ k) W1 w1 := (Only.fut (Fut.drew _)).trans (by first | exact (show Fresh _ _ _ from h1).1 | exact Only.fut h1); have q0 := hg.cell c0 (by show ¬ W1.heap.size ≤ bb; omega); have q1 := hg.cell cn (by have := lt_of_cell cn; show ¬ W1.heap.size ≤ w.heap.size; simp only at this; omega)
    go_simp; rfl
  simp only [Act.put, List.setIfInBounds_toArray, List.set_cons_succ, List.set_cons_zero, List.nil_append, List.cons_append]
  apply On.Run.call (.inl (Nat.ne_of_beq_eq_false rfl)) (wanted_none rfl _) (fun _ _ => by go_simp; exact ⟨rfl, rfl⟩)
  · intro w1 h1 hk
    have hg : Only (fun k => W1.heap.size ≤ k) W1 w1 := (Only.fut (Fut.drew _)).trans (by first | exact (show Fresh _ _ _ from h1).1 | exact Only.fut h1); have q0 := hg.cell c0 (by show ¬ W1.heap.size ≤ bb; omega); have q1 := hg.cell cn (by have := lt_of_cell cn; show ¬ W1.heap.size ≤ w.heap.size; simp only at this; omega)
    refine (T_at (HW.out.only (G := fun k => W1.heap.size ≤ k) hg (fun k hk h => by have := HW.out.lt k hk; omega) (by omega)).T o.n).mono ?_; rintro e w' ⟨rfl, hf⟩; rw [hxe, hne]; exact ⟨rfl, hf⟩
  simp only [Act.put, List.setIfInBounds_toArray, List.set_cons_succ, List.set_cons_zero, List.nil_append, List.cons_append]
  apply On.Run.valG (.inl (Nat.ne_of_beq_eq_false rfl)) (wanted_none rfl _)
  · intro w1 h1 hk
    have hg : Only (fun k => W1.heap.size ≤ k) W1 w1 := (Only.fut (Fut.drew _)).trans (by first | exact (show Fresh _ _ _ from h1).1 | exact Only.fut h1); have q0 := hg.cell c0 (by show ¬ W1.heap.size ≤ bb; omega); have q1 := hg.cell cn (by have := lt_of_cell cn; show ¬ W1.heap.size ≤ w.heap.size; simp only at this; omega)
    go_simp; rfl
  simp only [Act.put, List.setIfInBounds_toArray, List.set_cons_succ, List.set_cons_zero, List.nil_append, List.cons_append]
  apply On.Run.valG (.inl (Nat.ne_of_beq_eq_false rfl)) (wanted_none rfl _)
  · intro w1 h1 hk
    have hg : Only (fun k => W1.heap.size ≤ k) W1 w1 := (Only.fut (Fut.drew _)).trans (by first | exact (show Fresh _ _ _ from h1).1 | exact Only.fut h1); have q0 := hg.cell c0 (by show ¬ W1.heap.size ≤ bb; omega); have q1 := hg.cell cn (by have := lt_of_cell cn; show ¬ W1.heap.size ≤ w.heap.size; simp only at this; omega)
    go_simp; rfl
  simp only [Act.put, List.setIfInBounds_toArray, List.set_cons_succ, List.set_cons_zero, List.nil_append, List.cons_append]
  apply On.Run.valG (.inl (Nat.ne_of_beq_eq_false rfl)) (wanted_none rfl _)
  · intro w1 h1 hk
    have hg : Only (fun k => W1.heap.size ≤ k) W1 w1 := (Only.fut (Fut.drew _)).trans (by first | exact (show Fresh _ _ _ from h1).1 | exact Only.fut h1); have q0 := hg.cell c0 (by show ¬ W1.heap.size ≤ bb; omega); have q1 := hg.cell cn (by have := lt_of_cell cn; show ¬ W1.heap.size ≤ w.heap.size; simp only at this; omega)
    go_simp; rfl
  simp only [Act.put, List.setIfInBounds_toArray, List.set_cons_succ, List.set_cons_zero, List.nil_append, List.cons_append]
  apply On.Run.valR (.inl (Nat.ne_of_beq_eq_false rfl)) (wanted_none rfl _) (by intro v w w' hf hs; exact (by obtain ⟨b, rfl, hb, arr, h1, h2⟩ := hs; obtain ⟨arr', h3, h4⟩ := (show Fresh _ _ _ from hf).2 b arr h1; exact ⟨b, rfl, hb, arr', h3, h4.trans h2⟩))
  · intro w1 h1 hk
    have hg : Only (fun k => W1.heap.size ≤ k) W1 w1 := (Only.fut (Fut.drew _)).trans (by first | exact (show Fresh _ _ _ from h1).1 | exact Only.fut h1); have q0 := hg.cell c0 (by show ¬ W1.heap.size ≤ bb; omega); have q1 := hg.cell cn (by have := lt_of_cell cn; show ¬ W1.heap.size ≤ w.heap.size; simp only at this; omega)
    exact ⟨_, _, exec_alloc_R rfl, Fut.alloc _ _, _, rfl, hg.size, _, heap_alloc_new _ _, by simp [Rw.cells_len zeroRow_ok]⟩
  intro v10
  simp only [Act.put, List.setIfInBounds_toArray, List.set_cons_succ, List.set_cons_zero, List.nil_append, List.cons_append]
  apply On.Run.mutV (wanted_none rfl _)
  · intro w1 h1 hk
    have f10 := Facts.get hk 0 rfl (by kernel_rfl)
    have hg : Only (fun k => W1.heap.size ≤ k) W1 w1 := (Only.fut (Fut.drew _)).trans (by first | exact (show Fresh _ _ _ from h1).1 | exact Only.fut h1); have q0 := hg.cell c0 (by show ¬ W1.heap.size ≤ bb; omega); have q1 := hg.cell cn (by have := lt_of_cell cn; show ¬ W1.heap.size ≤ w.heap.size; simp only at this; omega)
    obtain ⟨b, rfl, hb, arr, h3, h4⟩ := f10; have hlt := (Array.getElem?_eq_some_iff.1 h3).1; exact ⟨_, exec_store_R rowTy _ _ rfl rfl rfl h3 h4 hx0, On.Eff.oneJ (Fresh.put hb h3 (by rw [h4]; simp [Rw.cells_len hx0])), fun _ => ⟨b, rfl, hb, World.putObj_heap_same hlt⟩⟩
  simp only [Act.put, List.setIfInBounds_toArray, List.set_cons_succ, List.set_cons_zero, List.nil_append, List.cons_append]
  apply On.Run.valG (.inl (Nat.ne_of_beq_eq_false rfl)) (wanted_none rfl _)
  · intro w1 h1 hk
    have hg : Only (fun k => W1.heap.size ≤ k) W1 w1 := (Only.fut (Fut.drew _)).trans (by first | exact (show Fresh _ _ _ from h1).1 | exact Only.fut h1); have q0 := hg.cell c0 (by show ¬ W1.heap.size ≤ bb; omega); have q1 := hg.cell cn (by have := lt_of_cell cn; show ¬ W1.heap.size ≤ w.heap.size; simp only at this; omega)
    go_simp; rfl
  simp only [Act.put, List.setIfInBounds_toArray, List.set_cons_succ, List.set_cons_zero, List.nil_append, List.cons_append]
  apply On.Run.done
  intro w2 h2 hk hJ
  obtain ⟨f10, _⟩ := hk
  obtain ⟨b1, e1, hb1, hx1⟩ := (show Holds W1.heap.size x0 _ w2 from hJ)
  have e1' : v10 = .pointer (some ⟨b1, 0, none⟩) := e1
  subst e1'
  have hO1 : Only (fun k => W1.heap.size ≤ k) W1 w2 := (Only.fut (Fut.drew _)).trans (show Fresh _ _ _ from h2).1
  clear i1 h2 hJ e1 f10
  have hs2 := hO1.size
  have HW2 := Lib.hid (HW.out.only (G := fun k => W1.heap.size ≤ k) hO1 (fun k hk h => by have := HW.out.lt k hk; omega) (by omega))
  have d1 := hO1.cell c1 (by show ¬ W1.heap.size ≤ bb; omega)
  have dn := hO1.cell cn (by have := lt_of_cell cn; show ¬ W1.heap.size ≤ w.heap.size; simp only at this; omega)
  have hb1l : b1 < w2.heap.size := (Array.getElem?_eq_some_iff.1 hx1).1
  go_wp2_with fail
  letI i2 : On.Mut := On.Mut.oneJ 11 (Fresh w2.heap.size) Fresh.fut Fresh.trans 11 (Holds w2.heap.size x0) Holds.fut
  refine On.wp_graph 13 [.d, .d, .d, .d, .d, .d, .d, .d, .d, .d, .r (fun v w => ∃ b, v = .pointer (some ⟨b, 0, none⟩) ∧ w2.heap.size ≤ b ∧ ∃ arr, w.heap[b]? = some (.cells arr 32 (0, 0)) ∧ arr.size = 24), .d, .d] (by kernel_rfl) (by kernel_rfl) (by kernel_rfl) (.inl (by kernel_rfl)) On.oneJ_dep ?_
  simp only [List.take_succ_cons, List.take_zero, List.drop_succ_cons, List.drop_zero, Exs]
  iterate 12 apply Exists.intro
  apply On.Run.valG (.inl (Nat.ne_of_beq_eq_false rfl)) (wanted_none rfl _)
  · intro w1 h1 hk
    have hg : Only (fun k => w2.heap.size ≤ k) w2 w1 := (Only.fut (Fut.drew _)).trans (by first | exact (show Fresh _ _ _ from h1).1 | exact Only.fut h1); have q0 := hg.cell d1 (by show ¬ w2.heap.size ≤ bb; omega); have q1 := hg.cell dn (by have := lt_of_cell dn; show ¬ w2.heap.size ≤ w.heap.size; simp only at this; omega)
    go_simp; rfl
  simp only [Act.put, List.setIfInBounds_toArray, List.set_cons_succ, List.set_cons_zero, List.nil_append, List.cons_append]
  apply On.Run.valG (.inl (Nat.ne_of_beq_eq_false rfl)) (wanted_none rfl _)
  · intro w1 h1 hk
    have hg : Only (fun k => w2.heap.size ≤ k) w2 w1 := (Only.fut (Fut.drew _)).trans (by first | exact (show Fresh _ _ _ from h1).1 | exact Only.fut h1); have q0 := hg.cell d1 (by show ¬ w2.heap.size ≤ bb; omega); have q1 := hg.cell dn (by have := lt_of_cell dn; show ¬ w2.heap.size ≤ w.heap.size; simp only at this; omega)
    go_simp; rfl
  simp only [Act.put, List.setIfInBounds_toArray, List.set_cons_succ, List.set_cons_zero, List.nil_append, List.cons_append]
  apply On.Run.valG (.inl (Nat.ne_of_beq_eq_false rfl)) (wanted_none rfl _)
  · intro w1 h1 hk
    have hg : Only (fun k => w2.heap.size ≤ k) w2 w1 := (Only.fut (Fut.drew _)).trans (by first | exact (show Fresh _ _ _ from h1).1 | exact Only.fut h1); have q0 := hg.cell d1 (by show ¬ w2.heap.size ≤ bb; omega); have q1 := hg.cell dn (by have := lt_of_cell dn; show ¬ w2.heap.size ≤ w.heap.size; simp only at this; omega)
    go_simp; rfl
  simp only [Act.put, List.setIfInBounds_toArray, List.set_cons_succ, List.set_cons_zero, List.nil_append, List.cons_append]
  apply On.Run.valG (.inl (Nat.ne_of_beq_eq_false rfl)) (wanted_none rfl _)
  · intro w1 h1 hk
    have hg : Only (fun k => w2.heap.size ≤ k) w2 w1 := (Only.fut (Fut.drew _)).trans (by first | exact (show Fresh _ _ _ from h1).1 | exact Only.fut h1); have q0 := hg.cell d1 (by show ¬ w2.heap.size ≤ bb; omega); have q1 := hg.cell dn (by have := lt_of_cell dn; show ¬ w2.heap.size ≤ w.heap.size; simp only at this; omega)
    go_simp; rfl
  simp only [Act.put, List.setIfInBounds_toArray, List.set_cons_succ, List.set_cons_zero, List.nil_append, List.cons_append]
  apply On.Run.valG (.inl (Nat.ne_of_beq_eq_false rfl)) (wanted_none rfl _)
  · intro w1 h1 hk
    have hg : Only (fun k => w2.heap.size ≤ k) w2 w1 := (Only.fut (Fut.drew _)).trans (by first | exact (show Fresh _ _ _ from h1).1 | exact Only.fut h1); have q0 := hg.cell d1 (by show ¬ w2.heap.size ≤ bb; omega); have q1 := hg.cell dn (by have := lt_of_cell dn; show ¬ w2.heap.size ≤ w.heap.size; simp only at this; omega)
    go_simp; rfl
  simp only [Act.put, List.setIfInBounds_toArray, List.set_cons_succ, List.set_cons_zero, List.nil_append, List.cons_append]
  apply On.Run.valG (.inl (Nat.ne_of_beq_eq_false rfl)) (wanted_none rfl _)
  · intro w1 h1 hk
    have hg : Only (fun k => w2.heap.size ≤ k) w2 w1 := (Only.fut (Fut.drew _)).trans (by first | exact (show Fresh _ _ _ from h1).1 | exact Only.fut h1); have q0 := hg.cell d1 (by show ¬ w2.heap.size ≤ bb; omega); have q1 := hg.cell dn (by have := lt_of_cell dn; show ¬ w2.heap.size ≤ w.heap.size; simp only at this; omega)
    go_simp; rfl
  simp only [Act.put, List.setIfInBounds_toArray, List.set_cons_succ, List.set_cons_zero, List.nil_append, List.cons_append]
  apply On.Run.call (.inl (Nat.ne_of_beq_eq_false rfl)) (wanted_none rfl _) (fun _ _ => by go_simp; exact ⟨rfl, rfl⟩)
  · intro w1 h1 hk
    have hg : Only (fun k => w2.heap.size ≤ k) w2 w1 := (Only.fut (Fut.drew _)).trans (by first | exact (show Fresh _ _ _ from h1).1 | exact Only.fut h1); have q0 := hg.cell d1 (by show ¬ w2.heap.size ≤ bb; omega); have q1 := hg.cell dn (by have := lt_of_cell dn; show ¬ w2.heap.size ≤ w.heap.size; simp only at this; omega)
    refine (D_at (HW2.out.only (G := fun k => w2.heap.size ≤ k) hg (fun k hk h => by have := HW2.out.lt k hk; omega) (by omega)).D o.n).mono ?_; rintro e w' ⟨rfl, hf⟩; rw [hxe, hne]; exact ⟨rfl, hf⟩
  simp only [Act.put, List.setIfInBounds_toArray, List.set_cons_succ, List.set_cons_zero, List.nil_append, List.cons_append]
  apply On.Run.valG (.inl (Nat.ne_of_beq_eq_false rfl)) (wanted_none rfl _)
  · intro w1 h1 hk
    have hg : Only (fun k => w2.heap.size ≤ k) w2 w1 := (Only.fut (Fut.drew _)).trans (by first | exact (show Fresh _ _ _ from h1).1 | exact Only.fut h1); have q0 := hg.cell d1 (by show ¬ w2.heap.size ≤ bb; omega); have q1 := hg.cell dn (by have := lt_of_cell dn; show ¬ w2.heap.size ≤ w.heap.size; simp only at this; omega)
    go_simp; rfl
  simp only [Act.put, List.setIfInBounds_toArray, List.set_cons_succ, List.set_cons_zero, List.nil_append, List.cons_append]
  apply On.Run.valG (.inl (Nat.ne_of_beq_eq_false rfl)) (wanted_none rfl _)
  · intro w1 h1 hk
    have hg : Only (fun k => w2.heap.size ≤ k) w2 w1 := (Only.fut (Fut.drew _)).trans (by first | exact (show Fresh _ _ _ from h1).1 | exact Only.fut h1); have q0 := hg.cell d1 (by show ¬ w2.heap.size ≤ bb; omega); have q1 := hg.cell dn (by have := lt_of_cell dn; show ¬ w2.heap.size ≤ w.heap.size; simp only at this; omega)
    go_simp; rfl
  simp only [Act.put, List.setIfInBounds_toArray, List.set_cons_succ, List.set_cons_zero, List.nil_append, List.cons_append]
  apply On.Run.valG (.inl (Nat.ne_of_beq_eq_false rfl)) (wanted_none rfl _)
  · intro w1 h1 hk
    have hg : Only (fun k => w2.heap.size ≤ k) w2 w1 := (Only.fut (Fut.drew _)).trans (by first | exact (show Fresh _ _ _ from h1).1 | exact Only.fut h1); have q0 := hg.cell d1 (by show ¬ w2.heap.size ≤ bb; omega); have q1 := hg.cell dn (by have := lt_of_cell dn; show ¬ w2.heap.size ≤ w.heap.size; simp only at this; omega)
    go_simp; rfl
  simp only [Act.put, List.setIfInBounds_toArray, List.set_cons_succ, List.set_cons_zero, List.nil_append, List.cons_append]
  apply On.Run.valR (.inl (Nat.ne_of_beq_eq_false rfl)) (wanted_none rfl _) (by intro v w w' hf hs; exact (by obtain ⟨b, rfl, hb, arr, h1, h2⟩ := hs; obtain ⟨arr', h3, h4⟩ := (show Fresh _ _ _ from hf).2 b arr h1; exact ⟨b, rfl, hb, arr', h3, h4.trans h2⟩))
  · intro w1 h1 hk
    have hg : Only (fun k => w2.heap.size ≤ k) w2 w1 := (Only.fut (Fut.drew _)).trans (by first | exact (show Fresh _ _ _ from h1).1 | exact Only.fut h1); have q0 := hg.cell d1 (by show ¬ w2.heap.size ≤ bb; omega); have q1 := hg.cell dn (by have := lt_of_cell dn; show ¬ w2.heap.size ≤ w.heap.size; simp only at this; omega)
    exact ⟨_, _, exec_alloc_R rfl, Fut.alloc _ _, _, rfl, hg.size, _, heap_alloc_new _ _, by simp [Rw.cells_len zeroRow_ok]⟩
  intro v10
  simp only [Act.put, List.setIfInBounds_toArray, List.set_cons_succ, List.set_cons_zero, List.nil_append, List.cons_append]
  apply On.Run.mutV (wanted_none rfl _)
  · intro w1 h1 hk
    have f10 := Facts.get hk 0 rfl (by kernel_rfl)
    have hg : Only (fun k => w2.heap.size ≤ k) w2 w1 := (Only.fut (Fut.drew _)).trans (by first | exact (show Fresh _ _ _ from h1).1 | exact Only.fut h1); have q0 := hg.cell d1 (by show ¬ w2.heap.size ≤ bb; omega); have q1 := hg.cell dn (by have := lt_of_cell dn; show ¬ w2.heap.size ≤ w.heap.size; simp only at this; omega)
    obtain ⟨b, rfl, hb, arr, h3, h4⟩ := f10; have hlt := (Array.getElem?_eq_some_iff.1 h3).1; exact ⟨_, exec_store_R rowTy _ _ rfl rfl rfl h3 h4 hx0, On.Eff.oneJ (Fresh.put hb h3 (by rw [h4]; simp [Rw.cells_len hx0])), fun _ => ⟨b, rfl, hb, World.putObj_heap_same hlt⟩⟩
  simp only [Act.put, List.setIfInBounds_toArray, List.set_cons_succ, List.set_cons_zero, List.nil_append, List.cons_append]
  apply On.Run.valG (.inl (Nat.ne_of_beq_eq_false rfl)) (wanted_none rfl _)
  · intro w1 h1 hk
    have hg : Only (fun k => w2.heap.size ≤ k) w2 w1 := (Only.fut (Fut.drew _)).trans (by first | exact (show Fresh _ _ _ from h1).1 | exact Only.fut h1); have q0 := hg.cell d1 (by show ¬ w2.heap.size ≤ bb; omega); have q1 := hg.cell dn (by have := lt_of_cell dn; show ¬ w2.heap.size ≤ w.heap.size; simp only at this; omega)
    go_simp; rfl
  simp only [Act.put, List.setIfInBounds_toArray, List.set_cons_succ, List.set_cons_zero, List.nil_append, List.cons_append]
  apply On.Run.done
  intro w3 h3 hk hJ
  obtain ⟨f10, _⟩ := hk
  obtain ⟨b2, e2, hb2, hx2⟩ := (show Holds w2.heap.size x0 _ w3 from hJ)
  have e2' : v10 = .pointer (some ⟨b2, 0, none⟩) := e2
  subst e2'
  have hO2 : Only (fun k => w2.heap.size ≤ k) w2 w3 := (Only.fut (Fut.drew _)).trans (show Fresh _ _ _ from h3).1
  clear i2 h3 hJ e2 f10
  have r1 := RowAt.of_block hx0 (hO2.keeps hx1 (by omega))
  have r2 := RowAt.of_block hx0 hx2
  have FE : Fut w w3 := (((Only.fut F1).trans (hO1.mono (S' := fun k => w.heap.size ≤ k) fun k _ hk => by omega)).trans (hO2.mono (S' := fun k => w.heap.size ≤ k) fun k _ hk => by omega)).toFut fun k hk => hk
  go_wp2_with (first | (refine wpList_load_R rowTy (wanted_none rfl _) _ rfl rfl r1 ?_) | (refine wpList_load_R rowTy (wanted_none rfl _) _ rfl rfl r2 ?_) | (refine wpList_of_run (wanted_none rfl _) (exec_eql_R rowTy noGuard _ _ _ rfl rfl rfl hx0 hx0) ?_))
  go_ret
  simp
  exact did_same H.out FE
end
end Go.Proofs.Ytcekphjcmippoaa
/- does, whatever is asked. -/
namespace Go.Proofs.Ytcekphjcmippoaa
open Go.RowKit Go.WideMaps
set_option linter.unusedSimpArgs false
set_option linter.unusedVariables false

section
variable {B : Nat} {w : World} {bb off : Nat} {S : Option RSt} {O FT FD : Nat → Prop} {p q : Option Addr} {kv : Value} {f t : Int}
set_option maxHeartbeats 1600000 in
set_option maxRecDepth 100000 in
theorem does_room (h : BothAt B w bb off S O p q kv f t FT FD) (hl : (rowsS S).length + 1 ≤ 1353244080301) (hgn : goneS S < 4611686018427387904) (o : OpL) (ho : o.ok) (hk : o.kind = 13) :
    Calls Try.prog 26 #[.pointer (some ⟨bb, off, none⟩), o.val] w (Did B w bb off S O p q) := by
  have H := Lib.hid h
  obtain ⟨c0, c1, _⟩ := h.cell
  have hro := ho.row
  have hmo := ho.mask
  have ck : (w.alloc (.cells o.cells.toArray 67)).cell? ⟨w.heap.size, 1, none⟩ = some (.int .i64 13) := by rw [← hk]; exact cell_at (heap_alloc_new w _) 1 _ rfl
  have F1 := Fut.alloc w (.cells o.cells.toArray 67)
  clear h
  unfold OpL.val
  go_enter Try.func26, Try.ntmps26
  have hop := OpAt.new w 67 o
  go_wp2_with (first | (refine wpList_of_run (wanted_none rfl _) (exec_load_Op _ rfl rfl hop hro) ?_))
  refine (room_any (H.out.fut F1) hl hgn o ho).mono ?_
  intro e w2 hd
  obtain ⟨rfl, hd2⟩ := hd
  go_wp2
  go_ret
  exact did_up F1 ⟨rfl, hd2⟩
theorem does_all (h : BothAt B w bb off S O p q kv f t FT FD) (hl : (rowsS S).length + 1 ≤ 1353244080301) (hgn : goneS S < 4611686018427387904) (o : OpL) (ho : o.ok)
    (hA : o.kind = 9 → ∀ W kv' f' t', BothAt B W bb off S O p q kv' f' t' FT FD → Calls Try.prog 64 #[.pointer (some ⟨bb, off, none⟩), o.val] W (Did B W bb off S O p q)) :
    Calls Try.prog 26 #[.pointer (some ⟨bb, off, none⟩), o.val] w (Did B w bb off S O p q) := by
  have hl1 : (rowsS S).length < 1353244080301 := by omega
  have hl2 : (rowsS S).length ≤ 1353244080301 := by omega
  by_cases h1 : o.kind = 1
  · exact does_add h hl1 hgn o ho h1
  by_cases h2 : o.kind = 2
  · exact does_has h hl1 hgn o ho h2
  by_cases h3 : o.kind = 3
  · exact does_at h hl1 hgn o ho h3
  by_cases h4 : o.kind = 4
  · exact does_remove h hl1 hgn o ho h4
  by_cases h5 : o.kind = 5
  · exact does_select h hl1 hgn o ho h5
  by_cases h13 : o.kind = 13
  · exact does_room h hl hgn o ho h13
  exact does_asks h hl2 hgn o ho (by simpa using h1) (by simpa using h2) (by simpa using h3) (by simpa using h4) (by simpa using h5) (by simpa using h13) hA
end
end Go.Proofs.Ytcekphjcmippoaa
/- How rows, turns, lists of them are read off the arguments; RelationSplits. -/
namespace Go.Proofs.Ytcekphjcmippoaa
open Go.RowKit Go.WideMaps Go.ChangeShapes Go.WideShapes Go.ChangeAt Go.Deep
set_option linter.unusedSimpArgs false
set_option linter.unusedVariables false

theorem mapM_each {α : Type} {f : Nat → Option α} : ∀ (L : List Nat) (ys : List α), L.mapM f = some ys → ∀ i ∈ L, ∃ y, f i = some y
  | [], _, _, i, hi => by cases hi
  | j :: L, ys, h, i, hi => by
    rw [List.mapM_cons] at h
    simp only [bind, Option.bind_eq_some_iff, pure, Option.some.injEq] at h
    obtain ⟨y, hy, zs, hz, rfl⟩ := h
    rcases List.mem_cons.1 hi with rfl | hi
    · exact ⟨y, hy⟩
    · exact mapM_each L zs hz i hi
theorem reads_row {P : Program} {k e : TypeId} (T : RowTy P k e) : Reads P k RR := by
  intro H enc w base held fuel cs x h hn
  cases fuel with
  | zero => simp [DataW.trod] at h
  | succ m =>
    rw [DataW.trod_step] at h
    unfold DataW.trodStep at h
    simp only [T.A.hu] at h
    by_cases hl : cs.length = P.cellsOf k
    · rw [if_pos hl] at h
      simp only [Option.map_eq_some_iff] at h
      obtain ⟨ys, hy, _⟩ := h
      have hl24 : cs.length = 24 := hl.trans T.A.size
      obtain ⟨r, hrl, hr⟩ := exists_list (p := fun i (a : Int) => cs[i]? = some (.int .i32 a) ∧ (Lit.int .i32 a).wf = true) 24 fun i hi => by
        obtain ⟨y, hy'⟩ := mapM_each _ _ hy i (List.mem_range.2 hi)
        rw [T.A.one, Nat.mul_one] at hy'
        obtain ⟨a, ea, _, wa⟩ := DataW.trod_int T.he hy'
        refine ⟨a, ?_, wa⟩
        have h1 : (List.take 1 (List.drop i cs))[0]? = some (.int .i32 a) := by rw [ea]; rfl
        simpa using h1
      refine ⟨r, ?_, hrl, fun a ha => ?_⟩
      · refine List.ext_getElem? fun i => ?_
        unfold Rw.cells
        rw [List.getElem?_map]
        by_cases hi : i < 24
        · rw [(hr i r[i] (List.getElem?_eq_getElem (by omega))).1, List.getElem?_eq_getElem (by omega)]; rfl
        · rw [List.getElem?_eq_none (by omega), List.getElem?_eq_none (by omega)]; rfl
      · obtain ⟨i, hi⟩ := List.getElem?_of_mem ha
        exact (hr i a hi).2
    · rw [if_neg hl] at h; cases h
theorem reads_bool {P : Program} {t : TypeId} (ht : P.underlying t = some .bool) : Reads P t (fun _ cs (b : Bool) => cs = [.bool b]) := by
  intro H enc w base held fuel cs x h _
  obtain ⟨s, h1, _⟩ := DataW.trod_bool ht h
  exact ⟨s, h1⟩
end Go.Proofs.Ytcekphjcmippoaa
/- How an Op and lists of Ops are read off the arguments. -/
namespace Go.Proofs.Ytcekphjcmippoaa
open Go.RowKit Go.WideMaps Go.ChangeShapes Go.WideShapes Go.ChangeAt Go.Deep
set_option linter.unusedSimpArgs false
set_option linter.unusedVariables false
set_option maxRecDepth 100000

def ROp (w : World) (cs : List Value) (o : OpL) : Prop := cs = o.cells ∧ o.ok
theorem wf_u32o {a : Int} (h : (Lit.int .u32 a).wf = true) : 0 ≤ a ∧ a ≤ 4294967295 := by simpa [Lit.wf, IntKind.min, IntKind.max, IntKind.signed, IntKind.bits] using h
theorem rOp : Reads Try.prog 67 ROp := by
  intro H enc w base held fuel cs x h hn
  have hl := (reads_len Try.underlying67 h).trans (show Try.prog.cellsOf 67 = 29 by kernel_rfl)
  obtain ⟨a0, e0, _⟩ := reads_field Try.underlying67 h hn 0 rfl (reads_int Try.underlying3)
  obtain ⟨a1, e1, _⟩ := reads_field Try.underlying67 h hn 1 rfl (reads_int Try.underlying3)
  obtain ⟨a2, e2, _⟩ := reads_field Try.underlying67 h hn 2 rfl (reads_int Try.underlying3)
  obtain ⟨a3, e3, _⟩ := reads_field Try.underlying67 h hn 3 rfl (reads_int Try.underlying3)
  obtain ⟨m, e4, w4⟩ := reads_field Try.underlying67 h hn 4 rfl (reads_int Try.underlying43)
  obtain ⟨r, e5, hr⟩ := reads_field Try.underlying67 h hn 5 rfl (reads_row rowTy)
  have c0 : Try.prog.cellsOf 3 = 1 := by kernel_rfl
  have c4 : Try.prog.cellsOf 43 = 1 := by kernel_rfl
  have c5 : Try.prog.cellsOf 32 = 24 := by kernel_rfl
  have g0 : (cs.drop 0).take 1 = [Value.int .i64 a0] := by rw [← c0]; exact e0
  have g1 : (cs.drop 1).take 1 = [Value.int .i64 a1] := by rw [← c0]; exact e1
  have g2 : (cs.drop 2).take 1 = [Value.int .i64 a2] := by rw [← c0]; exact e2
  have g3 : (cs.drop 3).take 1 = [Value.int .i64 a3] := by rw [← c0]; exact e3
  have g4 : (cs.drop 4).take 1 = [Value.int .u32 m] := by rw [← c4]; exact e4
  have g5 : (cs.drop 5).take 24 = r.cells := by rw [← c5]; exact e5
  clear e0 e1 e2 e3 e4 e5
  have w4 := wf_u32o w4
  refine ⟨⟨a0, a1, a2, a3, m.toNat, r⟩, ?_, ⟨hr, by simp only; omega⟩⟩
  match cs, hl, g0, g1, g2, g3, g4, g5 with
  | a :: b :: c :: d :: e :: cs, hl, g0, g1, g2, g3, g4, g5 =>
    simp at g0 g1 g2 g3 g4 g5 hl
    subst g0 g1 g2 g3 g4
    rw [List.take_of_length_le (by omega)] at g5
    show _ = Value.int .i64 a0 :: .int .i64 a1 :: .int .i64 a2 :: .int .i64 a3 :: .int .u32 (m.toNat : Int) :: Rw.cells r
    rw [Int.toNat_of_nonneg w4.1, g5]
theorem rOps : Reads Try.prog 56 (SlR 29 1040000000000 ROp) :=
  reads_slice Try.underlying56 (by kernel_rfl) (by omega) (fun c h => by
    have hb : Try.prog.bytesOf 67 = 136 := by kernel_rfl
    rw [hb] at h; unfold reachBytes at h; omega) rOp
end Go.Proofs.Ytcekphjcmippoaa
/- amid, where no row is. -/
namespace Go.Proofs.Ytcekphjcmippoaa
open Go.RowKit Go.WideMaps Go.Shelf
set_option linter.unusedSimpArgs false
set_option linter.unusedVariables false
attribute [local go_sem] Oper.semAt_some

theorem exec_alloc_N {w : World} {o : Oper} {a : Act} (ho : o.op = .alloc 95) : (execOp a.eval o).run Try.prog w = .ok (.value (.pointer (some ⟨w.heap.size, 0, none⟩))) (w.alloc (.cells #[.slice none 0 0] 95)) := by
  unfold execOp
  rw [ho]
  kernel_rfl
section
variable {B : Nat} {w : World} {bb off : Nat} {S : Option RSt} {O FT FD : Nat → Prop} {p q : Option Addr} {kv : Value} {f t : Int}
set_option maxHeartbeats 1600000 in
set_option maxRecDepth 100000 in
theorem amid_none (h : BothAt B w bb off S O p q kv f t FT FD) (hS : rowsS S = []) (o : OpL) (ho : o.ok) :
    Calls Try.prog 64 #[.pointer (some ⟨bb, off, none⟩), o.val] w fun e w' => e = .returned (.bool true) ∧ Fut w w' := by
  have H := Lib.hid h
  obtain ⟨c0, c1, _⟩ := h.cell
  have hl : (rowsS S).length ≤ 1353244080301 := by rw [hS]; simp
  have hN : hiS (rowsS S) o.m - loS o.n = 0 := by rw [hS]; simp [hiS]
  clear h
  unfold OpL.val
  refine (callsIn_wide (n := 3)).1 ?_
  refine callsIn_of_wp_marks Try.func64 rfl trivial ?_ rfl
  refine wpIn_wide.2 ?_
  simp only [Try.ntmps64, List.size_toArray, List.length_cons, List.length_nil, Nat.reduceAdd, Nat.reduceSub, Array.replicate_succ, Array.replicate_zero, List.push_toArray, List.append_toArray, List.nil_append, List.cons_append]
  go_wp2_with fail
  have f1 := Fut.alloc w (.cells #[Value.pointer (some ⟨bb, off, none⟩)] 92)
  have k1 := cell_at (heap_alloc_new w (.cells #[Value.pointer (some ⟨bb, off, none⟩)] 92)) 0 _ rfl
  obtain ⟨u1, hW1⟩ : ∃ W, w.alloc (.cells #[Value.pointer (some ⟨bb, off, none⟩)] 92) = W := ⟨_, rfl⟩
  have hs1 : u1.heap.size = w.heap.size + 1 := by rw [← hW1]; simp
  rw [hW1] at f1 k1 ⊢
  have f2 := Fut.alloc u1 (.cells o.cells.toArray 67)
  have cn : (u1.alloc (.cells o.cells.toArray 67)).cell? ⟨w.heap.size + 1, 2, none⟩ = some (.int .i64 o.n) := by rw [← hs1]; exact cell_at (heap_alloc_new u1 _) 2 _ rfl
  have cmm : (u1.alloc (.cells o.cells.toArray 67)).cell? ⟨w.heap.size + 1, 3, none⟩ = some (.int .i64 o.m) := by rw [← hs1]; exact cell_at (heap_alloc_new u1 _) 3 _ rfl
  obtain ⟨u2, hW2⟩ : ∃ W, u1.alloc (.cells o.cells.toArray 67) = W := ⟨_, rfl⟩
  have hs2 : u2.heap.size = w.heap.size + 1 + 1 := by rw [← hW2, World.size_alloc, hs1]
  rw [hW2] at f2 cn cmm ⊢
  have f3 := Fut.alloc u2 (.cells #[Value.bool false] 4)
  have b3 := heap_alloc_new u2 (.cells #[Value.bool false] 4)
  rw [hs2] at b3
  obtain ⟨u3, hW3⟩ : ∃ W, u2.alloc (.cells #[Value.bool false] 4) = W := ⟨_, rfl⟩
  have hs3 : u3.heap.size = w.heap.size + 1 + 1 + 1 := by rw [← hW3, World.size_alloc, hs2]
  rw [hW3] at f3 b3 ⊢
  have F3 := (f1.trans f2).trans f3
  replace k1 := f3.cell (f2.cell k1)
  replace cn := f3.cell cn
  replace cmm := f3.cell cmm
  replace c0 := F3.cell c0
  replace c1 := F3.cell c1
  have HW := Lib.hid (H.out.fut F3)
  clear hW1 hW2 hW3 f1 f2 f3 hs1 hs2
  refine wp_graph 10 [.d, .d, .d, .d, .d, .d, .d, .d, .r (fun v w' => SlRep 25 maxLen RNb w' v (nbL (rowsS S) o.n o.m)), .r (fun v w => ∃ b, v = .pointer (some ⟨b, 0, none⟩) ∧ u3.heap.size ≤ b ∧ w.heap[b]? = some (.cells #[.slice none 0 0] 95 (0, 0)))] (by kernel_rfl) (by kernel_rfl) (by kernel_rfl) ?_
  simp only [List.take_succ_cons, List.take_zero, List.drop_succ_cons, List.drop_zero, Exs]
  iterate 8 apply Exists.intro
  apply Run.valG (wanted_none rfl _)
  · intro w1 h1 hk
    have hg := (Fut.drew _).trans h1; have q0 := h1.cell k1; have q1 := h1.cell c1; have q2 := h1.cell cn; have q3 := h1.cell cmm
    have hcw := fun b o => Below.cell (p := ⟨b, o, none⟩) h1
    go_simp; rfl
  simp only [Act.put, List.setIfInBounds_toArray, List.set_cons_succ, List.set_cons_zero, List.nil_append, List.cons_append]
  apply Run.valG (wanted_none rfl _)
  · intro w1 h1 hk
    have hg := (Fut.drew _).trans h1; have q0 := h1.cell k1; have q1 := h1.cell c1; have q2 := h1.cell cn; have q3 := h1.cell cmm
    have hcw := fun b o => Below.cell (p := ⟨b, o, none⟩) h1
    go_simp; rfl
  simp only [Act.put, List.setIfInBounds_toArray, List.set_cons_succ, List.set_cons_zero, List.nil_append, List.cons_append]
  apply Run.valG (wanted_none rfl _)
  · intro w1 h1 hk
    have hg := (Fut.drew _).trans h1; have q0 := h1.cell k1; have q1 := h1.cell c1; have q2 := h1.cell cn; have q3 := h1.cell cmm
    have hcw := fun b o => Below.cell (p := ⟨b, o, none⟩) h1
    go_simp; rfl
  simp only [Act.put, List.setIfInBounds_toArray, List.set_cons_succ, List.set_cons_zero, List.nil_append, List.cons_append]
  apply Run.valG (wanted_none rfl _)
  · intro w1 h1 hk
    have hg := (Fut.drew _).trans h1; have q0 := h1.cell k1; have q1 := h1.cell c1; have q2 := h1.cell cn; have q3 := h1.cell cmm
    have hcw := fun b o => Below.cell (p := ⟨b, o, none⟩) h1
    go_simp; rfl
  simp only [Act.put, List.setIfInBounds_toArray, List.set_cons_succ, List.set_cons_zero, List.nil_append, List.cons_append]
  apply Run.valG (wanted_none rfl _)
  · intro w1 h1 hk
    have hg := (Fut.drew _).trans h1; have q0 := h1.cell k1; have q1 := h1.cell c1; have q2 := h1.cell cn; have q3 := h1.cell cmm
    have hcw := fun b o => Below.cell (p := ⟨b, o, none⟩) h1
    go_simp; rfl
  simp only [Act.put, List.setIfInBounds_toArray, List.set_cons_succ, List.set_cons_zero, List.nil_append, List.cons_append]
  apply Run.valG (wanted_none rfl _)
  · intro w1 h1 hk
    have hg := (Fut.drew _).trans h1; have q0 := h1.cell k1; have q1 := h1.cell c1; have q2 := h1.cell cn; have q3 := h1.cell cmm
    have hcw := fun b o => Below.cell (p := ⟨b, o, none⟩) h1
    go_simp; rfl
  simp only [Act.put, List.setIfInBounds_toArray, List.set_cons_succ, List.set_cons_zero, List.nil_append, List.cons_append]
  apply Run.valG (wanted_none rfl _)
  · intro w1 h1 hk
    have hg := (Fut.drew _).trans h1; have q0 := h1.cell k1; have q1 := h1.cell c1; have q2 := h1.cell cn; have q3 := h1.cell cmm
    have hcw := fun b o => Below.cell (p := ⟨b, o, none⟩) h1
    go_simp; rfl
  simp only [Act.put, List.setIfInBounds_toArray, List.set_cons_succ, List.set_cons_zero, List.nil_append, List.cons_append]
  apply Run.valG (wanted_none rfl _)
  · intro w1 h1 hk
    have hg := (Fut.drew _).trans h1; have q0 := h1.cell k1; have q1 := h1.cell c1; have q2 := h1.cell cn; have q3 := h1.cell cmm
    have hcw := fun b o => Below.cell (p := ⟨b, o, none⟩) h1
    go_simp; rfl
  simp only [Act.put, List.setIfInBounds_toArray, List.set_cons_succ, List.set_cons_zero, List.nil_append, List.cons_append]
  apply Run.callR (wanted_none rfl _) (by intro v w w' hf hs; exact hs.fut RNb.stays hf) (fun _ _ => by go_simp; exact ⟨rfl, rfl⟩)
  · intro w1 h1 hk
    have hg := (Fut.drew _).trans h1; have q0 := h1.cell k1; have q1 := h1.cell c1; have q2 := h1.cell cn; have q3 := h1.cell cmm
    refine (D_range (HW.out.fut hg).D hl _ _).mono ?_; rintro e w' ⟨u, rfl, hO, hf⟩; exact ⟨_, rfl, hf, hO.rep⟩
  intro v8
  simp only [Act.put, List.setIfInBounds_toArray, List.set_cons_succ, List.set_cons_zero, List.nil_append, List.cons_append]
  apply Run.valR (wanted_none rfl _) (by intro v w w' hf hs; exact (by obtain ⟨b, rfl, hb, h⟩ := hs; exact ⟨b, rfl, hb, hf.block h⟩))
  · intro w1 h1 hk
    have hg := (Fut.drew _).trans h1; have q0 := h1.cell k1; have q1 := h1.cell c1; have q2 := h1.cell cn; have q3 := h1.cell cmm
    exact ⟨_, _, exec_alloc_N rfl, Fut.alloc _ _, _, rfl, hg.size, heap_alloc_new _ _⟩
  intro v9
  simp only [Act.put, List.setIfInBounds_toArray, List.set_cons_succ, List.set_cons_zero, List.nil_append, List.cons_append]
  apply Run.done
  intro u4 h4 hk
  obtain ⟨f8, f9, _⟩ := hk
  obtain ⟨b5, rfl, hb5, hZ5⟩ := f9
  have hlen := nbL_len (rowsS S) o.n o.m
  rw [hN] at hlen
  obtain ⟨A8, cap8, rfl, hc8, _⟩ := f8.form
  rw [hlen]
  have F4 := F3.trans ((Fut.drew _).trans h4)
  have g4 := (Fut.drew _).trans h4
  have z5 := free_at hZ5 0
  have x5 := cell_at hZ5 0 _ rfl
  go_wp2_with fail
  have O5 : Only (fun k => u3.heap.size ≤ k) u4 (u4.setCell ⟨b5, 0, none⟩ (.slice A8 0 cap8)) := Only.set _ _ hb5
  have B5 := set_blk hZ5 (i := 0) (v := .slice A8 0 cap8)
  obtain ⟨u5, hW5⟩ : ∃ W, u4.setCell ⟨b5, 0, none⟩ (.slice A8 0 cap8) = W := ⟨_, rfl⟩
  rw [hW5] at O5 B5 ⊢
  clear hW5 z5 x5 hZ5
  have G5 : Fut u3 u5 := ((Only.fut g4).trans O5).toFut fun k hk => hk
  have F5 := F3.trans G5
  have HW5 := Lib.hid (HW.out.fut G5)
  have B3 := G5.block b3
  replace k1 := G5.cell k1
  replace c0 := G5.cell c0
  replace cn := G5.cell cn
  replace cmm := G5.cell cmm
  have hb5l : b5 < u5.heap.size := (Array.getElem?_eq_some_iff.1 B5).1
  clear O5 f8 h4 g4 G5 F4 c1 HW b3
  refine wp_graph 9 [.d, .d, .d, .d, .d, .d, .d, .d, .r (fun v w => ∃ lb, v = .func (.func 35) #[] lb ∧ SeqAt w lb (.pointer p) o.n o.m)] (by kernel_rfl) (by kernel_rfl) (by kernel_rfl) ?_
  simp only [List.take_succ_cons, List.take_zero, List.drop_succ_cons, List.drop_zero, Exs]
  iterate 8 apply Exists.intro
  apply Run.valG (wanted_none rfl _)
  · intro w1 h1 hk
    have hg := (Fut.drew _).trans h1; have q0 := h1.cell k1; have q1 := h1.cell c0; have q2 := h1.cell cn; have q3 := h1.cell cmm
    have hcw := fun b o => Below.cell (p := ⟨b, o, none⟩) h1
    go_simp; rfl
  simp only [Act.put, List.setIfInBounds_toArray, List.set_cons_succ, List.set_cons_zero, List.nil_append, List.cons_append]
  apply Run.valG (wanted_none rfl _)
  · intro w1 h1 hk
    have hg := (Fut.drew _).trans h1; have q0 := h1.cell k1; have q1 := h1.cell c0; have q2 := h1.cell cn; have q3 := h1.cell cmm
    have hcw := fun b o => Below.cell (p := ⟨b, o, none⟩) h1
    go_simp; rfl
  simp only [Act.put, List.setIfInBounds_toArray, List.set_cons_succ, List.set_cons_zero, List.nil_append, List.cons_append]
  apply Run.valG (wanted_none rfl _)
  · intro w1 h1 hk
    have hg := (Fut.drew _).trans h1; have q0 := h1.cell k1; have q1 := h1.cell c0; have q2 := h1.cell cn; have q3 := h1.cell cmm
    have hcw := fun b o => Below.cell (p := ⟨b, o, none⟩) h1
    go_simp; rfl
  simp only [Act.put, List.setIfInBounds_toArray, List.set_cons_succ, List.set_cons_zero, List.nil_append, List.cons_append]
  apply Run.valG (wanted_none rfl _)
  · intro w1 h1 hk
    have hg := (Fut.drew _).trans h1; have q0 := h1.cell k1; have q1 := h1.cell c0; have q2 := h1.cell cn; have q3 := h1.cell cmm
    have hcw := fun b o => Below.cell (p := ⟨b, o, none⟩) h1
    go_simp; rfl
  simp only [Act.put, List.setIfInBounds_toArray, List.set_cons_succ, List.set_cons_zero, List.nil_append, List.cons_append]
  apply Run.valG (wanted_none rfl _)
  · intro w1 h1 hk
    have hg := (Fut.drew _).trans h1; have q0 := h1.cell k1; have q1 := h1.cell c0; have q2 := h1.cell cn; have q3 := h1.cell cmm
    have hcw := fun b o => Below.cell (p := ⟨b, o, none⟩) h1
    go_simp; rfl
  simp only [Act.put, List.setIfInBounds_toArray, List.set_cons_succ, List.set_cons_zero, List.nil_append, List.cons_append]
  apply Run.valG (wanted_none rfl _)
  · intro w1 h1 hk
    have hg := (Fut.drew _).trans h1; have q0 := h1.cell k1; have q1 := h1.cell c0; have q2 := h1.cell cn; have q3 := h1.cell cmm
    have hcw := fun b o => Below.cell (p := ⟨b, o, none⟩) h1
    go_simp; rfl
  simp only [Act.put, List.setIfInBounds_toArray, List.set_cons_succ, List.set_cons_zero, List.nil_append, List.cons_append]
  apply Run.valG (wanted_none rfl _)
  · intro w1 h1 hk
    have hg := (Fut.drew _).trans h1; have q0 := h1.cell k1; have q1 := h1.cell c0; have q2 := h1.cell cn; have q3 := h1.cell cmm
    have hcw := fun b o => Below.cell (p := ⟨b, o, none⟩) h1
    go_simp; rfl
  simp only [Act.put, List.setIfInBounds_toArray, List.set_cons_succ, List.set_cons_zero, List.nil_append, List.cons_append]
  apply Run.valG (wanted_none rfl _)
  · intro w1 h1 hk
    have hg := (Fut.drew _).trans h1; have q0 := h1.cell k1; have q1 := h1.cell c0; have q2 := h1.cell cn; have q3 := h1.cell cmm
    have hcw := fun b o => Below.cell (p := ⟨b, o, none⟩) h1
    go_simp; rfl
  simp only [Act.put, List.setIfInBounds_toArray, List.set_cons_succ, List.set_cons_zero, List.nil_append, List.cons_append]
  apply Run.callR (wanted_none rfl _) (by intro v w w' hf hs; exact (by obtain ⟨lb, rfl, h⟩ := hs; exact ⟨lb, rfl, h.fut hf⟩)) (fun _ _ => by go_simp; exact ⟨rfl, rfl⟩)
  · intro w1 h1 hk
    have hg := (Fut.drew _).trans h1; have q0 := h1.cell k1; have q1 := h1.cell c0; have q2 := h1.cell cn; have q3 := h1.cell cmm
    refine (range_any p _ _ _).mono ?_; rintro e w' ⟨lb, rfl, hq, hf⟩; exact ⟨_, rfl, hf, lb, rfl, hq⟩
  intro v8
  simp only [Act.put, List.setIfInBounds_toArray, List.set_cons_succ, List.set_cons_zero, List.nil_append, List.cons_append]
  apply Run.done
  intro u6 h6 hk
  obtain ⟨f8, _⟩ := hk
  obtain ⟨lb, rfl, hsq⟩ := f8
  have g6 := (Fut.drew _).trans h6
  have F6 := F5.trans g6
  have HW6 := Lib.hid (HW5.out.fut g6)
  have B36 := g6.block B3
  have B56 := g6.block B5
  have HS := Lib.hid hsq
  have hef := fun lb => run_eql_fn (.func 35) #[] lb
  have hs6 := g6.size
  clear hsq h6 g6
  go_wp2_with fail
  have g7 := Fut.alloc u6 (.cells #[Value.int .i64 0] 3)
  have B7 := heap_alloc_new u6 (.cells #[Value.int .i64 0] 3)
  have hs7 : (u6.alloc (.cells #[Value.int .i64 0] 3)).heap.size = u6.heap.size + 1 := by simp
  obtain ⟨wl, hW7⟩ : ∃ W, u6.alloc (.cells #[Value.int .i64 0] 3) = W := ⟨_, rfl⟩
  rw [hW7] at g7 B7 hs7 ⊢
  clear hW7 hef
  have FL := Lib.hid (F6.trans g7)
  have B37 := g7.block B36
  have B57 := g7.block B56
  have hsw := F3.size
  refine wp_range (N := hiS (rowsS S) o.m - loS o.n) (args := spanArgs (rowsS S) o.n) rfl (enters_of Try.func35 (by kernel_rfl) rfl) (fun W hf => T_iter (HW6.out.fut (g7.trans hf)).T hl _ _ lb (HS.out.fut (g7.trans hf))) (fun k hk => rfl)
    (fun s k W => Fut wl W)
    (fun _ _ _ => False) ?hIf ?hI ?hIx ?h0 ?hbody ?hdone ?hstop
  case hIf => exact fun s k W W' hf h => h.trans hf
  case hI => exact fun s k W l o hl1 hl2 hs h => ((Only.fut h).trans (Only.put (S := fun j => wl.heap.size ≤ j) _ _ hl1)).toFut fun j hj => hj
  case hIx => exact fun _ _ _ _ _ _ _ _ h => h
  case h0 => exact fun W hf hs => hf
  case hbody => intro l s k W hl1 hl2 hs hsW hk; omega
  case hdone =>
    rintro s W hs hG hK
    have B3W := hG.block B37
    have B5W := hG.block B57
    have B7W := hG.block B7
    have ck := cell_at B7W 0 _ rfl
    have cw : W.cell? ⟨b5, 0, none⟩ = some (.slice A8 0 cap8) := cell_at B5W 0 _ rfl
    have z3 := free_at B3W 0
    have d3 := cell_at B3W 0 _ rfl
    have HS7 := Lib.hid hs7
    clear hs7
    go_wp2
    have hs7 := HS7.out
    have OS : Only (fun k => w.heap.size ≤ k) W (W.setCell ⟨w.heap.size + 1 + 1, 0, none⟩ (Value.bool true)) := Only.set _ _ (by show w.heap.size ≤ w.heap.size + 1 + 1; omega)
    have OP : Only (fun k => k = wl.heap.size) (W.setCell ⟨w.heap.size + 1 + 1, 0, none⟩ (Value.bool true)) ((W.setCell ⟨w.heap.size + 1 + 1, 0, none⟩ (Value.bool true)).putObj wl.heap.size (.deferred none)) := Only.put _ _ rfl
    have hKf : (W.setCell ⟨w.heap.size + 1 + 1, 0, none⟩ (Value.bool true)).heap[wl.heap.size]? = some (.deferred (some [])) := (Only.set (S := fun k => k = w.heap.size + 1 + 1) (w := W) ⟨w.heap.size + 1 + 1, 0, none⟩ (Value.bool true) rfl).keeps hK (by show ¬ wl.heap.size = w.heap.size + 1 + 1; omega)
    have hBf := OP.keeps (set_blk B3W (i := 0) (v := Value.bool true)) (by show ¬ w.heap.size + 1 + 1 = wl.heap.size; omega)
    refine ⟨by simp, .inl ⟨_, _, rfl, run_takeDeferred hKf, ?_⟩⟩
    exact ⟨_, results_cellB rfl rfl (cell_at hBf 0 _ rfl), rfl, (((Only.fut (FL.out.trans hG)).trans OS).trans (OP.mono (S' := fun j => w.heap.size ≤ j) fun j _ hj => by have := FL.out.size; omega)).toFut fun j hj => hj⟩
  case hstop => exact fun _ _ _ _ h _ => h.elim
end
end Go.Proofs.Ytcekphjcmippoaa
/- How lists of turns are read off the arguments. -/
namespace Go.Proofs.Ytcekphjcmippoaa
open Go.RowKit Go.WideMaps Go.ChangeShapes Go.WideShapes Go.ChangeAt Go.Deep
set_option linter.unusedSimpArgs false
set_option linter.unusedVariables false
set_option maxRecDepth 100000

theorem rTn : Reads Try.prog 34 RTn := by
  intro H enc w base held fuel cs x h hn
  have hl := (reads_len Try.underlying34 h).trans (show Try.prog.cellsOf 34 = 25 by kernel_rfl)
  obtain ⟨b, e0⟩ := reads_field Try.underlying34 h hn 0 rfl (reads_bool Try.underlying4)
  obtain ⟨r, e1, hr⟩ := reads_field Try.underlying34 h hn 1 rfl (reads_row rowTy)
  have c0 : Try.prog.cellsOf 4 = 1 := by kernel_rfl
  have c1 : Try.prog.cellsOf 32 = 24 := by kernel_rfl
  have g0 : (cs.drop 0).take 1 = [Value.bool b] := by rw [← c0]; exact e0
  have g1 : (cs.drop 1).take 24 = r.cells := by rw [← c1]; exact e1
  clear e0 e1
  refine ⟨⟨b, r⟩, ?_, hr⟩
  cases cs with
  | nil => simp at hl
  | cons c cs =>
    simp at g0 g1 hl
    subst g0
    rw [← g1, List.take_of_length_le (by omega)]
theorem rTns : Reads Try.prog 22 (SlR 25 1407374883512 RTn) :=
  reads_slice Try.underlying22 (by kernel_rfl) (by omega) (fun c h => by
    have hb : Try.prog.bytesOf 34 = 100 := by kernel_rfl
    rw [hb] at h; unfold reachBytes at h; omega) rTn

end Go.Proofs.Ytcekphjcmippoaa
