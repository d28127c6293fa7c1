/- BothG, BothH -/
import Derived.Test.YtcekphjcmippoaaC17
/- asks: Range, the kept one, Sorted, the sizes. -/
namespace Go.Proofs.Ytcekphjcmippoaa
open Go.RowKit Go.WideMaps
set_option linter.unusedSimpArgs false
set_option linter.unusedVariables false

section
variable {B : Nat} {w : World} {bb off : Nat} {S : Option RSt} {O FT FD : Nat → Prop} {p q : Option Addr} {kv : Value} {f t : Int}
set_option maxHeartbeats 1600000 in
set_option maxRecDepth 100000 in
theorem asks_range (h : BothAt B w bb off S O p q kv f t FT FD) (hl : (rowsS S).length ≤ 1353244080301) (hgn : goneS S < 4611686018427387904) (o : OpL) (ho : o.ok) (hk : o.kind = 6) :
    Calls Try.prog 50 #[.pointer (some ⟨bb, off, none⟩), o.val] w (Did B w bb off S O p q) := by
  have H := Lib.hid h
  obtain ⟨c0, c1, _⟩ := h.cell
  have hro := ho.row
  have hmo := ho.mask
  have hrow := op_row (w := w) (t := 67) hro
  have ck : (w.alloc (.cells o.cells.toArray 67)).cell? ⟨w.heap.size, 1, none⟩ = some (.int .i64 6) := by rw [← hk]; exact cell_at (heap_alloc_new w _) 1 _ rfl
  have cn : (w.alloc (.cells o.cells.toArray 67)).cell? ⟨w.heap.size, 2, none⟩ = some (.int .i64 o.n) := cell_at (heap_alloc_new w _) 2 _ rfl
  have cmm : (w.alloc (.cells o.cells.toArray 67)).cell? ⟨w.heap.size, 3, none⟩ = some (.int .i64 o.m) := cell_at (heap_alloc_new w _) 3 _ rfl
  have cm : (w.alloc (.cells o.cells.toArray 67)).cell? ⟨w.heap.size, 4, none⟩ = some (.int .u32 o.mask) := cell_at (heap_alloc_new w _) 4 _ rfl
  have F1 := Fut.alloc w (.cells o.cells.toArray 67)
  clear h
  unfold OpL.val
  go_enter Try.func50, Try.ntmps50
  go_wp2_with fail
  obtain ⟨W1, hW⟩ : ∃ W1, w.alloc (.cells o.cells.toArray 67) = W1 := ⟨_, rfl⟩
  rw [hW] at hrow ck cn cm cmm F1 ⊢
  clear hW
  replace c0 := F1.cell c0
  replace c1 := F1.cell c1
  have HW := Lib.hid (H.out.fut F1)
  have hoks := H.out.T.oks
  refine wp_graph 9 [.d, .d, .d, .d, .d, .d, .d, .d, .r (fun v w => ∃ lb, v = .func (.func 35) #[] lb ∧ SeqAt w lb (.pointer p) o.n o.m)] (by kernel_rfl) (by kernel_rfl) (by kernel_rfl) ?_
  simp only [List.take_succ_cons, List.take_zero, List.drop_succ_cons, List.drop_zero, Exs]
  iterate 8 apply Exists.intro
  apply Run.valG (wanted_none rfl _)
  · intro w1 h1 hk
    have hg := (Fut.drew _).trans h1; have q0 := h1.cell c0; have q1 := h1.cell cn; have q2 := h1.cell cmm
    have hcw := fun b o => Below.cell (p := ⟨b, o, none⟩) h1
    go_simp; rfl
  simp only [Act.put, List.setIfInBounds_toArray, List.set_cons_succ, List.set_cons_zero, List.nil_append, List.cons_append]
  apply Run.valG (wanted_none rfl _)
  · intro w1 h1 hk
    have hg := (Fut.drew _).trans h1; have q0 := h1.cell c0; have q1 := h1.cell cn; have q2 := h1.cell cmm
    have hcw := fun b o => Below.cell (p := ⟨b, o, none⟩) h1
    go_simp; rfl
  simp only [Act.put, List.setIfInBounds_toArray, List.set_cons_succ, List.set_cons_zero, List.nil_append, List.cons_append]
  apply Run.valG (wanted_none rfl _)
  · intro w1 h1 hk
    have hg := (Fut.drew _).trans h1; have q0 := h1.cell c0; have q1 := h1.cell cn; have q2 := h1.cell cmm
    have hcw := fun b o => Below.cell (p := ⟨b, o, none⟩) h1
    go_simp; rfl
  simp only [Act.put, List.setIfInBounds_toArray, List.set_cons_succ, List.set_cons_zero, List.nil_append, List.cons_append]
  apply Run.valG (wanted_none rfl _)
  · intro w1 h1 hk
    have hg := (Fut.drew _).trans h1; have q0 := h1.cell c0; have q1 := h1.cell cn; have q2 := h1.cell cmm
    have hcw := fun b o => Below.cell (p := ⟨b, o, none⟩) h1
    go_simp; rfl
  simp only [Act.put, List.setIfInBounds_toArray, List.set_cons_succ, List.set_cons_zero, List.nil_append, List.cons_append]
  apply Run.valG (wanted_none rfl _)
  · intro w1 h1 hk
    have hg := (Fut.drew _).trans h1; have q0 := h1.cell c0; have q1 := h1.cell cn; have q2 := h1.cell cmm
    have hcw := fun b o => Below.cell (p := ⟨b, o, none⟩) h1
    go_simp; rfl
  simp only [Act.put, List.setIfInBounds_toArray, List.set_cons_succ, List.set_cons_zero, List.nil_append, List.cons_append]
  apply Run.valG (wanted_none rfl _)
  · intro w1 h1 hk
    have hg := (Fut.drew _).trans h1; have q0 := h1.cell c0; have q1 := h1.cell cn; have q2 := h1.cell cmm
    have hcw := fun b o => Below.cell (p := ⟨b, o, none⟩) h1
    go_simp; rfl
  simp only [Act.put, List.setIfInBounds_toArray, List.set_cons_succ, List.set_cons_zero, List.nil_append, List.cons_append]
  apply Run.valG (wanted_none rfl _)
  · intro w1 h1 hk
    have hg := (Fut.drew _).trans h1; have q0 := h1.cell c0; have q1 := h1.cell cn; have q2 := h1.cell cmm
    have hcw := fun b o => Below.cell (p := ⟨b, o, none⟩) h1
    go_simp; rfl
  simp only [Act.put, List.setIfInBounds_toArray, List.set_cons_succ, List.set_cons_zero, List.nil_append, List.cons_append]
  apply Run.valG (wanted_none rfl _)
  · intro w1 h1 hk
    have hg := (Fut.drew _).trans h1; have q0 := h1.cell c0; have q1 := h1.cell cn; have q2 := h1.cell cmm
    have hcw := fun b o => Below.cell (p := ⟨b, o, none⟩) h1
    go_simp; rfl
  simp only [Act.put, List.setIfInBounds_toArray, List.set_cons_succ, List.set_cons_zero, List.nil_append, List.cons_append]
  apply Run.callR (wanted_none rfl _) (by intro v w w' hf hs; exact (by obtain ⟨lb, rfl, h⟩ := hs; exact ⟨lb, rfl, h.fut hf⟩)) (fun _ _ => by go_simp; exact ⟨rfl, rfl⟩)
  · intro w1 h1 hk
    have hg := (Fut.drew _).trans h1; have q0 := h1.cell c0; have q1 := h1.cell cn; have q2 := h1.cell cmm
    refine (range_any p _ _ _).mono ?_; rintro e w' ⟨lb, rfl, hq, hf⟩; exact ⟨_, rfl, hf, lb, rfl, hq⟩
  intro v8
  simp only [Act.put, List.setIfInBounds_toArray, List.set_cons_succ, List.set_cons_zero, List.nil_append, List.cons_append]
  apply Run.done
  intro w2 h2 hk
  obtain ⟨f8, _⟩ := hk
  obtain ⟨lb, rfl, hsq⟩ := f8
  have F2 := (Fut.drew _).trans h2
  have HW2 := Lib.hid (HW.out.fut F2)
  have HS := Lib.hid hsq
  clear hsq
  have d1 := F2.cell c1
  have dn := F2.cell cn
  have dm := F2.cell cmm
  go_wp2_with fail
  refine wp_graph 25 [.d, .d, .d, .d, .d, .d, .d, .d, .d, .r (fun v w' => SlRep 25 maxLen RNb w' v (nbL (rowsS S) o.n o.m)), .d, .d, .d, .d, .d, .d, .d, .d, .d, .d, .d, .r (fun v w' => SlRep 25 maxLen RNb w' v (nbL (rowsS S) o.n o.m)), .d, .d, .d] (by kernel_rfl) (by kernel_rfl) (by kernel_rfl) ?_
  simp only [List.take_succ_cons, List.take_zero, List.drop_succ_cons, List.drop_zero, Exs]
  iterate 23 apply Exists.intro
  apply Run.valG (wanted_none rfl _)
  · intro w1 h1 hk
    have hg := (Fut.drew _).trans h1; have q1 := h1.cell d1; have q2 := h1.cell dn; have q3 := h1.cell dm
    have hcw := fun b o => Below.cell (p := ⟨b, o, none⟩) h1
    go_simp; rfl
  simp only [Act.put, List.setIfInBounds_toArray, List.set_cons_succ, List.set_cons_zero, List.nil_append, List.cons_append]
  apply Run.valG (wanted_none rfl _)
  · intro w1 h1 hk
    have hg := (Fut.drew _).trans h1; have q1 := h1.cell d1; have q2 := h1.cell dn; have q3 := h1.cell dm
    have hcw := fun b o => Below.cell (p := ⟨b, o, none⟩) h1
    go_simp; rfl
  simp only [Act.put, List.setIfInBounds_toArray, List.set_cons_succ, List.set_cons_zero, List.nil_append, List.cons_append]
  apply Run.valG (wanted_none rfl _)
  · intro w1 h1 hk
    have hg := (Fut.drew _).trans h1; have q1 := h1.cell d1; have q2 := h1.cell dn; have q3 := h1.cell dm
    have hcw := fun b o => Below.cell (p := ⟨b, o, none⟩) h1
    go_simp; rfl
  simp only [Act.put, List.setIfInBounds_toArray, List.set_cons_succ, List.set_cons_zero, List.nil_append, List.cons_append]
  apply Run.valG (wanted_none rfl _)
  · intro w1 h1 hk
    have hg := (Fut.drew _).trans h1; have q1 := h1.cell d1; have q2 := h1.cell dn; have q3 := h1.cell dm
    have hcw := fun b o => Below.cell (p := ⟨b, o, none⟩) h1
    go_simp; rfl
  simp only [Act.put, List.setIfInBounds_toArray, List.set_cons_succ, List.set_cons_zero, List.nil_append, List.cons_append]
  apply Run.valG (wanted_none rfl _)
  · intro w1 h1 hk
    have hg := (Fut.drew _).trans h1; have q1 := h1.cell d1; have q2 := h1.cell dn; have q3 := h1.cell dm
    have hcw := fun b o => Below.cell (p := ⟨b, o, none⟩) h1
    go_simp; rfl
  simp only [Act.put, List.setIfInBounds_toArray, List.set_cons_succ, List.set_cons_zero, List.nil_append, List.cons_append]
  apply Run.valG (wanted_none rfl _)
  · intro w1 h1 hk
    have hg := (Fut.drew _).trans h1; have q1 := h1.cell d1; have q2 := h1.cell dn; have q3 := h1.cell dm
    have hcw := fun b o => Below.cell (p := ⟨b, o, none⟩) h1
    go_simp; rfl
  simp only [Act.put, List.setIfInBounds_toArray, List.set_cons_succ, List.set_cons_zero, List.nil_append, List.cons_append]
  apply Run.valG (wanted_none rfl _)
  · intro w1 h1 hk
    have hg := (Fut.drew _).trans h1; have q1 := h1.cell d1; have q2 := h1.cell dn; have q3 := h1.cell dm
    have hcw := fun b o => Below.cell (p := ⟨b, o, none⟩) h1
    go_simp; rfl
  simp only [Act.put, List.setIfInBounds_toArray, List.set_cons_succ, List.set_cons_zero, List.nil_append, List.cons_append]
  apply Run.valG (wanted_none rfl _)
  · intro w1 h1 hk
    have hg := (Fut.drew _).trans h1; have q1 := h1.cell d1; have q2 := h1.cell dn; have q3 := h1.cell dm
    have hcw := fun b o => Below.cell (p := ⟨b, o, none⟩) h1
    go_simp; rfl
  simp only [Act.put, List.setIfInBounds_toArray, List.set_cons_succ, List.set_cons_zero, List.nil_append, List.cons_append]
  apply Run.valG (wanted_none rfl _)
  · intro w1 h1 hk
    have hg := (Fut.drew _).trans h1; have q1 := h1.cell d1; have q2 := h1.cell dn; have q3 := h1.cell dm
    have hcw := fun b o => Below.cell (p := ⟨b, o, none⟩) h1
    go_simp; rfl
  simp only [Act.put, List.setIfInBounds_toArray, List.set_cons_succ, List.set_cons_zero, List.nil_append, List.cons_append]
  apply Run.callR (wanted_none rfl _) (by intro v w w' hf hs; exact hs.fut RNb.stays hf) (fun _ _ => by go_simp; exact ⟨rfl, rfl⟩)
  · intro w1 h1 hk
    have hg := (Fut.drew _).trans h1; have q1 := h1.cell d1; have q2 := h1.cell dn; have q3 := h1.cell dm
    refine (D_range (HW2.out.fut hg).D (by omega) _ _).mono ?_; rintro e w' ⟨u, rfl, hO, hf⟩; exact ⟨_, rfl, hf, hO.rep⟩
  intro v9
  simp only [Act.put, List.setIfInBounds_toArray, List.set_cons_succ, List.set_cons_zero, List.nil_append, List.cons_append]
  apply Run.call (wanted_none rfl _) (fun _ _ => by go_simp; exact ⟨rfl, rfl⟩)
  · intro w1 h1 hk
    have f9 := Facts.get hk 0 rfl (by kernel_rfl)
    have hg := (Fut.drew _).trans h1; have q1 := h1.cell d1; have q2 := h1.cell dn; have q3 := h1.cell dm
    refine (tells_any hoks (fun W hW => T_iter ((HW2.out.fut hg).fut hW).T (by omega) _ _ lb ((HS.out.fut hg).fut hW)) f9 (by omega) 2 (.inl rfl)).mono ?_; rintro e w' ⟨rfl, hf⟩; exact ⟨rfl, hf⟩
  simp only [Act.put, List.setIfInBounds_toArray, List.set_cons_succ, List.set_cons_zero, List.nil_append, List.cons_append]
  apply Run.valG (wanted_none rfl _)
  · intro w1 h1 hk
    have hg := (Fut.drew _).trans h1; have q1 := h1.cell d1; have q2 := h1.cell dn; have q3 := h1.cell dm
    have hcw := fun b o => Below.cell (p := ⟨b, o, none⟩) h1
    go_simp; rfl
  simp only [Act.put, List.setIfInBounds_toArray, List.set_cons_succ, List.set_cons_zero, List.nil_append, List.cons_append]
  apply Run.valG (by go_simp)
  · intro w1 h1 hk
    have hg := (Fut.drew _).trans h1; have q1 := h1.cell d1; have q2 := h1.cell dn; have q3 := h1.cell dm
    have hcw := fun b o => Below.cell (p := ⟨b, o, none⟩) h1
    go_simp; rfl
  simp only [Act.put, List.setIfInBounds_toArray, List.set_cons_succ, List.set_cons_zero, List.nil_append, List.cons_append]
  apply Run.valG (by go_simp)
  · intro w1 h1 hk
    have hg := (Fut.drew _).trans h1; have q1 := h1.cell d1; have q2 := h1.cell dn; have q3 := h1.cell dm
    have hcw := fun b o => Below.cell (p := ⟨b, o, none⟩) h1
    go_simp; rfl
  simp only [Act.put, List.setIfInBounds_toArray, List.set_cons_succ, List.set_cons_zero, List.nil_append, List.cons_append]
  apply Run.valG (by go_simp)
  · intro w1 h1 hk
    have hg := (Fut.drew _).trans h1; have q1 := h1.cell d1; have q2 := h1.cell dn; have q3 := h1.cell dm
    have hcw := fun b o => Below.cell (p := ⟨b, o, none⟩) h1
    go_simp; rfl
  simp only [Act.put, List.setIfInBounds_toArray, List.set_cons_succ, List.set_cons_zero, List.nil_append, List.cons_append]
  apply Run.valG (by go_simp)
  · intro w1 h1 hk
    have hg := (Fut.drew _).trans h1; have q1 := h1.cell d1; have q2 := h1.cell dn; have q3 := h1.cell dm
    have hcw := fun b o => Below.cell (p := ⟨b, o, none⟩) h1
    go_simp; rfl
  simp only [Act.put, List.setIfInBounds_toArray, List.set_cons_succ, List.set_cons_zero, List.nil_append, List.cons_append]
  apply Run.valG (by go_simp)
  · intro w1 h1 hk
    have hg := (Fut.drew _).trans h1; have q1 := h1.cell d1; have q2 := h1.cell dn; have q3 := h1.cell dm
    have hcw := fun b o => Below.cell (p := ⟨b, o, none⟩) h1
    go_simp; rfl
  simp only [Act.put, List.setIfInBounds_toArray, List.set_cons_succ, List.set_cons_zero, List.nil_append, List.cons_append]
  apply Run.valG (by go_simp)
  · intro w1 h1 hk
    have hg := (Fut.drew _).trans h1; have q1 := h1.cell d1; have q2 := h1.cell dn; have q3 := h1.cell dm
    have hcw := fun b o => Below.cell (p := ⟨b, o, none⟩) h1
    go_simp; rfl
  simp only [Act.put, List.setIfInBounds_toArray, List.set_cons_succ, List.set_cons_zero, List.nil_append, List.cons_append]
  apply Run.valG (by go_simp)
  · intro w1 h1 hk
    have hg := (Fut.drew _).trans h1; have q1 := h1.cell d1; have q2 := h1.cell dn; have q3 := h1.cell dm
    have hcw := fun b o => Below.cell (p := ⟨b, o, none⟩) h1
    go_simp; rfl
  simp only [Act.put, List.setIfInBounds_toArray, List.set_cons_succ, List.set_cons_zero, List.nil_append, List.cons_append]
  apply Run.valG (by go_simp)
  · intro w1 h1 hk
    have hg := (Fut.drew _).trans h1; have q1 := h1.cell d1; have q2 := h1.cell dn; have q3 := h1.cell dm
    have hcw := fun b o => Below.cell (p := ⟨b, o, none⟩) h1
    go_simp; rfl
  simp only [Act.put, List.setIfInBounds_toArray, List.set_cons_succ, List.set_cons_zero, List.nil_append, List.cons_append]
  apply Run.valG (by go_simp)
  · intro w1 h1 hk
    have hg := (Fut.drew _).trans h1; have q1 := h1.cell d1; have q2 := h1.cell dn; have q3 := h1.cell dm
    have hcw := fun b o => Below.cell (p := ⟨b, o, none⟩) h1
    go_simp; rfl
  simp only [Act.put, List.setIfInBounds_toArray, List.set_cons_succ, List.set_cons_zero, List.nil_append, List.cons_append]
  apply Run.callR (by go_simp) (by intro v w w' hf hs; exact hs.fut RNb.stays hf) (fun _ _ => by go_simp; exact ⟨rfl, rfl⟩)
  · intro w1 h1 hk
    have hg := (Fut.drew _).trans h1; have q1 := h1.cell d1; have q2 := h1.cell dn; have q3 := h1.cell dm
    refine (D_range (HW2.out.fut hg).D (by omega) _ _).mono ?_; rintro e w' ⟨u, rfl, hO, hf⟩; exact ⟨_, rfl, hf, hO.rep⟩
  intro v21
  simp only [Act.put, List.setIfInBounds_toArray, List.set_cons_succ, List.set_cons_zero, List.nil_append, List.cons_append]
  apply Run.call (by go_simp) (fun _ _ => by go_simp; exact ⟨rfl, rfl⟩)
  · intro w1 h1 hk
    have f21 := Facts.get hk 1 rfl (by kernel_rfl)
    have hg := (Fut.drew _).trans h1; have q1 := h1.cell d1; have q2 := h1.cell dn; have q3 := h1.cell dm
    refine (tells_any hoks (fun W hW => T_iter ((HW2.out.fut hg).fut hW).T (by omega) _ _ lb ((HS.out.fut hg).fut hW)) f21 (by omega) (-1) (.inr rfl)).mono ?_; rintro e w' ⟨rfl, hf⟩; exact ⟨rfl, hf⟩
  simp only [Act.put, List.setIfInBounds_toArray, List.set_cons_succ, List.set_cons_zero, List.nil_append, List.cons_append]
  apply Run.valG (wanted_none rfl _)
  · intro w1 h1 hk
    have hg := (Fut.drew _).trans h1; have q1 := h1.cell d1; have q2 := h1.cell dn; have q3 := h1.cell dm
    have hcw := fun b o => Below.cell (p := ⟨b, o, none⟩) h1
    go_simp; rfl
  simp only [Act.put, List.setIfInBounds_toArray, List.set_cons_succ, List.set_cons_zero, List.nil_append, List.cons_append]
  apply Run.valG (wanted_none rfl _)
  · intro w1 h1 hk
    have hg := (Fut.drew _).trans h1; have q1 := h1.cell d1; have q2 := h1.cell dn; have q3 := h1.cell dm
    have hcw := fun b o => Below.cell (p := ⟨b, o, none⟩) h1
    go_simp; rfl
  simp only [Act.put, List.setIfInBounds_toArray, List.set_cons_succ, List.set_cons_zero, List.nil_append, List.cons_append]
  apply Run.done
  intro w3 h3 hk
  obtain ⟨f9, f21, _⟩ := hk
  go_wp2
  go_ret
  exact did_same H.out (F1.trans (F2.trans ((Fut.drew _).trans h3)))
set_option maxHeartbeats 1600000 in
set_option maxRecDepth 100000 in
theorem asks_kept (h : BothAt B w bb off S O p q kv f t FT FD) (hl : (rowsS S).length ≤ 1353244080301) (hgn : goneS S < 4611686018427387904) (o : OpL) (ho : o.ok) (hk : o.kind = 8) :
    Calls Try.prog 50 #[.pointer (some ⟨bb, off, none⟩), o.val] w (Did B w bb off S O p q) := by
  have H := Lib.hid h
  obtain ⟨c0, c1, _⟩ := h.cell
  have hro := ho.row
  have hmo := ho.mask
  have hrow := op_row (w := w) (t := 67) hro
  have ck : (w.alloc (.cells o.cells.toArray 67)).cell? ⟨w.heap.size, 1, none⟩ = some (.int .i64 8) := by rw [← hk]; exact cell_at (heap_alloc_new w _) 1 _ rfl
  have cn : (w.alloc (.cells o.cells.toArray 67)).cell? ⟨w.heap.size, 2, none⟩ = some (.int .i64 o.n) := cell_at (heap_alloc_new w _) 2 _ rfl
  have cmm : (w.alloc (.cells o.cells.toArray 67)).cell? ⟨w.heap.size, 3, none⟩ = some (.int .i64 o.m) := cell_at (heap_alloc_new w _) 3 _ rfl
  have cm : (w.alloc (.cells o.cells.toArray 67)).cell? ⟨w.heap.size, 4, none⟩ = some (.int .u32 o.mask) := cell_at (heap_alloc_new w _) 4 _ rfl
  have F1 := Fut.alloc w (.cells o.cells.toArray 67)
  clear h
  unfold OpL.val
  go_enter Try.func50, Try.ntmps50
  go_wp2_with fail
  obtain ⟨W1, hW⟩ : ∃ W1, w.alloc (.cells o.cells.toArray 67) = W1 := ⟨_, rfl⟩
  rw [hW] at hrow ck cn cm cmm F1 ⊢
  clear hW
  replace c0 := F1.cell c0
  replace c1 := F1.cell c1
  have HW := Lib.hid (H.out.fut F1)
  have hoks := H.out.T.oks
  obtain ⟨c0', c1', c2', c3', c4'⟩ := HW.out.cell
  rcases HW.out.kept with rfl | ⟨lb, rfl, b1, b2, b3, e1, e2, e3, e4, _⟩
  · have hen := run_eql_nn
    refine wp_graph 26 [.d, .d, .d, .d, .d, .d, .d, .d, .d, .d, .d, .d, .d, .d, .d, .d, .d, .d, .d, .d, .d, .d, .d, .d, .d, .d] (by kernel_rfl) (by kernel_rfl) (by kernel_rfl) ?_
    simp only [List.take_succ_cons, List.take_zero, List.drop_succ_cons, List.drop_zero, Exs]
    iterate 26 apply Exists.intro
    apply Run.valG (wanted_none rfl _)
    · intro w1 h1 hk
      have q1 := h1.cell c2'
      have hcw := fun b o => Below.cell (p := ⟨b, o, none⟩) h1
      go_simp; rfl
    simp only [Act.put, List.setIfInBounds_toArray, List.set_cons_succ, List.set_cons_zero, List.nil_append, List.cons_append]
    apply Run.valG (wanted_none rfl _)
    · intro w1 h1 hk
      have q1 := h1.cell c2'
      have hcw := fun b o => Below.cell (p := ⟨b, o, none⟩) h1
      go_simp; rfl
    simp only [Act.put, List.setIfInBounds_toArray, List.set_cons_succ, List.set_cons_zero, List.nil_append, List.cons_append]
    apply Run.valG (wanted_none rfl _)
    · intro w1 h1 hk
      have q1 := h1.cell c2'
      have hcw := fun b o => Below.cell (p := ⟨b, o, none⟩) h1
      go_simp; rfl
    simp only [Act.put, List.setIfInBounds_toArray, List.set_cons_succ, List.set_cons_zero, List.nil_append, List.cons_append]
    apply Run.valG (wanted_none rfl _)
    · intro w1 h1 hk
      have q1 := h1.cell c2'
      have hcw := fun b o => Below.cell (p := ⟨b, o, none⟩) h1
      go_simp; rfl
    simp only [Act.put, List.setIfInBounds_toArray, List.set_cons_succ, List.set_cons_zero, List.nil_append, List.cons_append]
    apply Run.valG (wanted_none rfl _)
    · intro w1 h1 hk
      have q1 := h1.cell c2'
      have hcw := fun b o => Below.cell (p := ⟨b, o, none⟩) h1
      go_simp; rfl
    simp only [Act.put, List.setIfInBounds_toArray, List.set_cons_succ, List.set_cons_zero, List.nil_append, List.cons_append]
    apply Run.valG (wanted_none rfl _)
    · intro w1 h1 hk
      have q1 := h1.cell c2'
      have hcw := fun b o => Below.cell (p := ⟨b, o, none⟩) h1
      go_simp; rfl
    simp only [Act.put, List.setIfInBounds_toArray, List.set_cons_succ, List.set_cons_zero, List.nil_append, List.cons_append]
    apply Run.skip (by go_simp)
    simp only [Act.put, List.setIfInBounds_toArray, List.set_cons_succ, List.set_cons_zero, List.nil_append, List.cons_append]
    apply Run.skip (by go_simp)
    simp only [Act.put, List.setIfInBounds_toArray, List.set_cons_succ, List.set_cons_zero, List.nil_append, List.cons_append]
    apply Run.skip (by go_simp)
    simp only [Act.put, List.setIfInBounds_toArray, List.set_cons_succ, List.set_cons_zero, List.nil_append, List.cons_append]
    apply Run.skip (by go_simp)
    simp only [Act.put, List.setIfInBounds_toArray, List.set_cons_succ, List.set_cons_zero, List.nil_append, List.cons_append]
    apply Run.skip (by go_simp)
    simp only [Act.put, List.setIfInBounds_toArray, List.set_cons_succ, List.set_cons_zero, List.nil_append, List.cons_append]
    apply Run.skip (by go_simp)
    simp only [Act.put, List.setIfInBounds_toArray, List.set_cons_succ, List.set_cons_zero, List.nil_append, List.cons_append]
    apply Run.skip (by go_simp)
    simp only [Act.put, List.setIfInBounds_toArray, List.set_cons_succ, List.set_cons_zero, List.nil_append, List.cons_append]
    apply Run.skip (by go_simp)
    simp only [Act.put, List.setIfInBounds_toArray, List.set_cons_succ, List.set_cons_zero, List.nil_append, List.cons_append]
    apply Run.skip (by go_simp)
    simp only [Act.put, List.setIfInBounds_toArray, List.set_cons_succ, List.set_cons_zero, List.nil_append, List.cons_append]
    apply Run.skip (by go_simp)
    simp only [Act.put, List.setIfInBounds_toArray, List.set_cons_succ, List.set_cons_zero, List.nil_append, List.cons_append]
    apply Run.skip (by go_simp)
    simp only [Act.put, List.setIfInBounds_toArray, List.set_cons_succ, List.set_cons_zero, List.nil_append, List.cons_append]
    apply Run.skip (by go_simp)
    simp only [Act.put, List.setIfInBounds_toArray, List.set_cons_succ, List.set_cons_zero, List.nil_append, List.cons_append]
    apply Run.skip (by go_simp)
    simp only [Act.put, List.setIfInBounds_toArray, List.set_cons_succ, List.set_cons_zero, List.nil_append, List.cons_append]
    apply Run.skip (by go_simp)
    simp only [Act.put, List.setIfInBounds_toArray, List.set_cons_succ, List.set_cons_zero, List.nil_append, List.cons_append]
    apply Run.skip (by go_simp)
    simp only [Act.put, List.setIfInBounds_toArray, List.set_cons_succ, List.set_cons_zero, List.nil_append, List.cons_append]
    apply Run.skip (by go_simp)
    simp only [Act.put, List.setIfInBounds_toArray, List.set_cons_succ, List.set_cons_zero, List.nil_append, List.cons_append]
    apply Run.skip (by go_simp)
    simp only [Act.put, List.setIfInBounds_toArray, List.set_cons_succ, List.set_cons_zero, List.nil_append, List.cons_append]
    apply Run.skip (by go_simp)
    simp only [Act.put, List.setIfInBounds_toArray, List.set_cons_succ, List.set_cons_zero, List.nil_append, List.cons_append]
    apply Run.valG (wanted_none rfl _)
    · intro w1 h1 hk
      have q1 := h1.cell c2'
      have hcw := fun b o => Below.cell (p := ⟨b, o, none⟩) h1
      go_simp; rfl
    simp only [Act.put, List.setIfInBounds_toArray, List.set_cons_succ, List.set_cons_zero, List.nil_append, List.cons_append]
    apply Run.valG (wanted_none rfl _)
    · intro w1 h1 hk
      have q1 := h1.cell c2'
      have hcw := fun b o => Below.cell (p := ⟨b, o, none⟩) h1
      go_simp; rfl
    simp only [Act.put, List.setIfInBounds_toArray, List.set_cons_succ, List.set_cons_zero, List.nil_append, List.cons_append]
    apply Run.done
    intro w2 h2 hk
    clear hk
    go_wp2
    go_ret
    exact did_same H.out (F1.trans ((Fut.drew _).trans h2))
  · have hef := run_eql_fn (.func 35) #[] lb
    have HS := Lib.hid (show SeqAt W1 lb (.pointer p) f t from ⟨b1, b2, b3, e1, e2, e3, e4⟩)
    clear e1 e2 e3 e4
    refine wp_graph 26 [.d, .d, .d, .d, .d, .d, .d, .d, .d, .d, .d, .d, .d, .d, .d, .d, .d, .d, .d, .d, .d, .d, .r (fun v w' => SlRep 25 maxLen RNb w' v (nbL (rowsS S) f t)), .d, .d, .d] (by kernel_rfl) (by kernel_rfl) (by kernel_rfl) ?_
    simp only [List.take_succ_cons, List.take_zero, List.drop_succ_cons, List.drop_zero, Exs]
    iterate 25 apply Exists.intro
    apply Run.valG (wanted_none rfl _)
    · intro w1 h1 hk
      have hg := (Fut.drew _).trans h1; have q1 := h1.cell c2'; have q2 := h1.cell c1'; have q3 := h1.cell c3'; have q4 := h1.cell c4'
      have hcw := fun b o => Below.cell (p := ⟨b, o, none⟩) h1
      go_simp; rfl
    simp only [Act.put, List.setIfInBounds_toArray, List.set_cons_succ, List.set_cons_zero, List.nil_append, List.cons_append]
    apply Run.valG (wanted_none rfl _)
    · intro w1 h1 hk
      have hg := (Fut.drew _).trans h1; have q1 := h1.cell c2'; have q2 := h1.cell c1'; have q3 := h1.cell c3'; have q4 := h1.cell c4'
      have hcw := fun b o => Below.cell (p := ⟨b, o, none⟩) h1
      go_simp; rfl
    simp only [Act.put, List.setIfInBounds_toArray, List.set_cons_succ, List.set_cons_zero, List.nil_append, List.cons_append]
    apply Run.valG (wanted_none rfl _)
    · intro w1 h1 hk
      have hg := (Fut.drew _).trans h1; have q1 := h1.cell c2'; have q2 := h1.cell c1'; have q3 := h1.cell c3'; have q4 := h1.cell c4'
      have hcw := fun b o => Below.cell (p := ⟨b, o, none⟩) h1
      go_simp; rfl
    simp only [Act.put, List.setIfInBounds_toArray, List.set_cons_succ, List.set_cons_zero, List.nil_append, List.cons_append]
    apply Run.valG (wanted_none rfl _)
    · intro w1 h1 hk
      have hg := (Fut.drew _).trans h1; have q1 := h1.cell c2'; have q2 := h1.cell c1'; have q3 := h1.cell c3'; have q4 := h1.cell c4'
      have hcw := fun b o => Below.cell (p := ⟨b, o, none⟩) h1
      go_simp; rfl
    simp only [Act.put, List.setIfInBounds_toArray, List.set_cons_succ, List.set_cons_zero, List.nil_append, List.cons_append]
    apply Run.valG (wanted_none rfl _)
    · intro w1 h1 hk
      have hg := (Fut.drew _).trans h1; have q1 := h1.cell c2'; have q2 := h1.cell c1'; have q3 := h1.cell c3'; have q4 := h1.cell c4'
      have hcw := fun b o => Below.cell (p := ⟨b, o, none⟩) h1
      go_simp; rfl
    simp only [Act.put, List.setIfInBounds_toArray, List.set_cons_succ, List.set_cons_zero, List.nil_append, List.cons_append]
    apply Run.valG (wanted_none rfl _)
    · intro w1 h1 hk
      have hg := (Fut.drew _).trans h1; have q1 := h1.cell c2'; have q2 := h1.cell c1'; have q3 := h1.cell c3'; have q4 := h1.cell c4'
      have hcw := fun b o => Below.cell (p := ⟨b, o, none⟩) h1
      go_simp; rfl
    simp only [Act.put, List.setIfInBounds_toArray, List.set_cons_succ, List.set_cons_zero, List.nil_append, List.cons_append]
    apply Run.valG (by go_simp)
    · intro w1 h1 hk
      have hg := (Fut.drew _).trans h1; have q1 := h1.cell c2'; have q2 := h1.cell c1'; have q3 := h1.cell c3'; have q4 := h1.cell c4'
      have hcw := fun b o => Below.cell (p := ⟨b, o, none⟩) h1
      go_simp; rfl
    simp only [Act.put, List.setIfInBounds_toArray, List.set_cons_succ, List.set_cons_zero, List.nil_append, List.cons_append]
    apply Run.valG (by go_simp)
    · intro w1 h1 hk
      have hg := (Fut.drew _).trans h1; have q1 := h1.cell c2'; have q2 := h1.cell c1'; have q3 := h1.cell c3'; have q4 := h1.cell c4'
      have hcw := fun b o => Below.cell (p := ⟨b, o, none⟩) h1
      go_simp; rfl
    simp only [Act.put, List.setIfInBounds_toArray, List.set_cons_succ, List.set_cons_zero, List.nil_append, List.cons_append]
    apply Run.valG (by go_simp)
    · intro w1 h1 hk
      have hg := (Fut.drew _).trans h1; have q1 := h1.cell c2'; have q2 := h1.cell c1'; have q3 := h1.cell c3'; have q4 := h1.cell c4'
      have hcw := fun b o => Below.cell (p := ⟨b, o, none⟩) h1
      go_simp; rfl
    simp only [Act.put, List.setIfInBounds_toArray, List.set_cons_succ, List.set_cons_zero, List.nil_append, List.cons_append]
    apply Run.valG (by go_simp)
    · intro w1 h1 hk
      have hg := (Fut.drew _).trans h1; have q1 := h1.cell c2'; have q2 := h1.cell c1'; have q3 := h1.cell c3'; have q4 := h1.cell c4'
      have hcw := fun b o => Below.cell (p := ⟨b, o, none⟩) h1
      go_simp; rfl
    simp only [Act.put, List.setIfInBounds_toArray, List.set_cons_succ, List.set_cons_zero, List.nil_append, List.cons_append]
    apply Run.valG (by go_simp)
    · intro w1 h1 hk
      have hg := (Fut.drew _).trans h1; have q1 := h1.cell c2'; have q2 := h1.cell c1'; have q3 := h1.cell c3'; have q4 := h1.cell c4'
      have hcw := fun b o => Below.cell (p := ⟨b, o, none⟩) h1
      go_simp; rfl
    simp only [Act.put, List.setIfInBounds_toArray, List.set_cons_succ, List.set_cons_zero, List.nil_append, List.cons_append]
    apply Run.valG (by go_simp)
    · intro w1 h1 hk
      have hg := (Fut.drew _).trans h1; have q1 := h1.cell c2'; have q2 := h1.cell c1'; have q3 := h1.cell c3'; have q4 := h1.cell c4'
      have hcw := fun b o => Below.cell (p := ⟨b, o, none⟩) h1
      go_simp; rfl
    simp only [Act.put, List.setIfInBounds_toArray, List.set_cons_succ, List.set_cons_zero, List.nil_append, List.cons_append]
    apply Run.valG (by go_simp)
    · intro w1 h1 hk
      have hg := (Fut.drew _).trans h1; have q1 := h1.cell c2'; have q2 := h1.cell c1'; have q3 := h1.cell c3'; have q4 := h1.cell c4'
      have hcw := fun b o => Below.cell (p := ⟨b, o, none⟩) h1
      go_simp; rfl
    simp only [Act.put, List.setIfInBounds_toArray, List.set_cons_succ, List.set_cons_zero, List.nil_append, List.cons_append]
    apply Run.valG (by go_simp)
    · intro w1 h1 hk
      have hg := (Fut.drew _).trans h1; have q1 := h1.cell c2'; have q2 := h1.cell c1'; have q3 := h1.cell c3'; have q4 := h1.cell c4'
      have hcw := fun b o => Below.cell (p := ⟨b, o, none⟩) h1
      go_simp; rfl
    simp only [Act.put, List.setIfInBounds_toArray, List.set_cons_succ, List.set_cons_zero, List.nil_append, List.cons_append]
    apply Run.valG (by go_simp)
    · intro w1 h1 hk
      have hg := (Fut.drew _).trans h1; have q1 := h1.cell c2'; have q2 := h1.cell c1'; have q3 := h1.cell c3'; have q4 := h1.cell c4'
      have hcw := fun b o => Below.cell (p := ⟨b, o, none⟩) h1
      go_simp; rfl
    simp only [Act.put, List.setIfInBounds_toArray, List.set_cons_succ, List.set_cons_zero, List.nil_append, List.cons_append]
    apply Run.valG (by go_simp)
    · intro w1 h1 hk
      have hg := (Fut.drew _).trans h1; have q1 := h1.cell c2'; have q2 := h1.cell c1'; have q3 := h1.cell c3'; have q4 := h1.cell c4'
      have hcw := fun b o => Below.cell (p := ⟨b, o, none⟩) h1
      go_simp; rfl
    simp only [Act.put, List.setIfInBounds_toArray, List.set_cons_succ, List.set_cons_zero, List.nil_append, List.cons_append]
    apply Run.valG (by go_simp)
    · intro w1 h1 hk
      have hg := (Fut.drew _).trans h1; have q1 := h1.cell c2'; have q2 := h1.cell c1'; have q3 := h1.cell c3'; have q4 := h1.cell c4'
      have hcw := fun b o => Below.cell (p := ⟨b, o, none⟩) h1
      go_simp; rfl
    simp only [Act.put, List.setIfInBounds_toArray, List.set_cons_succ, List.set_cons_zero, List.nil_append, List.cons_append]
    apply Run.valG (by go_simp)
    · intro w1 h1 hk
      have hg := (Fut.drew _).trans h1; have q1 := h1.cell c2'; have q2 := h1.cell c1'; have q3 := h1.cell c3'; have q4 := h1.cell c4'
      have hcw := fun b o => Below.cell (p := ⟨b, o, none⟩) h1
      go_simp; rfl
    simp only [Act.put, List.setIfInBounds_toArray, List.set_cons_succ, List.set_cons_zero, List.nil_append, List.cons_append]
    apply Run.valG (by go_simp)
    · intro w1 h1 hk
      have hg := (Fut.drew _).trans h1; have q1 := h1.cell c2'; have q2 := h1.cell c1'; have q3 := h1.cell c3'; have q4 := h1.cell c4'
      have hcw := fun b o => Below.cell (p := ⟨b, o, none⟩) h1
      go_simp; rfl
    simp only [Act.put, List.setIfInBounds_toArray, List.set_cons_succ, List.set_cons_zero, List.nil_append, List.cons_append]
    apply Run.valG (by go_simp)
    · intro w1 h1 hk
      have hg := (Fut.drew _).trans h1; have q1 := h1.cell c2'; have q2 := h1.cell c1'; have q3 := h1.cell c3'; have q4 := h1.cell c4'
      have hcw := fun b o => Below.cell (p := ⟨b, o, none⟩) h1
      go_simp; rfl
    simp only [Act.put, List.setIfInBounds_toArray, List.set_cons_succ, List.set_cons_zero, List.nil_append, List.cons_append]
    apply Run.valG (by go_simp)
    · intro w1 h1 hk
      have hg := (Fut.drew _).trans h1; have q1 := h1.cell c2'; have q2 := h1.cell c1'; have q3 := h1.cell c3'; have q4 := h1.cell c4'
      have hcw := fun b o => Below.cell (p := ⟨b, o, none⟩) h1
      go_simp; rfl
    simp only [Act.put, List.setIfInBounds_toArray, List.set_cons_succ, List.set_cons_zero, List.nil_append, List.cons_append]
    apply Run.valG (by go_simp)
    · intro w1 h1 hk
      have hg := (Fut.drew _).trans h1; have q1 := h1.cell c2'; have q2 := h1.cell c1'; have q3 := h1.cell c3'; have q4 := h1.cell c4'
      have hcw := fun b o => Below.cell (p := ⟨b, o, none⟩) h1
      go_simp; rfl
    simp only [Act.put, List.setIfInBounds_toArray, List.set_cons_succ, List.set_cons_zero, List.nil_append, List.cons_append]
    apply Run.callR (by go_simp) (by intro v w w' hf hs; exact hs.fut RNb.stays hf) (fun _ _ => by go_simp; exact ⟨rfl, rfl⟩)
    · intro w1 h1 hk
      have hg := (Fut.drew _).trans h1; have q1 := h1.cell c2'; have q2 := h1.cell c1'; have q3 := h1.cell c3'; have q4 := h1.cell c4'
      refine (D_range (HW.out.fut hg).D (by omega) _ _).mono ?_; rintro e w' ⟨u, rfl, hO, hf⟩; exact ⟨_, rfl, hf, hO.rep⟩
    intro v22
    simp only [Act.put, List.setIfInBounds_toArray, List.set_cons_succ, List.set_cons_zero, List.nil_append, List.cons_append]
    apply Run.call (by go_simp) (fun _ _ => by go_simp; exact ⟨rfl, rfl⟩)
    · intro w1 h1 hk
      have f22 := Facts.get hk 0 rfl (by kernel_rfl)
      have hg := (Fut.drew _).trans h1; have q1 := h1.cell c2'; have q2 := h1.cell c1'; have q3 := h1.cell c3'; have q4 := h1.cell c4'
      refine (tells_any hoks (fun W hW => T_iter ((HW.out.fut hg).fut hW).T (by omega) _ _ lb ((HS.out.fut hg).fut hW)) f22 (by omega) (-1) (.inr rfl)).mono ?_; rintro e w' ⟨rfl, hf⟩; exact ⟨rfl, hf⟩
    simp only [Act.put, List.setIfInBounds_toArray, List.set_cons_succ, List.set_cons_zero, List.nil_append, List.cons_append]
    apply Run.valG (wanted_none rfl _)
    · intro w1 h1 hk
      have hg := (Fut.drew _).trans h1; have q1 := h1.cell c2'; have q2 := h1.cell c1'; have q3 := h1.cell c3'; have q4 := h1.cell c4'
      have hcw := fun b o => Below.cell (p := ⟨b, o, none⟩) h1
      go_simp; rfl
    simp only [Act.put, List.setIfInBounds_toArray, List.set_cons_succ, List.set_cons_zero, List.nil_append, List.cons_append]
    apply Run.valG (wanted_none rfl _)
    · intro w1 h1 hk
      have hg := (Fut.drew _).trans h1; have q1 := h1.cell c2'; have q2 := h1.cell c1'; have q3 := h1.cell c3'; have q4 := h1.cell c4'
      have hcw := fun b o => Below.cell (p := ⟨b, o, none⟩) h1
      go_simp; rfl
    simp only [Act.put, List.setIfInBounds_toArray, List.set_cons_succ, List.set_cons_zero, List.nil_append, List.cons_append]
    apply Run.done
    intro w2 h2 hk
    obtain ⟨f22, _⟩ := hk
    go_wp2
    go_ret
    exact did_same H.out (F1.trans ((Fut.drew _).trans h2))
set_option maxHeartbeats 1600000 in
set_option maxRecDepth 100000 in
theorem asks_sorted (h : BothAt B w bb off S O p q kv f t FT FD) (hl : (rowsS S).length ≤ 1353244080301) (hgn : goneS S < 4611686018427387904) (o : OpL) (ho : o.ok) (hk : o.kind = 10) :
    Calls Try.prog 50 #[.pointer (some ⟨bb, off, none⟩), o.val] w (Did B w bb off S O p q) := by
  have H := Lib.hid h
  obtain ⟨c0, c1, _⟩ := h.cell
  have hro := ho.row
  have hmo := ho.mask
  have hrow := op_row (w := w) (t := 67) hro
  have ck : (w.alloc (.cells o.cells.toArray 67)).cell? ⟨w.heap.size, 1, none⟩ = some (.int .i64 10) := by rw [← hk]; exact cell_at (heap_alloc_new w _) 1 _ rfl
  have cn : (w.alloc (.cells o.cells.toArray 67)).cell? ⟨w.heap.size, 2, none⟩ = some (.int .i64 o.n) := cell_at (heap_alloc_new w _) 2 _ rfl
  have cmm : (w.alloc (.cells o.cells.toArray 67)).cell? ⟨w.heap.size, 3, none⟩ = some (.int .i64 o.m) := cell_at (heap_alloc_new w _) 3 _ rfl
  have cm : (w.alloc (.cells o.cells.toArray 67)).cell? ⟨w.heap.size, 4, none⟩ = some (.int .u32 o.mask) := cell_at (heap_alloc_new w _) 4 _ rfl
  have F1 := Fut.alloc w (.cells o.cells.toArray 67)
  clear h
  unfold OpL.val
  go_enter Try.func50, Try.ntmps50
  go_wp2_with fail
  obtain ⟨W1, hW⟩ : ∃ W1, w.alloc (.cells o.cells.toArray 67) = W1 := ⟨_, rfl⟩
  rw [hW] at hrow ck cn cm cmm F1 ⊢
  clear hW
  replace c0 := F1.cell c0
  replace c1 := F1.cell c1
  have HW := Lib.hid (H.out.fut F1)
  have hnd0 := H.out.T.nodup
  refine wp_graph 12 [.d, .d, .d, .d, .r (fun v w => ∃ ys, sortS S ys ∧ SlRep 24 maxLen RR w v ys), .d, .d, .d, .d, .r (fun v w => ∃ ys, sortS S ys ∧ SlRep 24 maxLen RR w v ys), .d, .d] (by kernel_rfl) (by kernel_rfl) (by kernel_rfl) ?_
  simp only [List.take_succ_cons, List.take_zero, List.drop_succ_cons, List.drop_zero, Exs]
  iterate 10 apply Exists.intro
  apply Run.valG (wanted_none rfl _)
  · intro w1 h1 hk
    have hg := (Fut.drew _).trans h1; have q0 := h1.cell c0; have q1 := h1.cell c1
    have hcw := fun b o => Below.cell (p := ⟨b, o, none⟩) h1
    go_simp; rfl
  simp only [Act.put, List.setIfInBounds_toArray, List.set_cons_succ, List.set_cons_zero, List.nil_append, List.cons_append]
  apply Run.valG (wanted_none rfl _)
  · intro w1 h1 hk
    have hg := (Fut.drew _).trans h1; have q0 := h1.cell c0; have q1 := h1.cell c1
    have hcw := fun b o => Below.cell (p := ⟨b, o, none⟩) h1
    go_simp; rfl
  simp only [Act.put, List.setIfInBounds_toArray, List.set_cons_succ, List.set_cons_zero, List.nil_append, List.cons_append]
  apply Run.valG (wanted_none rfl _)
  · intro w1 h1 hk
    have hg := (Fut.drew _).trans h1; have q0 := h1.cell c0; have q1 := h1.cell c1
    have hcw := fun b o => Below.cell (p := ⟨b, o, none⟩) h1
    go_simp; rfl
  simp only [Act.put, List.setIfInBounds_toArray, List.set_cons_succ, List.set_cons_zero, List.nil_append, List.cons_append]
  apply Run.valG (wanted_none rfl _)
  · intro w1 h1 hk
    have hg := (Fut.drew _).trans h1; have q0 := h1.cell c0; have q1 := h1.cell c1
    have hcw := fun b o => Below.cell (p := ⟨b, o, none⟩) h1
    go_simp; rfl
  simp only [Act.put, List.setIfInBounds_toArray, List.set_cons_succ, List.set_cons_zero, List.nil_append, List.cons_append]
  apply Run.callR (wanted_none rfl _) (by intro v w w' hf hs; exact (by obtain ⟨ys, h1, h2⟩ := hs; exact ⟨ys, h1, h2.fut RR.stays hf⟩)) (fun _ _ => by go_simp; exact ⟨rfl, rfl⟩)
  · intro w1 h1 hk
    have hg := (Fut.drew _).trans h1; have q0 := h1.cell c0; have q1 := h1.cell c1
    refine (T_sorted (HW.out.fut hg).T (by omega)).mono ?_; rintro e w' ⟨v, ys, rfl, hs, hr, hf⟩; exact ⟨_, rfl, hf, ys, hs, hr⟩
  intro v4
  simp only [Act.put, List.setIfInBounds_toArray, List.set_cons_succ, List.set_cons_zero, List.nil_append, List.cons_append]
  apply Run.valG (wanted_none rfl _)
  · intro w1 h1 hk
    have hg := (Fut.drew _).trans h1; have q0 := h1.cell c0; have q1 := h1.cell c1
    have hcw := fun b o => Below.cell (p := ⟨b, o, none⟩) h1
    go_simp; rfl
  simp only [Act.put, List.setIfInBounds_toArray, List.set_cons_succ, List.set_cons_zero, List.nil_append, List.cons_append]
  apply Run.valG (wanted_none rfl _)
  · intro w1 h1 hk
    have hg := (Fut.drew _).trans h1; have q0 := h1.cell c0; have q1 := h1.cell c1
    have hcw := fun b o => Below.cell (p := ⟨b, o, none⟩) h1
    go_simp; rfl
  simp only [Act.put, List.setIfInBounds_toArray, List.set_cons_succ, List.set_cons_zero, List.nil_append, List.cons_append]
  apply Run.valG (wanted_none rfl _)
  · intro w1 h1 hk
    have hg := (Fut.drew _).trans h1; have q0 := h1.cell c0; have q1 := h1.cell c1
    have hcw := fun b o => Below.cell (p := ⟨b, o, none⟩) h1
    go_simp; rfl
  simp only [Act.put, List.setIfInBounds_toArray, List.set_cons_succ, List.set_cons_zero, List.nil_append, List.cons_append]
  apply Run.valG (wanted_none rfl _)
  · intro w1 h1 hk
    have hg := (Fut.drew _).trans h1; have q0 := h1.cell c0; have q1 := h1.cell c1
    have hcw := fun b o => Below.cell (p := ⟨b, o, none⟩) h1
    go_simp; rfl
  simp only [Act.put, List.setIfInBounds_toArray, List.set_cons_succ, List.set_cons_zero, List.nil_append, List.cons_append]
  apply Run.callR (wanted_none rfl _) (by intro v w w' hf hs; exact (by obtain ⟨ys, h1, h2⟩ := hs; exact ⟨ys, h1, h2.fut RR.stays hf⟩)) (fun _ _ => by go_simp; exact ⟨rfl, rfl⟩)
  · intro w1 h1 hk
    have f4 := Facts.get hk 0 rfl (by kernel_rfl)
    have hg := (Fut.drew _).trans h1; have q0 := h1.cell c0; have q1 := h1.cell c1
    obtain ⟨ys, hys, hr⟩ := f4; refine (D_sorted (HW.out.fut hg).D (by omega) hys).mono ?_; rintro e w' ⟨u, rfl, hr, hf⟩; exact ⟨_, rfl, hf, ys, hys, hr⟩
  intro v9
  simp only [Act.put, List.setIfInBounds_toArray, List.set_cons_succ, List.set_cons_zero, List.nil_append, List.cons_append]
  apply Run.call (wanted_none rfl _) (fun _ _ => by go_simp; exact ⟨rfl, rfl⟩)
  · intro w1 h1 hk
    have f4 := Facts.get hk 0 rfl (by kernel_rfl)
    have f9 := Facts.get hk 1 rfl (by kernel_rfl)
    have hg := (Fut.drew _).trans h1; have q0 := h1.cell c0; have q1 := h1.cell c1
    obtain ⟨ys, hys, hr⟩ := f4; obtain ⟨zs, hzs, hr2⟩ := f9; obtain rfl := sortS_one hnd0 hys hzs; refine (sameRows_any hr hr2 (by rw [hys.1.length_eq]; omega)).mono ?_; rintro e w' ⟨rfl, hf⟩; exact ⟨rfl, hf⟩
  simp only [Act.put, List.setIfInBounds_toArray, List.set_cons_succ, List.set_cons_zero, List.nil_append, List.cons_append]
  apply Run.valG (wanted_none rfl _)
  · intro w1 h1 hk
    have hg := (Fut.drew _).trans h1; have q0 := h1.cell c0; have q1 := h1.cell c1
    have hcw := fun b o => Below.cell (p := ⟨b, o, none⟩) h1
    go_simp; rfl
  simp only [Act.put, List.setIfInBounds_toArray, List.set_cons_succ, List.set_cons_zero, List.nil_append, List.cons_append]
  apply Run.done
  intro w2 h2 hk
  obtain ⟨f4, f9, _⟩ := hk
  go_wp2
  go_ret
  exact did_same H.out (F1.trans ((Fut.drew _).trans h2))
set_option maxHeartbeats 1600000 in
set_option maxRecDepth 100000 in
theorem asks_sizes (h : BothAt B w bb off S O p q kv f t FT FD) (hl : (rowsS S).length ≤ 1353244080301) (hgn : goneS S < 4611686018427387904) (o : OpL) (ho : o.ok) (hk : o.kind = 12) :
    Calls Try.prog 50 #[.pointer (some ⟨bb, off, none⟩), o.val] w (Did B w bb off S O p q) := by
  have H := Lib.hid h
  obtain ⟨c0, c1, _⟩ := h.cell
  have hro := ho.row
  have hmo := ho.mask
  have hrow := op_row (w := w) (t := 67) hro
  have ck : (w.alloc (.cells o.cells.toArray 67)).cell? ⟨w.heap.size, 1, none⟩ = some (.int .i64 12) := by rw [← hk]; exact cell_at (heap_alloc_new w _) 1 _ rfl
  have cn : (w.alloc (.cells o.cells.toArray 67)).cell? ⟨w.heap.size, 2, none⟩ = some (.int .i64 o.n) := cell_at (heap_alloc_new w _) 2 _ rfl
  have cmm : (w.alloc (.cells o.cells.toArray 67)).cell? ⟨w.heap.size, 3, none⟩ = some (.int .i64 o.m) := cell_at (heap_alloc_new w _) 3 _ rfl
  have cm : (w.alloc (.cells o.cells.toArray 67)).cell? ⟨w.heap.size, 4, none⟩ = some (.int .u32 o.mask) := cell_at (heap_alloc_new w _) 4 _ rfl
  have F1 := Fut.alloc w (.cells o.cells.toArray 67)
  clear h
  unfold OpL.val
  go_enter Try.func50, Try.ntmps50
  go_wp2_with fail
  obtain ⟨W1, hW⟩ : ∃ W1, w.alloc (.cells o.cells.toArray 67) = W1 := ⟨_, rfl⟩
  rw [hW] at hrow ck cn cm cmm F1 ⊢
  clear hW
  replace c0 := F1.cell c0
  replace c1 := F1.cell c1
  have HW := Lib.hid (H.out.fut F1)
  refine (sizes_any HW.out).mono ?_
  rintro e w2 ⟨rfl, f2⟩
  go_wp2
  go_ret
  exact did_same H.out (F1.trans f2)
end
end Go.Proofs.Ytcekphjcmippoaa
/- asks: Range kept; whatever else. -/
namespace Go.Proofs.Ytcekphjcmippoaa
open Go.RowKit Go.WideMaps
set_option linter.unusedSimpArgs false
set_option linter.unusedVariables false

theorem cell_at' {w : World} {b i : Nat} {arr : Array Value} {t : TypeId} {fr : Nat × Nat} {v : Value} (h : w.heap[b]? = some (.cells arr t fr)) (hv : arr[i]? = some v) : w.cell? ⟨b, i, none⟩ = some v := by simp [World.cell?, h, hv]
set_option maxHeartbeats 400000 in
set_option maxRecDepth 100000 in
theorem range_new (p : Option Addr) (f t : Int) (w : World) :
    Calls Try.prog 20 #[.pointer p, .int .i64 f, .int .i64 t] w fun e w' => ∃ lb, e = .returned (.func (.func 35) #[] lb) ∧ lb = #[.pointer (some ⟨w.heap.size, 0, none⟩), .pointer (some ⟨w.heap.size + 1, 0, none⟩), .pointer (some ⟨w.heap.size + 1 + 1, 0, none⟩)] ∧
      w'.cell? ⟨w.heap.size, 0, none⟩ = some (.pointer p) ∧ w'.cell? ⟨w.heap.size + 1, 0, none⟩ = some (.int .i64 f) ∧ w'.cell? ⟨w.heap.size + 1 + 1, 0, none⟩ = some (.int .i64 t) ∧ Fut w w' := by
  have f1 := Fut.alloc w (.cells #[Value.pointer p] 24)
  have c1 := cell_at (heap_alloc_new w (.cells #[Value.pointer p] 24)) 0 _ rfl
  have f2 := Fut.alloc (w.alloc (.cells #[Value.pointer p] 24)) (.cells #[Value.int .i64 f] 3)
  have c2 := cell_at (heap_alloc_new (w.alloc (.cells #[Value.pointer p] 24)) (.cells #[Value.int .i64 f] 3)) 0 _ rfl
  have f3 := Fut.alloc ((w.alloc (.cells #[Value.pointer p] 24)).alloc (.cells #[Value.int .i64 f] 3)) (.cells #[Value.int .i64 t] 3)
  have c3 := cell_at (heap_alloc_new ((w.alloc (.cells #[Value.pointer p] 24)).alloc (.cells #[Value.int .i64 f] 3)) (.cells #[Value.int .i64 t] 3)) 0 _ rfl
  rw [World.size_alloc] at c2
  rw [World.size_alloc, World.size_alloc] at c3
  go_enter Try.func20, Try.ntmps20
  go_wp2
  go_ret
  exact ⟨_, rfl, rfl, f3.cell (f2.cell c1), f3.cell c2, c3, (f1.trans f2).trans f3⟩
section
variable {B : Nat} {w : World} {bb off : Nat} {S : Option RSt} {O FT FD : Nat → Prop} {p q : Option Addr} {kv : Value} {f t : Int}
set_option maxHeartbeats 1600000 in
set_option maxRecDepth 100000 in
theorem asks_other (h : BothAt B w bb off S O p q kv f t FT FD) (hl : (rowsS S).length ≤ 1353244080301) (hgn : goneS S < 4611686018427387904) (o : OpL) (ho : o.ok) (h6 : (o.kind == 6) = false) (h7 : (o.kind == 7) = false) (h8 : (o.kind == 8) = false) (h9 : (o.kind == 9) = false) (h10 : (o.kind == 10) = false) (h12 : (o.kind == 12) = false) :
    Calls Try.prog 50 #[.pointer (some ⟨bb, off, none⟩), o.val] w (Did B w bb off S O p q) := by
  have H := Lib.hid h
  obtain ⟨c0, c1, _⟩ := h.cell
  have hro := ho.row
  have hmo := ho.mask
  have hrow := op_row (w := w) (t := 67) hro
  have ck : (w.alloc (.cells o.cells.toArray 67)).cell? ⟨w.heap.size, 1, none⟩ = some (.int .i64 o.kind) := by exact cell_at (heap_alloc_new w _) 1 _ rfl
  have cn : (w.alloc (.cells o.cells.toArray 67)).cell? ⟨w.heap.size, 2, none⟩ = some (.int .i64 o.n) := cell_at (heap_alloc_new w _) 2 _ rfl
  have cmm : (w.alloc (.cells o.cells.toArray 67)).cell? ⟨w.heap.size, 3, none⟩ = some (.int .i64 o.m) := cell_at (heap_alloc_new w _) 3 _ rfl
  have cm : (w.alloc (.cells o.cells.toArray 67)).cell? ⟨w.heap.size, 4, none⟩ = some (.int .u32 o.mask) := cell_at (heap_alloc_new w _) 4 _ rfl
  have F1 := Fut.alloc w (.cells o.cells.toArray 67)
  clear h
  unfold OpL.val
  go_enter Try.func50, Try.ntmps50
  go_wp2
  go_ret
  exact did_same H.out F1
set_option maxHeartbeats 1600000 in
set_option maxRecDepth 100000 in
theorem asks_keep (h : BothAt B w bb off S O p q kv f t FT FD) (hl : (rowsS S).length ≤ 1353244080301) (hgn : goneS S < 4611686018427387904) (o : OpL) (ho : o.ok) (hk : o.kind = 7) :
    Calls Try.prog 50 #[.pointer (some ⟨bb, off, none⟩), o.val] w (Did B w bb off S O p q) := by
  have H := Lib.hid h
  obtain ⟨c0, c1, _⟩ := h.cell
  have hro := ho.row
  have hmo := ho.mask
  have hrow := op_row (w := w) (t := 67) hro
  have ck : (w.alloc (.cells o.cells.toArray 67)).cell? ⟨w.heap.size, 1, none⟩ = some (.int .i64 7) := by rw [← hk]; exact cell_at (heap_alloc_new w _) 1 _ rfl
  have cn : (w.alloc (.cells o.cells.toArray 67)).cell? ⟨w.heap.size, 2, none⟩ = some (.int .i64 o.n) := cell_at (heap_alloc_new w _) 2 _ rfl
  have cmm : (w.alloc (.cells o.cells.toArray 67)).cell? ⟨w.heap.size, 3, none⟩ = some (.int .i64 o.m) := cell_at (heap_alloc_new w _) 3 _ rfl
  have cm : (w.alloc (.cells o.cells.toArray 67)).cell? ⟨w.heap.size, 4, none⟩ = some (.int .u32 o.mask) := cell_at (heap_alloc_new w _) 4 _ rfl
  have F1 := Fut.alloc w (.cells o.cells.toArray 67)
  clear h
  unfold OpL.val
  go_enter Try.func50, Try.ntmps50
  go_wp2_with fail
  obtain ⟨W1, hW⟩ : ∃ W1, w.alloc (.cells o.cells.toArray 67) = W1 := ⟨_, rfl⟩
  rw [hW] at hrow ck cn cm cmm F1 ⊢
  clear hW
  replace c0 := F1.cell c0
  replace c1 := F1.cell c1
  have HW := Lib.hid (H.out.fut F1)
  obtain ⟨arr, ty, b0, a0, a1, a2, a3, a4⟩ := HW.out.blk
  have hs1 := F1.size
  have hbl : bb < W1.heap.size := (Array.getElem?_eq_some_iff.1 b0).1
  refine wp_graph 10 [.d, .d, .d, .d, .d, .d, .d, .d, .d, .r (fun v w => ∃ lb b1 b2 b3, v = .func (.func 35) #[] lb ∧ lb = #[.pointer (some ⟨b1, 0, none⟩), .pointer (some ⟨b2, 0, none⟩), .pointer (some ⟨b3, 0, none⟩)] ∧ w.cell? ⟨b1, 0, none⟩ = some (.pointer p) ∧ w.cell? ⟨b2, 0, none⟩ = some (.int .i64 o.n) ∧ w.cell? ⟨b3, 0, none⟩ = some (.int .i64 o.m) ∧ W1.heap.size ≤ b1 ∧ W1.heap.size ≤ b2 ∧ W1.heap.size ≤ b3)] (by kernel_rfl) (by kernel_rfl) (by kernel_rfl) ?_
  simp only [List.take_succ_cons, List.take_zero, List.drop_succ_cons, List.drop_zero, Exs]
  iterate 9 apply Exists.intro
  apply Run.valG (wanted_none rfl _)
  · intro w1 h1 hk
    have hg := (Fut.drew _).trans h1; have q0 := h1.cell c0; have q1 := h1.cell cn; have q2 := h1.cell cmm
    have hcw := fun b o => Below.cell (p := ⟨b, o, none⟩) h1
    go_simp; rfl
  simp only [Act.put, List.setIfInBounds_toArray, List.set_cons_succ, List.set_cons_zero, List.nil_append, List.cons_append]
  apply Run.valG (wanted_none rfl _)
  · intro w1 h1 hk
    have hg := (Fut.drew _).trans h1; have q0 := h1.cell c0; have q1 := h1.cell cn; have q2 := h1.cell cmm
    have hcw := fun b o => Below.cell (p := ⟨b, o, none⟩) h1
    go_simp; rfl
  simp only [Act.put, List.setIfInBounds_toArray, List.set_cons_succ, List.set_cons_zero, List.nil_append, List.cons_append]
  apply Run.valG (wanted_none rfl _)
  · intro w1 h1 hk
    have hg := (Fut.drew _).trans h1; have q0 := h1.cell c0; have q1 := h1.cell cn; have q2 := h1.cell cmm
    have hcw := fun b o => Below.cell (p := ⟨b, o, none⟩) h1
    go_simp; rfl
  simp only [Act.put, List.setIfInBounds_toArray, List.set_cons_succ, List.set_cons_zero, List.nil_append, List.cons_append]
  apply Run.valG (wanted_none rfl _)
  · intro w1 h1 hk
    have hg := (Fut.drew _).trans h1; have q0 := h1.cell c0; have q1 := h1.cell cn; have q2 := h1.cell cmm
    have hcw := fun b o => Below.cell (p := ⟨b, o, none⟩) h1
    go_simp; rfl
  simp only [Act.put, List.setIfInBounds_toArray, List.set_cons_succ, List.set_cons_zero, List.nil_append, List.cons_append]
  apply Run.valG (wanted_none rfl _)
  · intro w1 h1 hk
    have hg := (Fut.drew _).trans h1; have q0 := h1.cell c0; have q1 := h1.cell cn; have q2 := h1.cell cmm
    have hcw := fun b o => Below.cell (p := ⟨b, o, none⟩) h1
    go_simp; rfl
  simp only [Act.put, List.setIfInBounds_toArray, List.set_cons_succ, List.set_cons_zero, List.nil_append, List.cons_append]
  apply Run.valG (wanted_none rfl _)
  · intro w1 h1 hk
    have hg := (Fut.drew _).trans h1; have q0 := h1.cell c0; have q1 := h1.cell cn; have q2 := h1.cell cmm
    have hcw := fun b o => Below.cell (p := ⟨b, o, none⟩) h1
    go_simp; rfl
  simp only [Act.put, List.setIfInBounds_toArray, List.set_cons_succ, List.set_cons_zero, List.nil_append, List.cons_append]
  apply Run.valG (wanted_none rfl _)
  · intro w1 h1 hk
    have hg := (Fut.drew _).trans h1; have q0 := h1.cell c0; have q1 := h1.cell cn; have q2 := h1.cell cmm
    have hcw := fun b o => Below.cell (p := ⟨b, o, none⟩) h1
    go_simp; rfl
  simp only [Act.put, List.setIfInBounds_toArray, List.set_cons_succ, List.set_cons_zero, List.nil_append, List.cons_append]
  apply Run.valG (wanted_none rfl _)
  · intro w1 h1 hk
    have hg := (Fut.drew _).trans h1; have q0 := h1.cell c0; have q1 := h1.cell cn; have q2 := h1.cell cmm
    have hcw := fun b o => Below.cell (p := ⟨b, o, none⟩) h1
    go_simp; rfl
  simp only [Act.put, List.setIfInBounds_toArray, List.set_cons_succ, List.set_cons_zero, List.nil_append, List.cons_append]
  apply Run.valG (wanted_none rfl _)
  · intro w1 h1 hk
    have hg := (Fut.drew _).trans h1; have q0 := h1.cell c0; have q1 := h1.cell cn; have q2 := h1.cell cmm
    have hcw := fun b o => Below.cell (p := ⟨b, o, none⟩) h1
    go_simp; rfl
  simp only [Act.put, List.setIfInBounds_toArray, List.set_cons_succ, List.set_cons_zero, List.nil_append, List.cons_append]
  apply Run.callR (wanted_none rfl _) (by intro v w w' hf hs; exact (by obtain ⟨lb, b1, b2, b3, rfl, e, k1, k2, k3, k4⟩ := hs; exact ⟨lb, b1, b2, b3, rfl, e, hf.cell k1, hf.cell k2, hf.cell k3, k4⟩)) (fun _ _ => by go_simp; exact ⟨rfl, rfl⟩)
  · intro w1 h1 hk
    have hg := (Fut.drew _).trans h1; have q0 := h1.cell c0; have q1 := h1.cell cn; have q2 := h1.cell cmm
    refine (range_new p _ _ _).mono ?_; rintro e w' ⟨lb, rfl, e, k1, k2, k3, hf⟩; have := hg.size; exact ⟨_, rfl, hf, lb, _, _, _, rfl, e, k1, k2, k3, hg.size, by omega, by omega⟩
  intro v9
  simp only [Act.put, List.setIfInBounds_toArray, List.set_cons_succ, List.set_cons_zero, List.nil_append, List.cons_append]
  apply Run.done
  intro w2 h2 hk
  obtain ⟨f9, _⟩ := hk
  obtain ⟨lb, b1, b2, b3, rfl, elb, k1, k2, k3, g1, g2, g3⟩ := f9
  have F2 := (Fut.drew _).trans h2
  have B2 := F2.block b0
  have dn := F2.cell cn
  have dm := F2.cell cmm
  have hsz : arr.size > off + 4 := by
    have := (Array.getElem?_eq_some_iff.1 a4).1
    exact this
  have x2 := cell_at' B2 a2
  have z2 := free_at B2 (off + 2)
  have x3 := cell_at' B2 a3
  have z3 := free_at B2 (off + 3)
  have x4 := cell_at' B2 a4
  have z4 := free_at B2 (off + 4)
  have hwb : ¬ w.heap.size = bb := fun e => by have := H.out.blk; obtain ⟨arr', ty', h0, _⟩ := this; have := (Array.getElem?_eq_some_iff.1 h0).1; omega
  have hnf := fun lb => run_neq_fn (.func 35) #[] lb
  have hbs : bb < w2.heap.size := Nat.lt_of_lt_of_le hbl F2.size
  go_wp2
  go_ret
  subst elb
  obtain ⟨FV, hFV⟩ : ∃ v, Value.func (.func 35) #[] #[.pointer (some ⟨b1, 0, none⟩), .pointer (some ⟨b2, 0, none⟩), .pointer (some ⟨b3, 0, none⟩)] = v := ⟨_, rfl⟩
  rw [hFV]
  have O1 : Only (fun k => k = bb) w2 (w2.setCell ⟨bb, off + 2, none⟩ FV) := Only.set _ _ rfl
  have O2 : Only (fun k => k = bb) (w2.setCell ⟨bb, off + 2, none⟩ FV) ((w2.setCell ⟨bb, off + 2, none⟩ FV).setCell ⟨bb, off + 3, none⟩ (.int .i64 o.n)) := Only.set _ _ rfl
  have O3 : Only (fun k => k = bb) ((w2.setCell ⟨bb, off + 2, none⟩ FV).setCell ⟨bb, off + 3, none⟩ (.int .i64 o.n)) (((w2.setCell ⟨bb, off + 2, none⟩ FV).setCell ⟨bb, off + 3, none⟩ (.int .i64 o.n)).setCell ⟨bb, off + 4, none⟩ (.int .i64 o.m)) := Only.set _ _ rfl
  have OO := (O1.trans O2).trans O3
  have Bf := set_blk (i := off + 4) (v := .int .i64 o.m) (set_blk (i := off + 3) (v := .int .i64 o.n) (set_blk (i := off + 2) (v := FV) B2))
  generalize ((w2.setCell ⟨bb, off + 2, none⟩ FV).setCell ⟨bb, off + 3, none⟩ (.int .i64 o.n)).setCell ⟨bb, off + 4, none⟩ (.int .i64 o.m) = wf at OO Bf ⊢
  have hs2 := F2.size
  have hsf := OO.size
  have hnt : ∀ k, FT k → ¬ k = bb := fun k hk e => H.out.nb (H.out.fO _ (e ▸ hk))
  have hnd : ∀ k, FD k → ¬ k = bb := fun k hk e => H.out.nb (H.out.dO _ (e ▸ hk))
  have HW2 := HW.out.fut F2
  refine ⟨rfl, S, more O w wf, FV, o.n, o.m, FT, FD, ⟨⟨_, ty, Bf, ?_, ?_, ?_, ?_, ?_⟩, HW2.T.only OO hnt, HW2.D.only OO hnd, fun k hk => .inl (H.out.fO k hk), fun k hk => .inl (H.out.dO k hk), H.out.dis, fun hk => hk.elim H.out.nb fun h => ?_, more_lt H.out.lt (by omega), by have := H.out.base; omega, .inr ⟨_, hFV.symm, b1, b2, b3, rfl, OO.cell k1 ?_, OO.cell k2 ?_, OO.cell k3 ?_, fun j hj => ?_⟩⟩, by omega, by omega, id, fun k hk => hk.imp id fun h => h.1, ((Only.fut F1).trans (Only.fut F2)).trans (OO.mono (S' := fun k => O k ∨ k = bb) fun k _ hk => .inr hk) |>.mono fun k _ hk => hk, fun arr1 ty1 h1 => ?_⟩
  · simp [Array.getElem?_setIfInBounds, a0]
  · simp [Array.getElem?_setIfInBounds, a1]
  · simp [Array.getElem?_setIfInBounds]; omega
  · simp [Array.getElem?_setIfInBounds]; omega
  · simp [Array.getElem?_setIfInBounds]; omega
  · obtain ⟨arr', ty', h0, _⟩ := H.out.blk
    have := (Array.getElem?_eq_some_iff.1 h0).1
    omega
  · show ¬ b1 = bb; omega
  · show ¬ b2 = bb; omega
  · show ¬ b3 = bb; omega
  · have hge : W1.heap.size ≤ j ∧ j < wf.heap.size := by
      have l1 := lt_of_cell k1
      have l2 := lt_of_cell k2
      have l3 := lt_of_cell k3
      simp only at l1 l2 l3
      rcases hj with rfl | rfl | rfl <;> omega
    exact ⟨.inr (by omega), fun h => by have := H.out.T.lt j h; omega, fun h => by have := H.out.D.lt j h; omega⟩
  · have e := (F1.block h1).symm.trans b0
    injection e with e
    injection e with e1 e2
    subst e1 e2
    exact ⟨_, Bf, fun j hj => by rw [Array.getElem?_setIfInBounds_ne (by omega), Array.getElem?_setIfInBounds_ne (by omega), Array.getElem?_setIfInBounds_ne (by omega)]⟩
end
end Go.Proofs.Ytcekphjcmippoaa
