/- Room -/
import Derived.Test.YtcekphjcmippoaaC20
/- room: two clones; one grows, one shrinks; all three are asked. -/
namespace Go.Proofs.Ytcekphjcmippoaa
open Go.RowKit Go.WideMaps
set_option linter.unusedSimpArgs false
set_option linter.unusedVariables false

def opA (x : Rw) : OpL := ⟨0, 1, 0, 0, 0, x⟩
def opB (x : Rw) : OpL := ⟨0, 4, 0, 0, 0, x⟩
def opC : OpL := ⟨0, 6, 0, 1099511627776, 0, zeroRow⟩
section
variable {B : Nat} {w : World} {bb off : Nat} {S : Option RSt} {O FT FD : Nat → Prop} {p q : Option Addr} {kv : Value} {f t : Int}
theorem rows_clone (S : Option RSt) : rowsS (cloneS S) = rowsS S := by cases S <;> rfl
theorem gone_clone (S : Option RSt) : goneS (cloneS S) = 0 := by cases S <;> rfl
set_option maxHeartbeats 3200000 in
set_option maxRecDepth 100000 in
theorem room_any (h : BothAt B w bb off S O p q kv f t FT FD) (hl : (rowsS S).length + 1 ≤ 1353244080301) (hgn : goneS S < 4611686018427387904) (o : OpL) (ho : o.ok) :
    Calls Try.prog 49 #[.pointer (some ⟨bb, off, none⟩), o.val] w (Did B w bb off S O p q) := by
  have H := Lib.hid h
  obtain ⟨c0, c1, _⟩ := h.cell
  have hro := ho.row
  have hrow := op_row (w := w) (t := 67) hro
  have F1 := Fut.alloc w (.cells o.cells.toArray 67)
  have hB0 := h.base
  have hr0 : (rowsS S).length ≤ 1353244080301 := by omega
  clear h
  unfold OpL.val
  go_enter Try.func49, Try.ntmps49
  go_wp2_with fail
  obtain ⟨W1, hW⟩ : ∃ W1, w.alloc (.cells o.cells.toArray 67) = W1 := ⟨_, rfl⟩
  rw [hW] at hrow F1 ⊢
  clear hW
  replace c0 := F1.cell c0
  replace c1 := F1.cell c1
  have HW := Lib.hid (H.out.fut F1)
  have hs1 := F1.size
  letI i1 : OnL.Mut := OnL.Mut.link 9 14 19 (Linked B W1 S) fun hf hk => Linked.fut hk hf
  refine OnL.wp_graph 12 [.d, .d, .d, .d, .r (fun v w => ClT B W1 S v w), .d, .d, .d, .d, .r (fun v w => True), .r (fun v w => Joined B W1 S v w), .r (fun v w => ∃ b, v = .pointer (some ⟨b, 0, none⟩) ∧ W1.heap.size ≤ b ∧ w.heap[b]? = some (.cells (bothCells none none) 60 (0, 0)))] (by kernel_rfl) (by kernel_rfl) (by kernel_rfl) (.inl (by kernel_rfl)) OnL.link_dep ?_
  simp only [List.take_succ_cons, List.take_zero, List.drop_succ_cons, List.drop_zero, Exs]
  iterate 8 apply Exists.intro
  apply OnL.Run.valG (.inl (Nat.ne_of_beq_eq_false rfl)) (wanted_none rfl _)
  · intro w1 h1 hk
    replace h1 : Fut _ _ := h1
    have hg := (Fut.drew _).trans h1; have q0 := h1.cell c0; have q1 := h1.cell c1
    go_simp; rfl
  simp only [Act.put, List.setIfInBounds_toArray, List.set_cons_succ, List.set_cons_zero, List.nil_append, List.cons_append]
  apply OnL.Run.valG (.inl (Nat.ne_of_beq_eq_false rfl)) (wanted_none rfl _)
  · intro w1 h1 hk
    replace h1 : Fut _ _ := h1
    have hg := (Fut.drew _).trans h1; have q0 := h1.cell c0; have q1 := h1.cell c1
    go_simp; rfl
  simp only [Act.put, List.setIfInBounds_toArray, List.set_cons_succ, List.set_cons_zero, List.nil_append, List.cons_append]
  apply OnL.Run.valG (.inl (Nat.ne_of_beq_eq_false rfl)) (wanted_none rfl _)
  · intro w1 h1 hk
    replace h1 : Fut _ _ := h1
    have hg := (Fut.drew _).trans h1; have q0 := h1.cell c0; have q1 := h1.cell c1
    go_simp; rfl
  simp only [Act.put, List.setIfInBounds_toArray, List.set_cons_succ, List.set_cons_zero, List.nil_append, List.cons_append]
  apply OnL.Run.valG (.inl (Nat.ne_of_beq_eq_false rfl)) (wanted_none rfl _)
  · intro w1 h1 hk
    replace h1 : Fut _ _ := h1
    have hg := (Fut.drew _).trans h1; have q0 := h1.cell c0; have q1 := h1.cell c1
    go_simp; rfl
  simp only [Act.put, List.setIfInBounds_toArray, List.set_cons_succ, List.set_cons_zero, List.nil_append, List.cons_append]
  apply OnL.Run.callR (.inl (Nat.ne_of_beq_eq_false rfl)) (wanted_none rfl _) (by intro v w w' hf hs; replace hf : Fut _ _ := hf; exact ClT.fut hs hf) (fun _ _ => by go_simp; exact ⟨rfl, rfl⟩)
  · intro w1 h1 hk
    replace h1 : Fut _ _ := h1
    have hg := (Fut.drew _).trans h1; have q0 := h1.cell c0; have q1 := h1.cell c1
    refine (T_clone (HW.out.fut hg).T hr0).mono ?_; rintro e w' ⟨p', rfl, hT, hn, hf⟩; exact ⟨_, rfl, hf, clT_of hT hg.size (HW.out.fut hg).base hn⟩
  intro v4
  simp only [Act.put, List.setIfInBounds_toArray, List.set_cons_succ, List.set_cons_zero, List.nil_append, List.cons_append]
  apply OnL.Run.valG (.inl (Nat.ne_of_beq_eq_false rfl)) (wanted_none rfl _)
  · intro w1 h1 hk
    replace h1 : Fut _ _ := h1
    have hg := (Fut.drew _).trans h1; have q0 := h1.cell c0; have q1 := h1.cell c1
    go_simp; rfl
  simp only [Act.put, List.setIfInBounds_toArray, List.set_cons_succ, List.set_cons_zero, List.nil_append, List.cons_append]
  apply OnL.Run.valG (.inl (Nat.ne_of_beq_eq_false rfl)) (wanted_none rfl _)
  · intro w1 h1 hk
    replace h1 : Fut _ _ := h1
    have hg := (Fut.drew _).trans h1; have q0 := h1.cell c0; have q1 := h1.cell c1
    go_simp; rfl
  simp only [Act.put, List.setIfInBounds_toArray, List.set_cons_succ, List.set_cons_zero, List.nil_append, List.cons_append]
  apply OnL.Run.valG (.inl (Nat.ne_of_beq_eq_false rfl)) (wanted_none rfl _)
  · intro w1 h1 hk
    replace h1 : Fut _ _ := h1
    have hg := (Fut.drew _).trans h1; have q0 := h1.cell c0; have q1 := h1.cell c1
    go_simp; rfl
  simp only [Act.put, List.setIfInBounds_toArray, List.set_cons_succ, List.set_cons_zero, List.nil_append, List.cons_append]
  apply OnL.Run.valG (.inl (Nat.ne_of_beq_eq_false rfl)) (wanted_none rfl _)
  · intro w1 h1 hk
    replace h1 : Fut _ _ := h1
    have hg := (Fut.drew _).trans h1; have q0 := h1.cell c0; have q1 := h1.cell c1
    go_simp; rfl
  simp only [Act.put, List.setIfInBounds_toArray, List.set_cons_succ, List.set_cons_zero, List.nil_append, List.cons_append]
  apply OnL.Run.linkR (wanted_none rfl _) (by intro v w w' hf hs; replace hf : Fut _ _ := hf; exact trivial) (fun _ _ => by go_simp; exact ⟨rfl, rfl⟩)
  · intro w1 h1 hk
    replace h1 : Fut _ _ := h1
    have f4 := Facts.get hk 0 rfl (by kernel_rfl)
    have hg := (Fut.drew _).trans h1; have q0 := h1.cell c0; have q1 := h1.cell c1
    refine (D_clone (HW.out.fut hg).D hr0).mono ?_; rintro e w' ⟨q', rfl, hD, hn, hf⟩; exact ⟨_, rfl, hf, linked_of f4 hD hf hg.size (HW.out.fut hg).base hn, trivial⟩
  intro v9
  simp only [Act.put, List.setIfInBounds_toArray, List.set_cons_succ, List.set_cons_zero, List.nil_append, List.cons_append]
  apply OnL.Run.joinR (.inl (Nat.ne_of_beq_eq_false rfl)) (by kernel_rfl) (wanted_none rfl _) (by intro v w w' hf hs; replace hf : Fut _ _ := hf; exact Joined.fut hs hf)
  · intro w1 h1 hk hJ
    replace h1 : Fut _ _ := h1
    have f4 := Facts.get hk 0 rfl (by kernel_rfl)
    have f9 := Facts.get hk 1 rfl (by kernel_rfl)
    have hg := (Fut.drew _).trans h1; have q0 := h1.cell c0; have q1 := h1.cell c1
    obtain ⟨p', q', G1, G2, e1, e2, hP⟩ := (show Linked B W1 S _ _ _ from hJ); exact ⟨_, _, exec_build_both rfl e1 e2, Fut.refl _, p', q', G1, G2, rfl, hP⟩
  intro v10
  simp only [Act.put, List.setIfInBounds_toArray, List.set_cons_succ, List.set_cons_zero, List.nil_append, List.cons_append]
  apply OnL.Run.valR (.inl (Nat.ne_of_beq_eq_false rfl)) (wanted_none rfl _) (by intro v w w' hf hs; replace hf : Fut _ _ := hf; exact (by obtain ⟨b, rfl, hb, h⟩ := hs; exact ⟨b, rfl, hb, hf.block h⟩))
  · intro w1 h1 hk
    replace h1 : Fut _ _ := h1
    have hg := (Fut.drew _).trans h1; have q0 := h1.cell c0; have q1 := h1.cell c1
    exact ⟨_, _, exec_alloc_both rfl, Fut.alloc _ _, _, rfl, hg.size, heap_alloc_new _ _⟩
  intro v11
  simp only [Act.put, List.setIfInBounds_toArray, List.set_cons_succ, List.set_cons_zero, List.nil_append, List.cons_append]
  apply OnL.Run.done
  intro w2 h2 hk hJ
  obtain ⟨f4, f9, f10, f11, _⟩ := hk
  replace h2 : Fut _ _ := h2
  clear i1 hJ f9
  obtain ⟨p1, q1, G1, G2, rfl, hP1⟩ := f10
  obtain ⟨b1, rfl, hb1, hZ1⟩ := f11
  have g2 := (Fut.drew _).trans h2
  refine wpList_store_both (wanted_none rfl _) _ _ rfl rfl rfl hZ1 rfl ?_
  have HC := Lib.hid (both_of hP1 hZ1 (Nat.le_trans HW.out.base g2.size))
  have O3 : Only (fun k => k = b1) w2 (w2.putObj b1 (.cells (bothCells p1 q1) 60 (0, 0))) := Only.put (S := fun k => k = b1) _ _ rfl
  have hZ1' : (w2.putObj b1 (.cells (bothCells p1 q1) 60 (0, 0))).heap[b1]? = some (.cells (bothCells p1 q1) 60 (0, 0)) := World.putObj_heap_same (Array.getElem?_eq_some_iff.1 hZ1).1
  have hG1 : ∀ k, G1 k ∨ G2 k → W1.heap.size ≤ k := fun k hk => (hP1.2.2.2.1 k hk).1
  have hn1 := hP1.2.2.2.2
  clear hP1
  obtain ⟨w3, hw3⟩ : ∃ w3, w2.putObj b1 (.cells (bothCells p1 q1) 60 (0, 0)) = w3 := ⟨_, rfl⟩
  rw [hw3] at HC O3 hZ1' ⊢
  clear hw3
  have F3 : Fut W1 w3 := ((Only.fut g2).trans O3).toFut fun k hk => hk ▸ hb1
  have hlc : ∀ k, (G1 k ∨ G2 k) ∨ k = b1 → W1.heap.size ≤ k ∧ k < w3.heap.size := fun k hk => hk.elim (fun hk => ⟨hG1 k hk, HC.out.lt k hk⟩) fun hk => by subst hk; exact ⟨hb1, (Array.getElem?_eq_some_iff.1 hZ1').1⟩
  have d0 := F3.cell c0
  have d1 := F3.cell c1
  have hrow3 := hrow.fut F3
  have HW3 := Lib.hid (HW.out.fut F3)
  have hs3 := F3.size
  clear O3 g2 h2 hZ1
  go_wp2_with fail
  letI i2 : OnL.Mut := OnL.Mut.link 9 25 30 (Linked B w3 S) fun hf hk => Linked.fut hk hf
  refine OnL.wp_graph 12 [.d, .d, .d, .d, .r (fun v w => ClT B w3 S v w), .d, .d, .d, .d, .r (fun v w => True), .r (fun v w => Joined B w3 S v w), .r (fun v w => ∃ b, v = .pointer (some ⟨b, 0, none⟩) ∧ w3.heap.size ≤ b ∧ w.heap[b]? = some (.cells (bothCells none none) 60 (0, 0)))] (by kernel_rfl) (by kernel_rfl) (by kernel_rfl) (.inl (by kernel_rfl)) OnL.link_dep ?_
  simp only [List.take_succ_cons, List.take_zero, List.drop_succ_cons, List.drop_zero, Exs]
  iterate 8 apply Exists.intro
  apply OnL.Run.valG (.inl (Nat.ne_of_beq_eq_false rfl)) (wanted_none rfl _)
  · intro w1 h1 hk
    replace h1 : Fut _ _ := h1
    have hg := (Fut.drew _).trans h1; have q0 := h1.cell d0; have q1 := h1.cell d1
    go_simp; rfl
  simp only [Act.put, List.setIfInBounds_toArray, List.set_cons_succ, List.set_cons_zero, List.nil_append, List.cons_append]
  apply OnL.Run.valG (.inl (Nat.ne_of_beq_eq_false rfl)) (wanted_none rfl _)
  · intro w1 h1 hk
    replace h1 : Fut _ _ := h1
    have hg := (Fut.drew _).trans h1; have q0 := h1.cell d0; have q1 := h1.cell d1
    go_simp; rfl
  simp only [Act.put, List.setIfInBounds_toArray, List.set_cons_succ, List.set_cons_zero, List.nil_append, List.cons_append]
  apply OnL.Run.valG (.inl (Nat.ne_of_beq_eq_false rfl)) (wanted_none rfl _)
  · intro w1 h1 hk
    replace h1 : Fut _ _ := h1
    have hg := (Fut.drew _).trans h1; have q0 := h1.cell d0; have q1 := h1.cell d1
    go_simp; rfl
  simp only [Act.put, List.setIfInBounds_toArray, List.set_cons_succ, List.set_cons_zero, List.nil_append, List.cons_append]
  apply OnL.Run.valG (.inl (Nat.ne_of_beq_eq_false rfl)) (wanted_none rfl _)
  · intro w1 h1 hk
    replace h1 : Fut _ _ := h1
    have hg := (Fut.drew _).trans h1; have q0 := h1.cell d0; have q1 := h1.cell d1
    go_simp; rfl
  simp only [Act.put, List.setIfInBounds_toArray, List.set_cons_succ, List.set_cons_zero, List.nil_append, List.cons_append]
  apply OnL.Run.callR (.inl (Nat.ne_of_beq_eq_false rfl)) (wanted_none rfl _) (by intro v w w' hf hs; replace hf : Fut _ _ := hf; exact ClT.fut hs hf) (fun _ _ => by go_simp; exact ⟨rfl, rfl⟩)
  · intro w1 h1 hk
    replace h1 : Fut _ _ := h1
    have hg := (Fut.drew _).trans h1; have q0 := h1.cell d0; have q1 := h1.cell d1
    refine (T_clone (HW3.out.fut hg).T hr0).mono ?_; rintro e w' ⟨p', rfl, hT, hn, hf⟩; exact ⟨_, rfl, hf, clT_of hT hg.size (HW3.out.fut hg).base hn⟩
  intro v4
  simp only [Act.put, List.setIfInBounds_toArray, List.set_cons_succ, List.set_cons_zero, List.nil_append, List.cons_append]
  apply OnL.Run.valG (.inl (Nat.ne_of_beq_eq_false rfl)) (wanted_none rfl _)
  · intro w1 h1 hk
    replace h1 : Fut _ _ := h1
    have hg := (Fut.drew _).trans h1; have q0 := h1.cell d0; have q1 := h1.cell d1
    go_simp; rfl
  simp only [Act.put, List.setIfInBounds_toArray, List.set_cons_succ, List.set_cons_zero, List.nil_append, List.cons_append]
  apply OnL.Run.valG (.inl (Nat.ne_of_beq_eq_false rfl)) (wanted_none rfl _)
  · intro w1 h1 hk
    replace h1 : Fut _ _ := h1
    have hg := (Fut.drew _).trans h1; have q0 := h1.cell d0; have q1 := h1.cell d1
    go_simp; rfl
  simp only [Act.put, List.setIfInBounds_toArray, List.set_cons_succ, List.set_cons_zero, List.nil_append, List.cons_append]
  apply OnL.Run.valG (.inl (Nat.ne_of_beq_eq_false rfl)) (wanted_none rfl _)
  · intro w1 h1 hk
    replace h1 : Fut _ _ := h1
    have hg := (Fut.drew _).trans h1; have q0 := h1.cell d0; have q1 := h1.cell d1
    go_simp; rfl
  simp only [Act.put, List.setIfInBounds_toArray, List.set_cons_succ, List.set_cons_zero, List.nil_append, List.cons_append]
  apply OnL.Run.valG (.inl (Nat.ne_of_beq_eq_false rfl)) (wanted_none rfl _)
  · intro w1 h1 hk
    replace h1 : Fut _ _ := h1
    have hg := (Fut.drew _).trans h1; have q0 := h1.cell d0; have q1 := h1.cell d1
    go_simp; rfl
  simp only [Act.put, List.setIfInBounds_toArray, List.set_cons_succ, List.set_cons_zero, List.nil_append, List.cons_append]
  apply OnL.Run.linkR (wanted_none rfl _) (by intro v w w' hf hs; replace hf : Fut _ _ := hf; exact trivial) (fun _ _ => by go_simp; exact ⟨rfl, rfl⟩)
  · intro w1 h1 hk
    replace h1 : Fut _ _ := h1
    have f4 := Facts.get hk 0 rfl (by kernel_rfl)
    have hg := (Fut.drew _).trans h1; have q0 := h1.cell d0; have q1 := h1.cell d1
    refine (D_clone (HW3.out.fut hg).D hr0).mono ?_; rintro e w' ⟨q', rfl, hD, hn, hf⟩; exact ⟨_, rfl, hf, linked_of f4 hD hf hg.size (HW3.out.fut hg).base hn, trivial⟩
  intro v9
  simp only [Act.put, List.setIfInBounds_toArray, List.set_cons_succ, List.set_cons_zero, List.nil_append, List.cons_append]
  apply OnL.Run.joinR (.inl (Nat.ne_of_beq_eq_false rfl)) (by kernel_rfl) (wanted_none rfl _) (by intro v w w' hf hs; replace hf : Fut _ _ := hf; exact Joined.fut hs hf)
  · intro w1 h1 hk hJ
    replace h1 : Fut _ _ := h1
    have f4 := Facts.get hk 0 rfl (by kernel_rfl)
    have f9 := Facts.get hk 1 rfl (by kernel_rfl)
    have hg := (Fut.drew _).trans h1; have q0 := h1.cell d0; have q1 := h1.cell d1
    obtain ⟨p', q', G1, G2, e1, e2, hP⟩ := (show Linked B w3 S _ _ _ from hJ); exact ⟨_, _, exec_build_both rfl e1 e2, Fut.refl _, p', q', G1, G2, rfl, hP⟩
  intro v10
  simp only [Act.put, List.setIfInBounds_toArray, List.set_cons_succ, List.set_cons_zero, List.nil_append, List.cons_append]
  apply OnL.Run.valR (.inl (Nat.ne_of_beq_eq_false rfl)) (wanted_none rfl _) (by intro v w w' hf hs; replace hf : Fut _ _ := hf; exact (by obtain ⟨b, rfl, hb, h⟩ := hs; exact ⟨b, rfl, hb, hf.block h⟩))
  · intro w1 h1 hk
    replace h1 : Fut _ _ := h1
    have hg := (Fut.drew _).trans h1; have q0 := h1.cell d0; have q1 := h1.cell d1
    exact ⟨_, _, exec_alloc_both rfl, Fut.alloc _ _, _, rfl, hg.size, heap_alloc_new _ _⟩
  intro v11
  simp only [Act.put, List.setIfInBounds_toArray, List.set_cons_succ, List.set_cons_zero, List.nil_append, List.cons_append]
  apply OnL.Run.done
  intro w4 h4 hk hJ
  obtain ⟨f4, f9, f10, f11, _⟩ := hk
  replace h4 : Fut _ _ := h4
  clear i2 hJ f9
  obtain ⟨p2, q2, G3, G4, rfl, hP2⟩ := f10
  obtain ⟨b2, rfl, hb2, hZ2⟩ := f11
  have g4 := (Fut.drew _).trans h4
  have HD := Lib.hid (both_of hP2 hZ2 (Nat.le_trans HW3.out.base g4.size))
  have O5 : Only (fun k => k = b2) w4 (w4.putObj b2 (.cells (bothCells p2 q2) 60 (0, 0))) := Only.put (S := fun k => k = b2) _ _ rfl
  have hZ2' : (w4.putObj b2 (.cells (bothCells p2 q2) 60 (0, 0))).heap[b2]? = some (.cells (bothCells p2 q2) 60 (0, 0)) := World.putObj_heap_same (Array.getElem?_eq_some_iff.1 hZ2).1
  have hG3 : ∀ k, G3 k ∨ G4 k → w3.heap.size ≤ k := fun k hk => (hP2.2.2.2.1 k hk).1
  have hn2 := hP2.2.2.2.2
  have F5 : Fut w3 (w4.putObj b2 (.cells (bothCells p2 q2) 60 (0, 0))) := ((Only.fut g4).trans O5).toFut fun k hk => hk ▸ hb2
  have e1 := cell_at (F5.block hZ1') 0 (.pointer p1) rfl
  have e2 := cell_at (F5.block hZ1') 1 (.pointer q1) rfl
  have e3 := cell_at hZ2' 0 (.pointer p2) rfl
  have e4 := cell_at hZ2' 1 (.pointer q2) rfl
  have hrow5 := hrow3.fut F5
  have hpp : (p1 = none ∧ q1 = none ∧ p2 = none ∧ q2 = none) ∨ ∃ a1 a2 a3 a4, p1 = some a1 ∧ q1 = some a2 ∧ p2 = some a3 ∧ q2 = some a4 := by
    cases S with
    | none => exact .inl ⟨hn1.1.2 rfl, hn1.2.2 rfl, hn2.1.2 rfl, hn2.2.2 rfl⟩
    | some s =>
      have hne : ∀ {r : Option Addr}, (r = none ↔ some s = none) → ∃ a, r = some a := fun {r} hr => by
        cases r with
        | none => exact absurd (hr.1 rfl) (by simp)
        | some a => exact ⟨a, rfl⟩
      obtain ⟨a1, h1⟩ := hne hn1.1
      obtain ⟨a2, h2⟩ := hne hn1.2
      obtain ⟨a3, h3⟩ := hne hn2.1
      obtain ⟨a4, h4⟩ := hne hn2.2
      exact .inr ⟨a1, a2, a3, a4, h1, h2, h3, h4⟩
  clear hP2 hn1 hn2 hs1 d0 d1 c0 c1 hB0
  refine wpList_store_both (wanted_none rfl _) _ _ rfl rfl rfl hZ2 rfl ?_
  have hld : ∀ k, (G3 k ∨ G4 k) ∨ k = b2 → w3.heap.size ≤ k ∧ k < (w4.putObj b2 (.cells (bothCells p2 q2) 60 (0, 0))).heap.size := fun k hk => hk.elim (fun hk => ⟨hG3 k hk, HD.out.lt k hk⟩) fun hk => by subst hk; exact ⟨hb2, (Array.getElem?_eq_some_iff.1 hZ2').1⟩
  obtain ⟨w5, hw5⟩ : ∃ w5, w4.putObj b2 (.cells (bothCells p2 q2) 60 (0, 0)) = w5 := ⟨_, rfl⟩
  rw [hw5] at HD O5 hZ2' F5 e1 e2 e3 e4 hrow5 hld ⊢
  clear hw5
  have HC5 := Lib.hid (HC.out.fut F5)
  have HW5 := Lib.hid (HW3.out.fut F5)
  have FF := (F1.trans F3).trans F5
  have hs5 := FF.size
  have hs53 := F5.size
  clear O5 g4 h4 hZ2 hZ1' hZ2' hG1 hG3 HW3 HW HC hrow hrow3 f4
  rcases hpp with ⟨hp1, hq1, hp2, hq2⟩ | ⟨a1, a2, a3, a4, hp1, hq1, hp2, hq2⟩
  · subst hp1 hq1 hp2 hq2
    have hopA : ∀ o2 o3, OpAt (((w5.alloc (.cells (OpL.cells ⟨0, 1, 0, 0, 0, o.row⟩).toArray 67)).alloc o2).alloc o3) w5.heap.size 0 ⟨0, 1, 0, 0, 0, o.row⟩ := fun o2 o3 => ((OpAt.new w5 _ _).fut (Fut.alloc _ _)).fut (Fut.alloc _ _)
    go_wp2_with (first | (refine wpList_of_run (wanted_none rfl _) (exec_load_R rowTy _ rfl rfl hrow5) ?_) | (refine wpList_of_run (wanted_none rfl _) (exec_load_R rowTy _ rfl rfl (hrow5.fut (Fut.alloc _ _))) ?_) | (refine wpList_of_run (wanted_none rfl _) (exec_build_kr _ rfl rfl hro) ?_) | (refine wpList_of_run (wanted_none rfl _) (exec_build_rg rfl) ?_) | (refine wpList_store_Op (wanted_none rfl _) _ _ rfl rfl rfl (by simp) rfl hro ?_) | (refine wpList_store_Op (wanted_none rfl _) _ _ rfl rfl rfl (by simp) rfl zeroRow_ok ?_) | (refine wpList_of_run (wanted_none rfl _) (exec_load_Op _ rfl rfl (hopA _ _) hro) ?_))
    have q1 := ((OpAt.new w5 67 (opA o.row)).fut (Fut.alloc _ (.cells (opB o.row).cells.toArray 67))).fut (Fut.alloc _ (.cells opC.cells.toArray 67))
    have q2 := (OpAt.new (w5.alloc (.cells (opA o.row).cells.toArray 67)) 67 (opB o.row)).fut (Fut.alloc _ (.cells opC.cells.toArray 67))
    have q3 := OpAt.new ((w5.alloc (.cells (opA o.row).cells.toArray 67)).alloc (.cells (opB o.row).cells.toArray 67)) 67 opC
    have F8 : Fut w5 (((w5.alloc (.cells (opA o.row).cells.toArray 67)).alloc (.cells (opB o.row).cells.toArray 67)).alloc (.cells opC.cells.toArray 67)) := ((Fut.alloc _ _).trans (Fut.alloc _ _)).trans (Fut.alloc _ _)
    have z8 : (((w5.alloc (.cells (opA o.row).cells.toArray 67)).alloc (.cells (opB o.row).cells.toArray 67)).alloc (.cells opC.cells.toArray 67)).heap.size = w5.heap.size + 3 := by simp
    have z6 : (w5.alloc (.cells (opA o.row).cells.toArray 67)).heap.size = w5.heap.size + 1 := by simp
    have z7 : ((w5.alloc (.cells (opA o.row).cells.toArray 67)).alloc (.cells (opB o.row).cells.toArray 67)).heap.size = w5.heap.size + 1 + 1 := by simp
    rw [z6] at q2
    rw [z7] at q3
    obtain ⟨w8, hw8⟩ : ∃ W, ((w5.alloc (.cells (opA o.row).cells.toArray 67)).alloc (.cells (opB o.row).cells.toArray 67)).alloc (.cells opC.cells.toArray 67) = W := ⟨_, rfl⟩
    rw [hw8] at q1 q2 q3 F8 z8
    change Calls _ _ _ (((w5.alloc (.cells (opA o.row).cells.toArray 67)).alloc (.cells (opB o.row).cells.toArray 67)).alloc (.cells opC.cells.toArray 67)) _
    rw [hw8]
    clear hw8 z6 z7 hopA
    have Z8 := Lib.hid z8
    clear z8
    have HC8 := Lib.hid (HC5.out.fut F8)
    have HD8 := Lib.hid (HD.out.fut F8)
    have HW8 := Lib.hid (HW5.out.fut F8)
    have F08 := FF.trans F8
    have hOw : ∀ k, O k → k < w.heap.size := H.out.lt
    have hbw : bb < w.heap.size := by
      obtain ⟨arr, ty, h0, _⟩ := H.out.blk
      exact (Array.getElem?_eq_some_iff.1 h0).1
    have hWW := F1.size
    have e5 := F8.size
    clear e1 e2 e3 e4 hrow5 F1 F3 F5 FF HC5 HD HW5
    have hcb : ∀ k, (G1 k ∨ G2 k) ∨ k = b1 → w.heap.size ≤ k ∧ k < w3.heap.size := fun k hk => ⟨Nat.le_trans hWW (hlc k hk).1, (hlc k hk).2⟩
    refine (does_add HC8.out (by rw [rows_clone]; omega) (by rw [gone_clone]; omega) (opA o.row) ⟨hro, (by show (0 : Nat) < 2 ^ 32; decide)⟩ rfl).mono ?_
    rintro e w9 ⟨rfl, S1, O1, kv1, f1, t1, FT1, FD1, hC1, hl1, hg1, -, hO1, hOn1, -⟩
    rw [rows_clone] at hl1
    rw [gone_clone] at hg1
    have s9 := hOn1.size
    have hO1' : ∀ k, O1 k ∨ k = b1 → (w.heap.size ≤ k ∧ k < w3.heap.size) ∨ (w8.heap.size ≤ k ∧ k < w9.heap.size) := fun k hk => hk.elim (fun hk => (hO1 k hk).elim (fun h => .inl (hcb k (.inl h))) fun h => .inr ⟨h, hC1.lt k hk⟩) fun hk => .inl (hcb k (.inr hk))
    have HC9 := Lib.hid hC1
    have HD9 := Lib.hid (HD8.out.only hOn1 (fun k hk hn => by have := hld k (.inl hk); have := hcb k hn; omega) (fun hn => by have := hld b2 (.inr rfl); have := hcb b2 hn; omega))
    have HW9 := Lib.hid (HW8.out.only hOn1 (fun k hk hn => by have := hOw k hk; have := hcb k hn; omega) (fun hn => by have := hcb bb hn; omega))
    have F09 : Fut w w9 := ((Only.fut F08).trans hOn1).toFut fun k hk => (hcb k hk).1
    have r2 := q2.only hOn1 fun hn => by have := hcb _ hn; omega
    have r3 := q3.only hOn1 fun hn => by have := hcb _ hn; omega
    clear hC1 hOn1 HC8 HD8 HW8 F08 q1 q2 q3 F8 hO1
    go_wp2_with (first | (refine wpList_of_run (by go_simp) (exec_load_Op _ rfl rfl r2 hro) ?_))
    refine (does_remove HD9.out (by rw [rows_clone]; omega) (by rw [gone_clone]; omega) (opB o.row) ⟨hro, (by show (0 : Nat) < 2 ^ 32; decide)⟩ rfl).mono ?_
    rintro e w10 ⟨rfl, S2, O2, kv2, f2, t2, FT2, FD2, hD2, hl2, hg2, -, hO2, hOn2, -⟩
    rw [rows_clone] at hl2
    rw [gone_clone] at hg2
    have s10 := hOn2.size
    have hdb : ∀ k, (G3 k ∨ G4 k) ∨ k = b2 → w3.heap.size ≤ k ∧ k < w5.heap.size := hld
    have hw3 : w.heap.size ≤ w3.heap.size := Nat.le_trans hWW hs3
    have hO2' : ∀ k, O2 k ∨ k = b2 → (w3.heap.size ≤ k ∧ k < w5.heap.size) ∨ (w9.heap.size ≤ k ∧ k < w10.heap.size) := fun k hk => hk.elim (fun hk => (hO2 k hk).elim (fun h => .inl (hdb k (.inl h))) fun h => .inr ⟨h, hD2.lt k hk⟩) fun hk => .inl (hdb k (.inr hk))
    have hC10 := Lib.hid (HC9.out.only hOn2 (fun k hk hn => by have := hO1' k (.inl hk); have := hdb k hn; omega) (fun hn => by have := hcb b1 (.inr rfl); have := hdb b1 hn; omega))
    have hW10 := Lib.hid (HW9.out.only hOn2 (fun k hk hn => by have := hOw k hk; have := hdb k hn; omega) (fun hn => by have := hdb bb hn; omega))
    have F10 : Fut w w10 := ((Only.fut F09).trans hOn2).toFut fun k hk => Nat.le_trans hw3 (hdb k hk).1
    have r4 := r3.only hOn2 fun hn => by have := hdb _ hn; omega
    have hD10 := Lib.hid hD2
    clear hD2 hOn2 HC9 HD9 HW9 F09 r2 r3 hO2
    go_wp2_with (first | (refine wpList_of_run (by go_simp) (exec_load_Op _ rfl rfl r4 zeroRow_ok) ?_))
    refine (does_asks hC10.out (by omega) (by omega) opC ⟨zeroRow_ok, (by show (0 : Nat) < 2 ^ 32; decide)⟩ rfl rfl rfl rfl rfl rfl (fun h => absurd (show (6 : Int) = 9 from h) (by decide))).mono ?_
    rintro e w11 ⟨rfl, S3, O3, kv3, f3, t3, FT3, FD3, hC3, -, -, -, hO3, hOn3, -⟩
    have s11 := hOn3.size
    have hO3' : ∀ k, O3 k ∨ k = b1 → (w.heap.size ≤ k ∧ k < w3.heap.size) ∨ (w8.heap.size ≤ k ∧ k < w9.heap.size) ∨ (w10.heap.size ≤ k ∧ k < w11.heap.size) := fun k hk => hk.elim (fun hk => (hO3 k hk).elim (fun h => (hO1' k (.inl h)).imp id .inl) fun h => .inr (.inr ⟨h, hC3.lt k hk⟩)) fun hk => .inl (hcb k (.inr hk))
    have hD11 := Lib.hid (hD10.out.only hOn3 (fun k hk hn => by have := hO2' k (.inl hk); have := hO1' k hn; omega) (fun hn => by have := hdb b2 (.inr rfl); have := hO1' b2 hn; omega))
    have hW11 := Lib.hid (hW10.out.only hOn3 (fun k hk hn => by have := hOw k hk; have := hO1' k hn; omega) (fun hn => by have := hO1' bb hn; omega))
    have F11 : Fut w w11 := ((Only.fut F10).trans hOn3).toFut fun k hk => by have := hO1' k hk; omega
    have r5 := r4.only hOn3 fun hn => by have := hO1' _ hn; have := Z8.out; omega
    have hC11 := Lib.hid hC3
    clear hC3 hOn3 hC10 hD10 hW10 F10 r4 hO3
    go_wp2_with (first | (refine wpList_of_run (by go_simp) (exec_load_Op _ rfl rfl r5 zeroRow_ok) ?_))
    refine (does_asks hD11.out (by omega) (by omega) opC ⟨zeroRow_ok, (by show (0 : Nat) < 2 ^ 32; decide)⟩ rfl rfl rfl rfl rfl rfl (fun h => absurd (show (6 : Int) = 9 from h) (by decide))).mono ?_
    rintro e w12 ⟨rfl, S4, O4, kv4, f4, t4, FT4, FD4, hD4, -, -, -, hO4, hOn4, -⟩
    have s12 := hOn4.size
    have hO4' : ∀ k, O4 k ∨ k = b2 → (w3.heap.size ≤ k ∧ k < w5.heap.size) ∨ (w9.heap.size ≤ k ∧ k < w10.heap.size) ∨ (w11.heap.size ≤ k ∧ k < w12.heap.size) := fun k hk => hk.elim (fun hk => (hO4 k hk).elim (fun h => (hO2' k (.inl h)).imp id .inl) fun h => .inr (.inr ⟨h, hD4.lt k hk⟩)) fun hk => .inl (hdb k (.inr hk))
    have hC12 := Lib.hid (hC11.out.only hOn4 (fun k hk hn => by have := hO3' k (.inl hk); have := hO2' k hn; omega) (fun hn => by have := hcb b1 (.inr rfl); have := hO2' b1 hn; omega))
    have hW12 := Lib.hid (hW11.out.only hOn4 (fun k hk hn => by have := hOw k hk; have := hO2' k hn; omega) (fun hn => by have := hO2' bb hn; omega))
    have F12 : Fut w w12 := ((Only.fut F11).trans hOn4).toFut fun k hk => by have := hO2' k hk; omega
    have r6 := r5.only hOn4 fun hn => by have := hO2' _ hn; have := Z8.out; omega
    have hD12 := Lib.hid hD4
    clear hD4 hOn4 hC11 hD11 hW11 F11 r5 hO4
    go_wp2_with (first | (refine wpList_of_run (by go_simp) (exec_load_Op _ rfl rfl r6 zeroRow_ok) ?_))
    refine (does_asks hW12.out (by omega) hgn opC ⟨zeroRow_ok, (by show (0 : Nat) < 2 ^ 32; decide)⟩ rfl rfl rfl rfl rfl rfl (fun h => absurd (show (6 : Int) = 9 from h) (by decide))).mono ?_
    intro e w13 hdid
    have he := hdid.1
    subst he
    have hE := Lib.hid (did_up F12 hdid)
    obtain ⟨-, S5, O5, kv5, f5, t5, FT5, FD5, -, -, -, -, -, hOn5, -⟩ := hdid
    have hob : ∀ k, O k ∨ k = bb → k < w.heap.size := fun k hk => hk.elim (hOw k) fun h => h ▸ hbw
    have hC13 := Lib.hid (hC12.out.only hOn5 (fun k hk hn => by have := hO3' k (.inl hk); have := hob k hn; omega) (fun hn => by have := hcb b1 (.inr rfl); have := hob b1 hn; omega))
    have hD13 := Lib.hid (hD12.out.only hOn5 (fun k hk hn => by have := hO4' k (.inl hk); have := hob k hn; omega) (fun hn => by have := hdb b2 (.inr rfl); have := hob b2 hn; omega))
    clear hOn5 hC12 hD12 hW12 F12 r6
    go_wp2_with fail
    refine (sizes_any hC13.out).mono ?_
    rintro e w14 ⟨rfl, hf14⟩
    go_wp2_with fail
    refine (sizes_any (hD13.out.fut hf14)).mono ?_
    rintro e w15 ⟨rfl, hf15⟩
    go_wp2
    go_ret
    exact did_then hE.out (hf14.trans hf15)
  · subst hp1 hq1 hp2 hq2
    have hopA : ∀ o2 o3, OpAt (((w5.alloc (.cells (OpL.cells ⟨0, 1, 0, 0, 0, o.row⟩).toArray 67)).alloc o2).alloc o3) w5.heap.size 0 ⟨0, 1, 0, 0, 0, o.row⟩ := fun o2 o3 => ((OpAt.new w5 _ _).fut (Fut.alloc _ _)).fut (Fut.alloc _ _)
    go_wp2_with (first | (refine wpList_of_run (wanted_none rfl _) (exec_load_R rowTy _ rfl rfl hrow5) ?_) | (refine wpList_of_run (wanted_none rfl _) (exec_load_R rowTy _ rfl rfl (hrow5.fut (Fut.alloc _ _))) ?_) | (refine wpList_of_run (wanted_none rfl _) (exec_build_kr _ rfl rfl hro) ?_) | (refine wpList_of_run (wanted_none rfl _) (exec_build_rg rfl) ?_) | (refine wpList_store_Op (wanted_none rfl _) _ _ rfl rfl rfl (by simp) rfl hro ?_) | (refine wpList_store_Op (wanted_none rfl _) _ _ rfl rfl rfl (by simp) rfl zeroRow_ok ?_) | (refine wpList_of_run (wanted_none rfl _) (exec_load_Op _ rfl rfl (hopA _ _) hro) ?_))
    have q1 := ((OpAt.new w5 67 (opA o.row)).fut (Fut.alloc _ (.cells (opB o.row).cells.toArray 67))).fut (Fut.alloc _ (.cells opC.cells.toArray 67))
    have q2 := (OpAt.new (w5.alloc (.cells (opA o.row).cells.toArray 67)) 67 (opB o.row)).fut (Fut.alloc _ (.cells opC.cells.toArray 67))
    have q3 := OpAt.new ((w5.alloc (.cells (opA o.row).cells.toArray 67)).alloc (.cells (opB o.row).cells.toArray 67)) 67 opC
    have F8 : Fut w5 (((w5.alloc (.cells (opA o.row).cells.toArray 67)).alloc (.cells (opB o.row).cells.toArray 67)).alloc (.cells opC.cells.toArray 67)) := ((Fut.alloc _ _).trans (Fut.alloc _ _)).trans (Fut.alloc _ _)
    have z8 : (((w5.alloc (.cells (opA o.row).cells.toArray 67)).alloc (.cells (opB o.row).cells.toArray 67)).alloc (.cells opC.cells.toArray 67)).heap.size = w5.heap.size + 3 := by simp
    have z6 : (w5.alloc (.cells (opA o.row).cells.toArray 67)).heap.size = w5.heap.size + 1 := by simp
    have z7 : ((w5.alloc (.cells (opA o.row).cells.toArray 67)).alloc (.cells (opB o.row).cells.toArray 67)).heap.size = w5.heap.size + 1 + 1 := by simp
    rw [z6] at q2
    rw [z7] at q3
    obtain ⟨w8, hw8⟩ : ∃ W, ((w5.alloc (.cells (opA o.row).cells.toArray 67)).alloc (.cells (opB o.row).cells.toArray 67)).alloc (.cells opC.cells.toArray 67) = W := ⟨_, rfl⟩
    rw [hw8] at q1 q2 q3 F8 z8
    change Calls _ _ _ (((w5.alloc (.cells (opA o.row).cells.toArray 67)).alloc (.cells (opB o.row).cells.toArray 67)).alloc (.cells opC.cells.toArray 67)) _
    rw [hw8]
    clear hw8 z6 z7 hopA
    have Z8 := Lib.hid z8
    clear z8
    have HC8 := Lib.hid (HC5.out.fut F8)
    have HD8 := Lib.hid (HD.out.fut F8)
    have HW8 := Lib.hid (HW5.out.fut F8)
    have F08 := FF.trans F8
    have hOw : ∀ k, O k → k < w.heap.size := H.out.lt
    have hbw : bb < w.heap.size := by
      obtain ⟨arr, ty, h0, _⟩ := H.out.blk
      exact (Array.getElem?_eq_some_iff.1 h0).1
    have hWW := F1.size
    have e5 := F8.size
    clear e1 e2 e3 e4 hrow5 F1 F3 F5 FF HC5 HD HW5
    have hcb : ∀ k, (G1 k ∨ G2 k) ∨ k = b1 → w.heap.size ≤ k ∧ k < w3.heap.size := fun k hk => ⟨Nat.le_trans hWW (hlc k hk).1, (hlc k hk).2⟩
    refine (does_add HC8.out (by rw [rows_clone]; omega) (by rw [gone_clone]; omega) (opA o.row) ⟨hro, (by show (0 : Nat) < 2 ^ 32; decide)⟩ rfl).mono ?_
    rintro e w9 ⟨rfl, S1, O1, kv1, f1, t1, FT1, FD1, hC1, hl1, hg1, -, hO1, hOn1, -⟩
    rw [rows_clone] at hl1
    rw [gone_clone] at hg1
    have s9 := hOn1.size
    have hO1' : ∀ k, O1 k ∨ k = b1 → (w.heap.size ≤ k ∧ k < w3.heap.size) ∨ (w8.heap.size ≤ k ∧ k < w9.heap.size) := fun k hk => hk.elim (fun hk => (hO1 k hk).elim (fun h => .inl (hcb k (.inl h))) fun h => .inr ⟨h, hC1.lt k hk⟩) fun hk => .inl (hcb k (.inr hk))
    have HC9 := Lib.hid hC1
    have HD9 := Lib.hid (HD8.out.only hOn1 (fun k hk hn => by have := hld k (.inl hk); have := hcb k hn; omega) (fun hn => by have := hld b2 (.inr rfl); have := hcb b2 hn; omega))
    have HW9 := Lib.hid (HW8.out.only hOn1 (fun k hk hn => by have := hOw k hk; have := hcb k hn; omega) (fun hn => by have := hcb bb hn; omega))
    have F09 : Fut w w9 := ((Only.fut F08).trans hOn1).toFut fun k hk => (hcb k hk).1
    have r2 := q2.only hOn1 fun hn => by have := hcb _ hn; omega
    have r3 := q3.only hOn1 fun hn => by have := hcb _ hn; omega
    clear hC1 hOn1 HC8 HD8 HW8 F08 q1 q2 q3 F8 hO1
    go_wp2_with (first | (refine wpList_of_run (by go_simp) (exec_load_Op _ rfl rfl r2 hro) ?_))
    refine (does_remove HD9.out (by rw [rows_clone]; omega) (by rw [gone_clone]; omega) (opB o.row) ⟨hro, (by show (0 : Nat) < 2 ^ 32; decide)⟩ rfl).mono ?_
    rintro e w10 ⟨rfl, S2, O2, kv2, f2, t2, FT2, FD2, hD2, hl2, hg2, -, hO2, hOn2, -⟩
    rw [rows_clone] at hl2
    rw [gone_clone] at hg2
    have s10 := hOn2.size
    have hdb : ∀ k, (G3 k ∨ G4 k) ∨ k = b2 → w3.heap.size ≤ k ∧ k < w5.heap.size := hld
    have hw3 : w.heap.size ≤ w3.heap.size := Nat.le_trans hWW hs3
    have hO2' : ∀ k, O2 k ∨ k = b2 → (w3.heap.size ≤ k ∧ k < w5.heap.size) ∨ (w9.heap.size ≤ k ∧ k < w10.heap.size) := fun k hk => hk.elim (fun hk => (hO2 k hk).elim (fun h => .inl (hdb k (.inl h))) fun h => .inr ⟨h, hD2.lt k hk⟩) fun hk => .inl (hdb k (.inr hk))
    have hC10 := Lib.hid (HC9.out.only hOn2 (fun k hk hn => by have := hO1' k (.inl hk); have := hdb k hn; omega) (fun hn => by have := hcb b1 (.inr rfl); have := hdb b1 hn; omega))
    have hW10 := Lib.hid (HW9.out.only hOn2 (fun k hk hn => by have := hOw k hk; have := hdb k hn; omega) (fun hn => by have := hdb bb hn; omega))
    have F10 : Fut w w10 := ((Only.fut F09).trans hOn2).toFut fun k hk => Nat.le_trans hw3 (hdb k hk).1
    have r4 := r3.only hOn2 fun hn => by have := hdb _ hn; omega
    have hD10 := Lib.hid hD2
    clear hD2 hOn2 HC9 HD9 HW9 F09 r2 r3 hO2
    go_wp2_with (first | (refine wpList_of_run (by go_simp) (exec_load_Op _ rfl rfl r4 zeroRow_ok) ?_))
    refine (does_asks hC10.out (by omega) (by omega) opC ⟨zeroRow_ok, (by show (0 : Nat) < 2 ^ 32; decide)⟩ rfl rfl rfl rfl rfl rfl (fun h => absurd (show (6 : Int) = 9 from h) (by decide))).mono ?_
    rintro e w11 ⟨rfl, S3, O3, kv3, f3, t3, FT3, FD3, hC3, -, -, -, hO3, hOn3, -⟩
    have s11 := hOn3.size
    have hO3' : ∀ k, O3 k ∨ k = b1 → (w.heap.size ≤ k ∧ k < w3.heap.size) ∨ (w8.heap.size ≤ k ∧ k < w9.heap.size) ∨ (w10.heap.size ≤ k ∧ k < w11.heap.size) := fun k hk => hk.elim (fun hk => (hO3 k hk).elim (fun h => (hO1' k (.inl h)).imp id .inl) fun h => .inr (.inr ⟨h, hC3.lt k hk⟩)) fun hk => .inl (hcb k (.inr hk))
    have hD11 := Lib.hid (hD10.out.only hOn3 (fun k hk hn => by have := hO2' k (.inl hk); have := hO1' k hn; omega) (fun hn => by have := hdb b2 (.inr rfl); have := hO1' b2 hn; omega))
    have hW11 := Lib.hid (hW10.out.only hOn3 (fun k hk hn => by have := hOw k hk; have := hO1' k hn; omega) (fun hn => by have := hO1' bb hn; omega))
    have F11 : Fut w w11 := ((Only.fut F10).trans hOn3).toFut fun k hk => by have := hO1' k hk; omega
    have r5 := r4.only hOn3 fun hn => by have := hO1' _ hn; have := Z8.out; omega
    have hC11 := Lib.hid hC3
    clear hC3 hOn3 hC10 hD10 hW10 F10 r4 hO3
    go_wp2_with (first | (refine wpList_of_run (by go_simp) (exec_load_Op _ rfl rfl r5 zeroRow_ok) ?_))
    refine (does_asks hD11.out (by omega) (by omega) opC ⟨zeroRow_ok, (by show (0 : Nat) < 2 ^ 32; decide)⟩ rfl rfl rfl rfl rfl rfl (fun h => absurd (show (6 : Int) = 9 from h) (by decide))).mono ?_
    rintro e w12 ⟨rfl, S4, O4, kv4, f4, t4, FT4, FD4, hD4, -, -, -, hO4, hOn4, -⟩
    have s12 := hOn4.size
    have hO4' : ∀ k, O4 k ∨ k = b2 → (w3.heap.size ≤ k ∧ k < w5.heap.size) ∨ (w9.heap.size ≤ k ∧ k < w10.heap.size) ∨ (w11.heap.size ≤ k ∧ k < w12.heap.size) := fun k hk => hk.elim (fun hk => (hO4 k hk).elim (fun h => (hO2' k (.inl h)).imp id .inl) fun h => .inr (.inr ⟨h, hD4.lt k hk⟩)) fun hk => .inl (hdb k (.inr hk))
    have hC12 := Lib.hid (hC11.out.only hOn4 (fun k hk hn => by have := hO3' k (.inl hk); have := hO2' k hn; omega) (fun hn => by have := hcb b1 (.inr rfl); have := hO2' b1 hn; omega))
    have hW12 := Lib.hid (hW11.out.only hOn4 (fun k hk hn => by have := hOw k hk; have := hO2' k hn; omega) (fun hn => by have := hO2' bb hn; omega))
    have F12 : Fut w w12 := ((Only.fut F11).trans hOn4).toFut fun k hk => by have := hO2' k hk; omega
    have r6 := r5.only hOn4 fun hn => by have := hO2' _ hn; have := Z8.out; omega
    have hD12 := Lib.hid hD4
    clear hD4 hOn4 hC11 hD11 hW11 F11 r5 hO4
    go_wp2_with (first | (refine wpList_of_run (by go_simp) (exec_load_Op _ rfl rfl r6 zeroRow_ok) ?_))
    refine (does_asks hW12.out (by omega) hgn opC ⟨zeroRow_ok, (by show (0 : Nat) < 2 ^ 32; decide)⟩ rfl rfl rfl rfl rfl rfl (fun h => absurd (show (6 : Int) = 9 from h) (by decide))).mono ?_
    intro e w13 hdid
    have he := hdid.1
    subst he
    have hE := Lib.hid (did_up F12 hdid)
    obtain ⟨-, S5, O5, kv5, f5, t5, FT5, FD5, -, -, -, -, -, hOn5, -⟩ := hdid
    have hob : ∀ k, O k ∨ k = bb → k < w.heap.size := fun k hk => hk.elim (hOw k) fun h => h ▸ hbw
    have hC13 := Lib.hid (hC12.out.only hOn5 (fun k hk hn => by have := hO3' k (.inl hk); have := hob k hn; omega) (fun hn => by have := hcb b1 (.inr rfl); have := hob b1 hn; omega))
    have hD13 := Lib.hid (hD12.out.only hOn5 (fun k hk hn => by have := hO4' k (.inl hk); have := hob k hn; omega) (fun hn => by have := hdb b2 (.inr rfl); have := hob b2 hn; omega))
    clear hOn5 hC12 hD12 hW12 F12 r6
    go_wp2_with fail
    refine (sizes_any hC13.out).mono ?_
    rintro e w14 ⟨rfl, hf14⟩
    go_wp2_with fail
    refine (sizes_any (hD13.out.fut hf14)).mono ?_
    rintro e w15 ⟨rfl, hf15⟩
    go_wp2
    go_ret
    exact did_then hE.out (hf14.trans hf15)
end
end Go.Proofs.Ytcekphjcmippoaa
