/- relation.New, At, Has. -/
import Derived.Test.YtcekphjcmippoaaRel0
namespace Go.Proofs.Ytcekphjcmippoaa
open Go.RowKit Go.WideMaps
set_option linter.unusedSimpArgs false
set_option linter.unusedVariables false

theorem zeros_eq : #[Value.int .i32 0, Value.int .i32 0, Value.int .i32 0, Value.int .i32 0, Value.int .i32 0, Value.int .i32 0, Value.int .i32 0, Value.int .i32 0, Value.int .i32 0, Value.int .i32 0, Value.int .i32 0, Value.int .i32 0, Value.int .i32 0, Value.int .i32 0, Value.int .i32 0, Value.int .i32 0, Value.int .i32 0, Value.int .i32 0, Value.int .i32 0, Value.int .i32 0, Value.int .i32 0, Value.int .i32 0, Value.int .i32 0, Value.int .i32 0] = (Rw.cells zeroRow).toArray := rfl
theorem results_row {P : Program} {k e : TypeId} {fn : Func} {p q : Tmp} {tmps : Array Value} {w : World} {g : Nat} {x : Rw} {v : Value} (h : fn.results = #[.cell p k, .tmp q]) (T : RowTy P k e)
    (hp : tmps.getD p undef = .pointer (some ⟨g, 0, none⟩)) (hr : RowAt w g 0 x) (hv : tmps.getD q undef = v) : (results fn tmps).run P w = .ok (.tuple #[Rw.val x, v]) w := by
  have hp' : tmps[p]?.getD undef = .pointer (some ⟨g, 0, none⟩) := by simpa using hp
  have hv' : tmps[q]?.getD undef = v := by simpa using hv
  simp [results, h, hp', hv', asAddr, run_loadVar_R T hr]
theorem zeroI (w : World) : (zeroValue 3).run Try.prog w = .ok (.int .i64 0) w := by kernel_rfl
theorem exec_lookup_R {P : Program} {k e t ev : TypeId} {w : World} {o : Oper} {a : Act} {b : Nat} {f : Rw → Option Int} {x : Rw} (T : RowTy P k e) (ht : P.underlying t = some (.map k ev)) (hz : ∀ w, (zeroValue ev).run P w = .ok (.int .i64 0) w) (m y : Operand)
    (ho : o.op = .lookup t m y true) (hm : a.eval m = .map (some b)) (hy : a.eval y = Rw.val x) (h : MapR w b f) (hx : Rw.ok x) :
    (execOp a.eval o).run P w = .ok (.value (.tuple #[.int .i64 ((f x).getD 0), .bool (f x).isSome])) w := by
  unfold execOp
  simp only [ho, hm, hy, Sem.run_bind, h.lookup T.A T.he T.hsz ht hz hx, Sem.run_pure, Result.andThen_ok]
theorem idx_nil : (fun _ => none) = idx [] := by funext x; simp [idx]
set_option maxHeartbeats 400000 in
set_option maxRecDepth 100000 in
theorem new_any (ar : Nat) (h1 : ar ≤ 24) (w : World) :
    Calls Try.prog 23 #[.int .i64 ar] w fun e w' => ∃ b pb mb, e = .returned (.tuple #[.pointer (some ⟨b, 0, none⟩), .int .i64 0]) ∧ RelI w.heap.size w' b pb mb (.slice none 0 0) ar 0 [] ∧ Fut w w' := by
  have hmm := @run_makeMap Try.prog
  have e1 : ¬ (ar : Int) < 0 := by omega
  have e2 : ¬ (24 : Int) < ar := by omega
  go_enter Try.func23, Try.ntmps23
  go_wp2
  go_ret2
  have b0 := heap_alloc_new w (.map #[] 0)
  have f1 := Fut.alloc w (.map #[] 0)
  have b1 := heap_alloc_new (w.alloc (.map #[] 0)) (.cells #[Value.slice none 0 0, Value.map (some w.heap.size)] 77)
  have f2 := Fut.alloc (w.alloc (.map #[] 0)) (.cells #[Value.slice none 0 0, Value.map (some w.heap.size)] 77)
  have b2 := heap_alloc_new ((w.alloc (.map #[] 0)).alloc (.cells #[Value.slice none 0 0, Value.map (some w.heap.size)] 77)) (.cells #[Value.int .i64 ar, Value.int .i64 ((0 : Nat) : Int), Value.pointer (some ⟨w.heap.size + 1, 0, none⟩)] 73)
  have f3 := Fut.alloc ((w.alloc (.map #[] 0)).alloc (.cells #[Value.slice none 0 0, Value.map (some w.heap.size)] 77)) (.cells #[Value.int .i64 ar, Value.int .i64 ((0 : Nat) : Int), Value.pointer (some ⟨w.heap.size + 1, 0, none⟩)] 73)
  rw [World.size_alloc] at b1
  rw [World.size_alloc, World.size_alloc] at b2
  have hM := MapR.new w
  refine ⟨w.heap.size + 1 + 1, rfl, ⟨w.heap.size + 1, w.heap.size, b2, ⟨f3.block b1, OwnL.nil, ?_, ⟨by omega, by omega⟩, List.nodup_nil⟩, by omega, h1⟩, (f1.trans f2).trans f3⟩
  rw [← idx_nil]
  exact hM.kept ((Below.block f3 _ (by simp; omega)).trans (Below.block f2 _ (by simp)))
set_option maxHeartbeats 400000 in
set_option maxRecDepth 100000 in
theorem new_bad (ar : Int) (h : ar < 0 ∨ 24 < ar) (w : World) :
    Calls Try.prog 23 #[.int .i64 ar] w fun e w' => e = .returned (.tuple #[.pointer none, .int .i64 1]) ∧ w' = w := by
  go_enter Try.func23, Try.ntmps23
  rcases h with h | h
  · go_wp2
    go_ret2
    exact ⟨rfl, rfl⟩
  · have e1 : ¬ ar < 0 := by omega
    go_wp2
    go_ret2
    exact ⟨rfl, rfl⟩
set_option maxHeartbeats 400000 in
set_option maxRecDepth 100000 in
theorem at_any {B : Nat} {w : World} {b pb mb : Nat} {lv : Value} {ar gone : Nat} {xs : List Rw} (h : RelI B w b pb mb lv ar gone xs) (k : Nat) (hk : k < xs.length) :
    Calls Try.prog 16 #[.pointer (some ⟨b, 0, none⟩), .int .i64 k] w fun e w' => e = .returned (.tuple #[Rw.val xs[k], .int .i64 0]) ∧ Fut w w' := by
  have c0 := cell_at h.blk 0 _ rfl
  have c1 := cell_at h.blk 1 _ rfl
  have c2 := cell_at h.blk 2 _ rfl
  have p0 := cell_at h.pl.blk 0 _ rfl
  have HR := Lib.hid (h.pl.list.rep)
  have HH := Lib.hid (fun W1 (F1 : Fut w W1) => there_any (h.fut F1))
  obtain ⟨A, cap, rfl, hl, hm⟩ := h.pl.form
  obtain ⟨b', off, rfl, hr⟩ := rows_at HR.out hk
  clear h
  go_enter Try.func16, Try.ntmps16
  go_wp2_with fail
  rw [zeros_eq]
  have hN := heap_alloc_new w (.cells (Rw.cells zeroRow).toArray 32)
  have F1 := Fut.alloc w (.cells (Rw.cells zeroRow).toArray 32)
  have hw : w.heap.size < (w.alloc (.cells (Rw.cells zeroRow).toArray 32)).heap.size := by simp
  obtain ⟨W1, hW⟩ : ∃ W1, w.alloc (.cells (Rw.cells zeroRow).toArray 32) = W1 := ⟨_, rfl⟩
  rw [hW] at hN F1 hw ⊢
  clear hW
  refine (HH.out W1 F1).mono ?_
  rintro e w1 ⟨rfl, hw1⟩
  have hw2 := hw1.symm
  subst hw2
  replace c0 := F1.cell c0
  replace c1 := F1.cell c1
  replace c2 := F1.cell c2
  replace p0 := F1.cell p0
  replace hr := hr.fut F1
  have hlt : (k : Int) < xs.length := by omega
  have hng : ¬ (k : Int) < 0 := by omega
  have hge : ¬ (xs.length : Int) ≤ k := by omega
  go_wp2_with (first | (refine wpList_load_R rowTy (wanted_none rfl _) _ rfl rfl hr ?_) | (refine wpList_store_R rowTy (wanted_none rfl _) _ _ rfl rfl rfl hN rfl hr.1 ?_))
  refine bodyPost_ret (results_row rfl rowTy rfl (RowAt.of_block hr.1 (World.putObj_heap_same hw)) (by rfl)) rfl ?_
  exact ⟨rfl, ((Only.fut F1).trans (Only.put (S := fun k => k = w.heap.size) _ _ rfl)).toFut (fun k hk => Nat.le_of_eq hk.symm)⟩
set_option maxHeartbeats 800000 in
set_option maxRecDepth 100000 in
theorem has_any {B : Nat} {w : World} {b pb mb : Nat} {lv : Value} {ar gone : Nat} {xs : List Rw} (h : RelI B w b pb mb lv ar gone xs) (x : Rw) (hx : Rw.ok x) :
    Calls Try.prog 19 #[.pointer (some ⟨b, 0, none⟩), Rw.val x] w fun e w' => e = .returned (.bool (decide (x ∈ xs))) ∧ Fut w w' := by
  have H := Lib.hid h
  have c0 := cell_at h.blk 0 _ rfl
  have c1 := cell_at h.blk 1 _ rfl
  have c2 := cell_at h.blk 2 _ rfl
  have p0 := cell_at h.pl.blk 0 _ rfl
  have p1 := cell_at h.pl.blk 1 _ rfl
  clear h
  unfold Rw.val
  go_enter Try.func19, Try.ntmps19
  go_wp2_with fail
  have hr := RowAt.new w 32 hx
  have F1 := Fut.alloc w (.cells (Rw.cells x).toArray 32)
  obtain ⟨W1, hW⟩ : ∃ W1, w.alloc (.cells (Rw.cells x).toArray 32) = W1 := ⟨_, rfl⟩
  rw [hW] at hr F1 ⊢
  clear hW
  refine (there_any (H.out.fut F1)).mono ?_
  rintro e w1 ⟨rfl, hw1⟩
  have hw2 := hw1.symm
  subst hw2
  replace c2 := F1.cell c2
  replace p1 := F1.cell p1
  go_wp2_with fail
  refine wp_graph 14 [.d, .d, .d, .d, .d, .d, .d, .d, .d, .d, .d, .d, .d, .d] (by kernel_rfl) (by kernel_rfl) (by kernel_rfl) ?_
  simp only [List.take_succ_cons, List.take_zero, List.drop_succ_cons, List.drop_zero, Exs]
  iterate 14 apply Exists.intro
  apply Run.valG (wanted_none rfl _)
  · intro w1 h1 hk
    have q2 := h1.cell c2; have q1 := h1.cell p1; have hg := (Fut.drew _).trans h1
    have hcw := fun b o => Below.cell (p := ⟨b, o, none⟩) h1
    go_simp; rfl
  simp only [Act.put, List.setIfInBounds_toArray, List.set_cons_succ, List.set_cons_zero, List.nil_append, List.cons_append]
  apply Run.valG (wanted_none rfl _)
  · intro w1 h1 hk
    have q2 := h1.cell c2; have q1 := h1.cell p1; have hg := (Fut.drew _).trans h1
    have hcw := fun b o => Below.cell (p := ⟨b, o, none⟩) h1
    go_simp; rfl
  simp only [Act.put, List.setIfInBounds_toArray, List.set_cons_succ, List.set_cons_zero, List.nil_append, List.cons_append]
  apply Run.valG (wanted_none rfl _)
  · intro w1 h1 hk
    have q2 := h1.cell c2; have q1 := h1.cell p1; have hg := (Fut.drew _).trans h1
    have hcw := fun b o => Below.cell (p := ⟨b, o, none⟩) h1
    go_simp; rfl
  simp only [Act.put, List.setIfInBounds_toArray, List.set_cons_succ, List.set_cons_zero, List.nil_append, List.cons_append]
  apply Run.valG (wanted_none rfl _)
  · intro w1 h1 hk
    have q2 := h1.cell c2; have q1 := h1.cell p1; have hg := (Fut.drew _).trans h1
    have hcw := fun b o => Below.cell (p := ⟨b, o, none⟩) h1
    go_simp; rfl
  simp only [Act.put, List.setIfInBounds_toArray, List.set_cons_succ, List.set_cons_zero, List.nil_append, List.cons_append]
  apply Run.valG (wanted_none rfl _)
  · intro w1 h1 hk
    have q2 := h1.cell c2; have q1 := h1.cell p1; have hg := (Fut.drew _).trans h1
    have hcw := fun b o => Below.cell (p := ⟨b, o, none⟩) h1
    go_simp; rfl
  simp only [Act.put, List.setIfInBounds_toArray, List.set_cons_succ, List.set_cons_zero, List.nil_append, List.cons_append]
  apply Run.valG (wanted_none rfl _)
  · intro w1 h1 hk
    have q2 := h1.cell c2; have q1 := h1.cell p1; have hg := (Fut.drew _).trans h1
    have hcw := fun b o => Below.cell (p := ⟨b, o, none⟩) h1
    go_simp; rfl
  simp only [Act.put, List.setIfInBounds_toArray, List.set_cons_succ, List.set_cons_zero, List.nil_append, List.cons_append]
  apply Run.valG (wanted_none rfl _)
  · intro w1 h1 hk
    have q2 := h1.cell c2; have q1 := h1.cell p1; have hg := (Fut.drew _).trans h1
    have hcw := fun b o => Below.cell (p := ⟨b, o, none⟩) h1
    go_simp; rfl
  simp only [Act.put, List.setIfInBounds_toArray, List.set_cons_succ, List.set_cons_zero, List.nil_append, List.cons_append]
  apply Run.valG (wanted_none rfl _)
  · intro w1 h1 hk
    have q2 := h1.cell c2; have q1 := h1.cell p1; have hg := (Fut.drew _).trans h1
    have hcw := fun b o => Below.cell (p := ⟨b, o, none⟩) h1
    exact exec_load_R rowTy _ rfl rfl (hr.fut hg)
  simp only [Act.put, List.setIfInBounds_toArray, List.set_cons_succ, List.set_cons_zero, List.nil_append, List.cons_append]
  apply Run.valG (wanted_none rfl _)
  · intro w1 h1 hk
    have q2 := h1.cell c2; have q1 := h1.cell p1; have hg := (Fut.drew _).trans h1
    have hcw := fun b o => Below.cell (p := ⟨b, o, none⟩) h1
    exact exec_lookup_R rowTy Try.underlying75 zeroI _ _ rfl rfl rfl (H.out.fut (F1.trans hg)).pl.map hx
  simp only [Act.put, List.setIfInBounds_toArray, List.set_cons_succ, List.set_cons_zero, List.nil_append, List.cons_append]
  apply Run.valG (wanted_none rfl _)
  · intro w1 h1 hk
    have q2 := h1.cell c2; have q1 := h1.cell p1; have hg := (Fut.drew _).trans h1
    have hcw := fun b o => Below.cell (p := ⟨b, o, none⟩) h1
    go_simp; rfl
  simp only [Act.put, List.setIfInBounds_toArray, List.set_cons_succ, List.set_cons_zero, List.nil_append, List.cons_append]
  apply Run.valG (wanted_none rfl _)
  · intro w1 h1 hk
    have q2 := h1.cell c2; have q1 := h1.cell p1; have hg := (Fut.drew _).trans h1
    have hcw := fun b o => Below.cell (p := ⟨b, o, none⟩) h1
    go_simp; rfl
  simp only [Act.put, List.setIfInBounds_toArray, List.set_cons_succ, List.set_cons_zero, List.nil_append, List.cons_append]
  apply Run.valG (wanted_none rfl _)
  · intro w1 h1 hk
    have q2 := h1.cell c2; have q1 := h1.cell p1; have hg := (Fut.drew _).trans h1
    have hcw := fun b o => Below.cell (p := ⟨b, o, none⟩) h1
    go_simp; rfl
  simp only [Act.put, List.setIfInBounds_toArray, List.set_cons_succ, List.set_cons_zero, List.nil_append, List.cons_append]
  apply Run.valG (wanted_none rfl _)
  · intro w1 h1 hk
    have q2 := h1.cell c2; have q1 := h1.cell p1; have hg := (Fut.drew _).trans h1
    have hcw := fun b o => Below.cell (p := ⟨b, o, none⟩) h1
    go_simp; rfl
  simp only [Act.put, List.setIfInBounds_toArray, List.set_cons_succ, List.set_cons_zero, List.nil_append, List.cons_append]
  apply Run.valG (wanted_none rfl _)
  · intro w1 h1 hk
    have q2 := h1.cell c2; have q1 := h1.cell p1; have hg := (Fut.drew _).trans h1
    have hcw := fun b o => Below.cell (p := ⟨b, o, none⟩) h1
    go_simp; rfl
  simp only [Act.put, List.setIfInBounds_toArray, List.set_cons_succ, List.set_cons_zero, List.nil_append, List.cons_append]
  apply Run.done
  intro w2 h2 hk
  clear hk
  go_wp2
  go_ret
  exact ⟨by rw [← idx_isSome]; rfl, F1.trans ((Fut.drew _).trans h2)⟩
end Go.Proofs.Ytcekphjcmippoaa
