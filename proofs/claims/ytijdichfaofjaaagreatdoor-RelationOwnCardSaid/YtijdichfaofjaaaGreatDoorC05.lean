/- RelP, Book2, Book3, Bits -/
import Derived.Laws.BitsLemmas
import Derived.Test.YtijdichfaofjaaaGreatDoorC04
/- places.put; Add. -/
namespace Go.Proofs.YtijdichfaofjaaaGreatDoor
open Go.RowKit Go.WideMaps
set_option linter.unusedSimpArgs false
set_option linter.unusedVariables false

/-- A list of one row, just built. -/
theorem rowOne (w : World) (t : TypeId) {x : Rw} (hx : Rw.ok x) : SlRep 24 1 RR (w.alloc (.cells (Rw.cells x).toArray t)) (.slice (some ⟨w.heap.size, 0, none⟩) 1 1) [x] :=
  ⟨_, _, rfl, Nat.le_refl _, Nat.le_refl _, fun i y hy => by
    have hi : i = 0 := by
      have := (List.getElem?_eq_some_iff.1 hy).1
      simp at this; omega
    subst hi
    simp at hy
    subst hy
    refine ⟨_, 0, Rw.cells x, rfl, Rw.cells_len hx, fun j c hj => ?_, rfl, hx⟩
    have := (RowAt.new w t hx).2 j c hj
    rwa [Nat.zero_mul, show 0 + (0 + j) = 0 + j by omega]⟩
/-- APPEND of rows. -/
theorem run_append_R {P : Program} {t ty e : TypeId} {B : Nat} {w : World} {v u : Value} {xs ys : List Rw} {M : Nat} (ht : P.underlying t = some (.slice e))
    (hinfo : (P.info? e).map (fun i => (i.zero, i.size, i.bytes)) = some (some (Rw.val zeroRow), 24, 96))
    (h : OwnL 24 B e RR w v xs) (hu : SlRep 24 M RR w u ys) (hlen : xs.length + ys.length ≤ 1407374883512) (hbase : B ≤ w.heap.size) :
    ∃ v' w', (Builtin.append_ #[t, t] ty #[v, u]).run P w = .ok v' w' ∧ OwnL 24 B e RR w' v' (xs ++ ys) ∧ w.grownBy w' v.ownBlock ∧ (v'.ownBlock = v.ownBlock ∨ v'.ownBlock = some w.heap.size) := by
  obtain ⟨i, hi, hz, hs, hb⟩ := info_parts hinfo
  exact run_append_list_at t ty i _ 96 ht hi hz hs hb rfl (by omega) RR.one (fun _ _ _ h _ => h) h hu (by unfold maxLen; omega) (by omega) hbase
theorem wpList_append_R {P : Program} {ops : Array Oper} {rest : List Oper} {o : Oper} {a : Act} {Q : Exit → Act → World → Prop} {t e : TypeId} {B : Nat} {w : World} {v u : Value} {xs ys : List Rw} {M : Nat} (hgd : Region.wanted o (yielded ops a.tmps) = true) (s x : Operand)
    (ho : o.op = .call { callee := .builtin .append, args := #[s, x], argTypes := #[t, t] }) (ht : P.underlying t = some (.slice e))
    (hinfo : (P.info? e).map (fun i => (i.zero, i.size, i.bytes)) = some (some (Rw.val zeroRow), 24, 96))
    (hs : a.eval s = v) (hx : a.eval x = u) (hown : OwnL 24 B e RR w v xs) (hu : SlRep 24 M RR w u ys) (hlen : xs.length + ys.length ≤ 1407374883512) (hbase : B ≤ w.heap.size)
    (h : ∀ v' w', OwnL 24 B e RR w' v' (xs ++ ys) → w.grownBy w' v.ownBlock → (v'.ownBlock = v.ownBlock ∨ v'.ownBlock = some w.heap.size) → wpList P ops Q rest (a.put o.dst v') w') : wpList P ops Q (o :: rest) a w := by
  obtain ⟨v', w', hr, h2, h3, h4⟩ := run_append_R (ty := o.type) ht hinfo hown hu hlen hbase
  refine wpList_of_run hgd (v := v') (w' := w') ?_ (h v' w' h2 h3 h4)
  unfold execOp
  simp only [ho, resolve, invoke, builtin, Sem.run_bind, Sem.run_pure, Result.andThen_ok, List.map_toArray, List.map_cons, List.map_nil, hs, hx, hr]
theorem wpList_push_R {P : Program} {k e t ev : TypeId} {ops : Array Oper} {rest : List Oper} {o : Oper} {a : Act} {Q : Exit → Act → World → Prop} {w : World} {b : Nat} {f : Rw → Option Int} {x : Rw} {v : Int} (T : RowTy P k e) (hgd : Region.wanted o (yielded ops a.tmps) = true) (ht : P.underlying t = some (.map k ev)) (m y z : Operand)
    (ho : o.op = .mapUpdate t m y z) (hm : a.eval m = .map (some b)) (hy : a.eval y = Rw.val x) (hz : a.eval z = .int .i64 v) (h : MapR w b f) (hx : Rw.ok x) (hn : f x = none)
    (hk : ∀ w', MapR w' b (fun y => if y = x then some v else f y) → w.grownBy w' (some b) → wpList P ops Q rest (a.put o.dst undef) w') : wpList P ops Q (o :: rest) a w := by
  obtain ⟨w', hr, h2, h3⟩ := h.push T.A T.he T.hsz ht hx hn v
  refine wpList_of_skip hgd (w' := w') ?_ (hk w' h2 h3)
  unfold execOp
  simp only [ho, hm, hy, hz, hr, Sem.run_bind, Sem.run_pure, Result.andThen_ok]

theorem OwnL.onlyR {B : Nat} {e : TypeId} {w w' : World} {v : Value} {xs : List Rw} {S : Nat → Prop} (h : OwnL 24 B e RR w v xs) (hg : Only S w w') (hne : ∀ k, v.ownBlock = some k → ¬ S k) : OwnL 24 B e RR w' v xs :=
  h.only (fun _ _ h => h) hg hne
theorem zeroR : ∃ z, (Tryz.prog.info? 27).bind (·.zero) = some z ∧ z.cells.size = 24 := ⟨Rw.val zeroRow, by kernel_rfl, rfl⟩
theorem set_blk {w : World} {g i : Nat} {cs : Array Value} {t : TypeId} {fr : Nat × Nat} {v : Value} (h : w.heap[g]? = some (.cells cs t fr)) : (w.setCell ⟨g, i, none⟩ v).heap[g]? = some (.cells (cs.setIfInBounds i v) t fr) := by
  simp [World.setCell, Array.getElem?_modify, h]
theorem PlI.sep {B : Nat} {w : World} {pb mb : Nat} {lv : Value} {xs : List Rw} (h : PlI B w pb mb lv xs) : pb ≠ mb ∧ ∀ k, lv.ownBlock = some k → k ≠ pb ∧ k ≠ mb := by
  obtain ⟨es, c, hm, _⟩ := h.map
  refine ⟨fun e => ?_, fun k hk => ⟨fun e => ?_, fun e => ?_⟩⟩
  · subst e; have := h.blk; rw [hm] at this; cases this
  · subst e
    obtain ⟨arr, h1⟩ := h.list.typed _ hk
    have := h.blk
    rw [h1] at this
    injection this with h2
    injection h2 with _ h3
    revert h3
    decide
  · subst e
    obtain ⟨arr, h1⟩ := h.list.typed _ hk
    rw [hm] at h1; cases h1
set_option maxHeartbeats 1600000 in
set_option maxRecDepth 100000 in
theorem put_any {B : Nat} {w : World} {pb mb : Nat} {lv : Value} {xs : List Rw} (h : PlI B w pb mb lv xs) (hB : B ≤ w.heap.size) (x : Rw) (hx : Rw.ok x) (hl : xs.length < 1407374883512) :
    Calls Tryz.prog 31 #[.pointer (some ⟨pb, 0, none⟩), Rw.val x] w fun e w' => ∃ lv', e = .returned (.bool (!decide (x ∈ xs))) ∧ PlI B w' pb mb lv' (if x ∈ xs then xs else xs ++ [x]) ∧ Only (pfoot pb mb lv) w w' ∧ ∀ k, lv'.ownBlock = some k → pfoot pb mb lv k ∨ w.heap.size ≤ k := by
  have H := Lib.hid h
  have X := Lib.hid hx
  clear h hx
  unfold Rw.val
  go_enter Tryz.func31, Tryz.ntmps31
  go_wp2_with fail
  have hr := RowAt.new w 27 X.out
  have F1 := Fut.alloc w (.cells (Rw.cells x).toArray 27)
  obtain ⟨W1, hW⟩ : ∃ W1, w.alloc (.cells (Rw.cells x).toArray 27) = W1 := ⟨_, rfl⟩
  rw [hW] at hr F1 ⊢
  have hsz : W1.heap.size = w.heap.size + 1 := by rw [← hW]; simp
  clear hW
  have p1 := F1.cell (cell_at H.out.blk 1 _ rfl)
  refine wp_graph 11 [.d, .d, .d, .d, .d, .d, .d, .d, .d, .d, .d] (by kernel_rfl) (by kernel_rfl) (by kernel_rfl) ?_
  simp only [List.take_succ_cons, List.take_zero, List.drop_succ_cons, List.drop_zero, Exs]
  iterate 11 apply Exists.intro
  apply Run.valG (wanted_none rfl _)
  · intro w1 h1 hk
    have q1 := h1.cell p1; have hg := (Fut.drew _).trans h1
    have hcw := fun b o => Below.cell (p := ⟨b, o, none⟩) h1
    go_simp; rfl
  simp only [Act.put, List.setIfInBounds_toArray, List.set_cons_succ, List.set_cons_zero, List.nil_append, List.cons_append]
  apply Run.valG (wanted_none rfl _)
  · intro w1 h1 hk
    have q1 := h1.cell p1; have hg := (Fut.drew _).trans h1
    have hcw := fun b o => Below.cell (p := ⟨b, o, none⟩) h1
    go_simp; rfl
  simp only [Act.put, List.setIfInBounds_toArray, List.set_cons_succ, List.set_cons_zero, List.nil_append, List.cons_append]
  apply Run.valG (wanted_none rfl _)
  · intro w1 h1 hk
    have q1 := h1.cell p1; have hg := (Fut.drew _).trans h1
    have hcw := fun b o => Below.cell (p := ⟨b, o, none⟩) h1
    go_simp; rfl
  simp only [Act.put, List.setIfInBounds_toArray, List.set_cons_succ, List.set_cons_zero, List.nil_append, List.cons_append]
  apply Run.valG (wanted_none rfl _)
  · intro w1 h1 hk
    have q1 := h1.cell p1; have hg := (Fut.drew _).trans h1
    have hcw := fun b o => Below.cell (p := ⟨b, o, none⟩) h1
    go_simp; rfl
  simp only [Act.put, List.setIfInBounds_toArray, List.set_cons_succ, List.set_cons_zero, List.nil_append, List.cons_append]
  apply Run.valG (wanted_none rfl _)
  · intro w1 h1 hk
    have q1 := h1.cell p1; have hg := (Fut.drew _).trans h1
    have hcw := fun b o => Below.cell (p := ⟨b, o, none⟩) h1
    exact exec_load_R rowTy _ rfl rfl (hr.fut hg)
  simp only [Act.put, List.setIfInBounds_toArray, List.set_cons_succ, List.set_cons_zero, List.nil_append, List.cons_append]
  apply Run.valG (wanted_none rfl _)
  · intro w1 h1 hk
    have q1 := h1.cell p1; have hg := (Fut.drew _).trans h1
    have hcw := fun b o => Below.cell (p := ⟨b, o, none⟩) h1
    exact exec_lookup_R rowTy Tryz.underlying95 zeroI _ _ rfl rfl rfl (H.out.fut (F1.trans hg)).map X.out
  simp only [Act.put, List.setIfInBounds_toArray, List.set_cons_succ, List.set_cons_zero, List.nil_append, List.cons_append]
  apply Run.valG (wanted_none rfl _)
  · intro w1 h1 hk
    have q1 := h1.cell p1; have hg := (Fut.drew _).trans h1
    have hcw := fun b o => Below.cell (p := ⟨b, o, none⟩) h1
    go_simp; rfl
  simp only [Act.put, List.setIfInBounds_toArray, List.set_cons_succ, List.set_cons_zero, List.nil_append, List.cons_append]
  apply Run.valG (wanted_none rfl _)
  · intro w1 h1 hk
    have q1 := h1.cell p1; have hg := (Fut.drew _).trans h1
    have hcw := fun b o => Below.cell (p := ⟨b, o, none⟩) h1
    go_simp; rfl
  simp only [Act.put, List.setIfInBounds_toArray, List.set_cons_succ, List.set_cons_zero, List.nil_append, List.cons_append]
  apply Run.valG (wanted_none rfl _)
  · intro w1 h1 hk
    have q1 := h1.cell p1; have hg := (Fut.drew _).trans h1
    have hcw := fun b o => Below.cell (p := ⟨b, o, none⟩) h1
    go_simp; rfl
  simp only [Act.put, List.setIfInBounds_toArray, List.set_cons_succ, List.set_cons_zero, List.nil_append, List.cons_append]
  apply Run.valG (wanted_none rfl _)
  · intro w1 h1 hk
    have q1 := h1.cell p1; have hg := (Fut.drew _).trans h1
    have hcw := fun b o => Below.cell (p := ⟨b, o, none⟩) h1
    go_simp; rfl
  simp only [Act.put, List.setIfInBounds_toArray, List.set_cons_succ, List.set_cons_zero, List.nil_append, List.cons_append]
  apply Run.valG (wanted_none rfl _)
  · intro w1 h1 hk
    have q1 := h1.cell p1; have hg := (Fut.drew _).trans h1
    have hcw := fun b o => Below.cell (p := ⟨b, o, none⟩) h1
    go_simp; rfl
  simp only [Act.put, List.setIfInBounds_toArray, List.set_cons_succ, List.set_cons_zero, List.nil_append, List.cons_append]
  apply Run.done
  intro w2 h2 hk
  clear hk
  by_cases hin : x ∈ xs
  · have hs : (idx xs x).isSome = true := by rw [idx_isSome]; exact decide_eq_true hin
    rw [hs]
    go_wp2
    go_ret
    exact ⟨rfl, _, H.out.fut (F1.trans ((Fut.drew _).trans h2)), Only.fut (F1.trans ((Fut.drew _).trans h2)), fun k hk => .inl (.inr (.inr hk))⟩
  · have hs : (idx xs x).isSome = false := by rw [idx_isSome]; exact decide_eq_false hin
    have hnone : idx xs x = none := by simpa using hs
    obtain ⟨A, cap, rfl, hcl, hcm⟩ := H.out.form
    have F2 := F1.trans ((Fut.drew _).trans h2)
    have hr2 := hr.fut ((Fut.drew _).trans h2)
    have p0 := F2.cell (cell_at H.out.blk 0 _ rfl)
    have p1 := F2.cell (cell_at H.out.blk 1 _ rfl)
    rw [hs]
    go_wp2_with fail
    refine wp_graph 10 [.d, .d, .d, .d, .d, .d, .d, .d, .d, .d] (by kernel_rfl) (by kernel_rfl) (by kernel_rfl) ?_
    simp only [List.take_succ_cons, List.take_zero, List.drop_succ_cons, List.drop_zero, Exs]
    iterate 10 apply Exists.intro
    apply Run.valG (wanted_none rfl _)
    · intro w1 h1 hk
      have q0 := h1.cell p0; have q1 := h1.cell p1; have hg := (Fut.drew _).trans h1
      have hcw := fun b o => Below.cell (p := ⟨b, o, none⟩) h1
      go_simp; rfl
    simp only [Act.put, List.setIfInBounds_toArray, List.set_cons_succ, List.set_cons_zero, List.nil_append, List.cons_append]
    apply Run.valG (wanted_none rfl _)
    · intro w1 h1 hk
      have q0 := h1.cell p0; have q1 := h1.cell p1; have hg := (Fut.drew _).trans h1
      have hcw := fun b o => Below.cell (p := ⟨b, o, none⟩) h1
      go_simp; rfl
    simp only [Act.put, List.setIfInBounds_toArray, List.set_cons_succ, List.set_cons_zero, List.nil_append, List.cons_append]
    apply Run.valG (wanted_none rfl _)
    · intro w1 h1 hk
      have q0 := h1.cell p0; have q1 := h1.cell p1; have hg := (Fut.drew _).trans h1
      have hcw := fun b o => Below.cell (p := ⟨b, o, none⟩) h1
      go_simp; rfl
    simp only [Act.put, List.setIfInBounds_toArray, List.set_cons_succ, List.set_cons_zero, List.nil_append, List.cons_append]
    apply Run.valG (wanted_none rfl _)
    · intro w1 h1 hk
      have q0 := h1.cell p0; have q1 := h1.cell p1; have hg := (Fut.drew _).trans h1
      have hcw := fun b o => Below.cell (p := ⟨b, o, none⟩) h1
      go_simp; rfl
    simp only [Act.put, List.setIfInBounds_toArray, List.set_cons_succ, List.set_cons_zero, List.nil_append, List.cons_append]
    apply Run.valG (wanted_none rfl _)
    · intro w1 h1 hk
      have q0 := h1.cell p0; have q1 := h1.cell p1; have hg := (Fut.drew _).trans h1
      have hcw := fun b o => Below.cell (p := ⟨b, o, none⟩) h1
      exact exec_load_R rowTy _ rfl rfl (hr2.fut hg)
    simp only [Act.put, List.setIfInBounds_toArray, List.set_cons_succ, List.set_cons_zero, List.nil_append, List.cons_append]
    apply Run.valG (wanted_none rfl _)
    · intro w1 h1 hk
      have q0 := h1.cell p0; have q1 := h1.cell p1; have hg := (Fut.drew _).trans h1
      have hcw := fun b o => Below.cell (p := ⟨b, o, none⟩) h1
      go_simp; rfl
    simp only [Act.put, List.setIfInBounds_toArray, List.set_cons_succ, List.set_cons_zero, List.nil_append, List.cons_append]
    apply Run.valG (wanted_none rfl _)
    · intro w1 h1 hk
      have q0 := h1.cell p0; have q1 := h1.cell p1; have hg := (Fut.drew _).trans h1
      have hcw := fun b o => Below.cell (p := ⟨b, o, none⟩) h1
      go_simp; rfl
    simp only [Act.put, List.setIfInBounds_toArray, List.set_cons_succ, List.set_cons_zero, List.nil_append, List.cons_append]
    apply Run.valG (wanted_none rfl _)
    · intro w1 h1 hk
      have q0 := h1.cell p0; have q1 := h1.cell p1; have hg := (Fut.drew _).trans h1
      have hcw := fun b o => Below.cell (p := ⟨b, o, none⟩) h1
      go_simp; rfl
    simp only [Act.put, List.setIfInBounds_toArray, List.set_cons_succ, List.set_cons_zero, List.nil_append, List.cons_append]
    apply Run.valG (wanted_none rfl _)
    · intro w1 h1 hk
      have q0 := h1.cell p0; have q1 := h1.cell p1; have hg := (Fut.drew _).trans h1
      have hcw := fun b o => Below.cell (p := ⟨b, o, none⟩) h1
      go_simp; rfl
    simp only [Act.put, List.setIfInBounds_toArray, List.set_cons_succ, List.set_cons_zero, List.nil_append, List.cons_append]
    apply Run.valG (wanted_none rfl _)
    · intro w1 h1 hk
      have q0 := h1.cell p0; have q1 := h1.cell p1; have hg := (Fut.drew _).trans h1
      have hcw := fun b o => Below.cell (p := ⟨b, o, none⟩) h1
      go_simp; rfl
    simp only [Act.put, List.setIfInBounds_toArray, List.set_cons_succ, List.set_cons_zero, List.nil_append, List.cons_append]
    apply Run.done
    intro w3 h3 hk
    clear hk
    have F3 := F2.trans ((Fut.drew _).trans h3)
    have hr3 := hr2.fut ((Fut.drew _).trans h3)
    have H3 := Lib.hid (H.out.fut F3)
    have hX := X.out
    have hM := H3.out.map
    have hB3 : w.heap.size ≤ w3.heap.size := F3.size
    clear hr hr2
    go_wp2_with (first | (refine wpList_push_R rowTy (wanted_none rfl _) Tryz.underlying95 _ _ _ rfl rfl rfl rfl hM hX hnone ?_; intro w4 hM4 hG4))
    obtain ⟨hne, hlv⟩ := H.out.sep
    have hpb : pb < w.heap.size := H.out.lt pb (.inl rfl)
    have hmb : mb < w.heap.size := H.out.lt mb (.inr (.inl rfl))
    have hown : ∀ k, (Value.slice A xs.length cap).ownBlock = some k → k < w.heap.size := fun k hk => H.out.lt k (.inr (.inr hk))
    have O4 : Only (fun k => k = mb) w3 w4 := Only.grown hG4 (fun k hk => by cases hk; rfl)
    have hr4 := hr3.only O4 (by omega)
    have b4 := O4.keeps H3.out.blk hne
    have p4 := cell_at b4 0 _ rfl
    have L4 := Lib.hid (H3.out.list.onlyR O4 fun k hk => (hlv k hk).2)
    have HM4 := Lib.hid hM4
    clear hM4
    refine wp_graph0 7 [.d, .d, .d, .d, .d, .d, .r (fun v w => SlRep 24 1 RR w v [x])] (by kernel_rfl) (by kernel_rfl) (by kernel_rfl) (by decide) (by intro c v w a o ho h; obtain rfl := Option.some.inj ho; exact h) (by kernel_rfl) ?_
    simp only [List.take_succ_cons, List.take_zero, List.drop_succ_cons, List.drop_zero, Exs]
    iterate 6 apply Exists.intro
    apply Run.valG (wanted_none rfl _)
    · intro w1 h1 hk
      have q0 := h1.cell p4; have hg := (Fut.drew _).trans h1
      have hcw := fun b o => Below.cell (p := ⟨b, o, none⟩) h1
      go_simp; rfl
    simp only [Act.put, List.setIfInBounds_toArray, List.set_cons_succ, List.set_cons_zero, List.nil_append, List.cons_append]
    apply Run.valG (wanted_none rfl _)
    · intro w1 h1 hk
      have q0 := h1.cell p4; have hg := (Fut.drew _).trans h1
      have hcw := fun b o => Below.cell (p := ⟨b, o, none⟩) h1
      go_simp; rfl
    simp only [Act.put, List.setIfInBounds_toArray, List.set_cons_succ, List.set_cons_zero, List.nil_append, List.cons_append]
    apply Run.valG (wanted_none rfl _)
    · intro w1 h1 hk
      have q0 := h1.cell p4; have hg := (Fut.drew _).trans h1
      have hcw := fun b o => Below.cell (p := ⟨b, o, none⟩) h1
      go_simp; rfl
    simp only [Act.put, List.setIfInBounds_toArray, List.set_cons_succ, List.set_cons_zero, List.nil_append, List.cons_append]
    apply Run.valG (wanted_none rfl _)
    · intro w1 h1 hk
      have q0 := h1.cell p4; have hg := (Fut.drew _).trans h1
      have hcw := fun b o => Below.cell (p := ⟨b, o, none⟩) h1
      go_simp; rfl
    simp only [Act.put, List.setIfInBounds_toArray, List.set_cons_succ, List.set_cons_zero, List.nil_append, List.cons_append]
    apply Run.valG (wanted_none rfl _)
    · intro w1 h1 hk
      have q0 := h1.cell p4; have hg := (Fut.drew _).trans h1
      have hcw := fun b o => Below.cell (p := ⟨b, o, none⟩) h1
      go_simp; rfl
    simp only [Act.put, List.setIfInBounds_toArray, List.set_cons_succ, List.set_cons_zero, List.nil_append, List.cons_append]
    apply Run.valG (wanted_none rfl _)
    · intro w1 h1 hk
      have q0 := h1.cell p4; have hg := (Fut.drew _).trans h1
      have hcw := fun b o => Below.cell (p := ⟨b, o, none⟩) h1
      exact exec_load_R rowTy _ rfl rfl (hr4.fut hg)
    simp only [Act.put, List.setIfInBounds_toArray, List.set_cons_succ, List.set_cons_zero, List.nil_append, List.cons_append]
    apply Run.valR (wanted_none rfl _) (by intro v w w' hf hs; exact hs.fut RR.stays hf)
    · intro w1 h1 hk
      have q0 := h1.cell p4; have hg := (Fut.drew _).trans h1
      exact ⟨_, _, exec_one_R rowTy zeroR Tryz.underlying30 _ rfl rfl hX, Fut.alloc _ _, rowOne _ _ hX⟩
    intro v6
    simp only [Act.put, List.setIfInBounds_toArray, List.set_cons_succ, List.set_cons_zero, List.nil_append, List.cons_append]
    apply Run.done
    intro w5 h5 hk
    obtain ⟨f6, _⟩ := hk
    have h5' := (Fut.drew w4).trans h5
    have L5 := L4.out.fut RR.stays h5'
    have b5 := h5'.block b4
    have hB5 : w.heap.size ≤ w5.heap.size := Nat.le_trans hB3 (Nat.le_trans O4.size h5'.size)
    go_wp2_with (first | (refine wpList_append_R (wanted_none rfl _) _ _ rfl Tryz.underlying30 infoR rfl rfl L5 f6 (by simp; omega) (by omega) ?_; intro v7 w7 hO7 hG7 hB7; obtain ⟨A7, cap7, hv7, hc7, _⟩ := hO7.rep.form; have O7 : Only (fun k => (Value.slice A xs.length cap).ownBlock = some k) w5 w7 := Only.grown hG7 (fun k hk => hk); have b7 := O7.keeps b5 (fun h => (hlv pb h).1 rfl); have q7 := cell_at b7 0 _ rfl; have z7 := free_at b7 0; subst hv7))
    go_ret
    have el : (xs ++ [x]).length = xs.length + 1 := by simp
    rw [el] at hO7 hB7
    have hs5 : w3.heap.size ≤ w5.heap.size := Nat.le_trans O4.size h5'.size
    have hv7 : ∀ k, (Value.slice A7 (xs.length + 1) cap7).ownBlock = some k → (Value.slice A xs.length cap).ownBlock = some k ∨ w5.heap.size ≤ k := fun k hk => by
      rcases hB7 with h | h
      · exact .inl (h ▸ hk)
      · rw [h] at hk; cases hk; exact .inr (Nat.le_refl _)
    have OS : Only (fun k => k = pb) w7 (w7.setCell ⟨pb, 0, none⟩ (Value.slice A7 (xs.length + 1) cap7)) := Only.set _ _ rfl
    refine ⟨rfl, _, ⟨set_blk b7, ?_, ?_, H.out.base, ?_⟩, ?_, ?_⟩
    · refine hO7.onlyR OS fun k hk e => ?_
      subst e
      rcases hv7 _ hk with h | h
      · exact (hlv _ h).1 rfl
      · omega
    · rw [← idx_push hin]
      refine HM4.out.kept ?_
      rw [OS.block mb (by have := O7.size; omega) (fun e => hne e.symm), O7.block mb (by omega) (fun h => (hlv mb h).2 rfl), Below.block h5' mb (by have := O4.size; omega)]
    · exact List.nodup_append.2 ⟨H.out.nodup, by simp, fun a ha b hb e => by
        rw [List.mem_singleton] at hb; subst hb; subst e; exact hin ha⟩
    · refine ((((Only.fut (F2.trans ((Fut.drew _).trans h3))).trans (O4.mono fun k _ hk => .inr (.inl hk))).trans (Only.fut h5')).trans (O7.mono fun k _ hk => .inr (.inr hk))).trans (OS.mono fun k _ hk => .inl hk)
    · intro k hk
      rcases hv7 k hk with h | h
      · exact .inl (.inr (.inr h))
      · exact .inr (by omega)
end Go.Proofs.YtijdichfaofjaaaGreatDoor
/- The lists that the book holds: each in memory of its own. Generic; no program. -/
namespace Go.Proofs.YtijdichfaofjaaaGreatDoor
open Go.RowKit
set_option linter.unusedSimpArgs false
set_option linter.unusedVariables false

theorem RH.same (w w' : World) (cs : List Value) (x : Hd) (h : RH w cs x) : RH w' cs x := h
/-- The lists that are held, each in memory of its own. -/
structure Lists {α : Type} (sz B : Nat) (e : TypeId) (R : World → List Value → α → Prop) (w : World) (hs : List Hd) (f : Nat → List α) : Prop where
  each : ∀ (i : Nat) (h : Hd), hs[i]? = some h → OwnL sz B e R w h.l (f i)
  apart : ∀ (i j : Nat) (h k : Hd), hs[i]? = some h → hs[j]? = some k → i ≠ j → ∀ x, h.l.ownBlock = some x → k.l.ownBlock ≠ some x
def ownsL (hs : List Hd) (k : Nat) : Prop := ∃ (i : Nat) (h : Hd), hs[i]? = some h ∧ h.l.ownBlock = some k
/-- All marks. -/
def markF {α : Type} (mk : Int → α) (hs : List Hd) (f : Nat → List α) (i : Nat) : List α := match hs[i]? with
  | some h => List.replicate (f i).length (mk h.n)
  | none => f i
def upTo {α : Type} (k : Nat) (f g : Nat → List α) (i : Nat) : List α := if i < k then f i else g i
theorem markF_at {α : Type} {mk : Int → α} {hs : List Hd} {f : Nat → List α} {i : Nat} {h : Hd} (hi : hs[i]? = some h) : markF mk hs f i = List.replicate (f i).length (mk h.n) := by unfold markF; rw [hi]
theorem set1_spec {arr : Array Value} {q : Nat} {v : Value} (hq : q < arr.size) (j : Nat) : (arr.setIfInBounds q v)[j]? = if q * 1 ≤ j ∧ j < q * 1 + 1 then [v][j - q * 1]? else arr[j]? := by
  rw [Nat.mul_one]
  by_cases h : q = j
  · subst h
    rw [if_pos (by omega)]
    simp [hq]
  · rw [if_neg (by omega), Array.getElem?_setIfInBounds_ne h]
theorem set_held {arr : Array Value} {k : Nat} {l L : Value} {n : Int} (h0 : arr[k * 3]? = some l) (h2 : arr[k * 3 + 2]? = some (.int .i64 n)) (j : Nat) : (arr.setIfInBounds (k * 3 + 1) L)[j]? = if k * 3 ≤ j ∧ j < k * 3 + 3 then (Hd.cells ⟨l, L, n⟩)[j - k * 3]? else arr[j]? := by
  have hs := (Array.getElem?_eq_some_iff.1 h2).1
  by_cases hj : k * 3 ≤ j ∧ j < k * 3 + 3
  · rw [if_pos hj]
    rcases (show j = k * 3 ∨ j = k * 3 + 1 ∨ j = k * 3 + 2 by omega) with rfl | rfl | rfl
    · rw [Array.getElem?_setIfInBounds_ne (by omega), h0, Nat.sub_self]; rfl
    · rw [show k * 3 + 1 - k * 3 = 1 by omega]
      simp [Hd.cells, show k * 3 + 1 < arr.size by omega]
    · rw [Array.getElem?_setIfInBounds_ne (by omega), h2, show k * 3 + 2 - k * 3 = 2 by omega]; rfl
  · rw [if_neg hj, Array.getElem?_setIfInBounds_ne (by omega)]
theorem arr_of_cell {w : World} {g i : Nat} {arr : Array Value} {t : TypeId} {fr : Nat × Nat} {v : Value} (hg : w.heap[g]? = some (.cells arr t fr)) (hc : w.cell? ⟨g, i, none⟩ = some v) : arr[i]? = some v := by
  simpa [World.cell?, hg] using hc
section
variable {α : Type} {sz B M : Nat} {e : TypeId} {R : World → List Value → α → Prop} {w w' : World} {hs : List Hd} {f f' : Nat → List α} {S : Nat → Prop}
theorem Lists.only (h : Lists sz B e R w hs f) (hR : ∀ w w' cs x, R w cs x → R w' cs x) (hf : Only S w w') (hd : ∀ k, ownsL hs k → ¬ S k) : Lists sz B e R w' hs f :=
  ⟨fun i h' hi => (h.each i h' hi).only (fun cs x hr => hR w w' cs x hr) hf fun k hk => hd k ⟨i, h', hi, hk⟩, h.apart⟩
theorem Lists.cong (h : Lists sz B e R w hs f) (he : ∀ i, i < hs.length → f i = f' i) : Lists sz B e R w hs f' :=
  ⟨fun i h' hi => by rw [← he i (List.getElem?_eq_some_iff.1 hi).1]; exact h.each i h' hi, h.apart⟩
theorem Lists.lt (h : Lists sz B e R w hs f) : ∀ k, ownsL hs k → B ≤ k ∧ k < w.heap.size := fun k ⟨i, h', hi, hk⟩ => (h.each i h' hi).block k hk
theorem Lists.typed (h : Lists sz B e R w hs f) : ∀ k, ownsL hs k → ∃ arr, w.heap[k]? = some (.cells arr e (0, 0)) := fun k ⟨i, h', hi, hk⟩ => (h.each i h' hi).typed k hk
/-- One list has become another. -/
theorem Lists.step {k : Nat} {hd : Hd} {ys : List α} (h : Lists sz B e R w hs (upTo k f' f)) (hR : ∀ w w' cs x, R w cs x → R w' cs x) (hk : hs[k]? = some hd) (hf : Only (fun j => hd.l.ownBlock = some j) w w') (hy : OwnL sz B e R w' hd.l ys) (he : f' k = ys) : Lists sz B e R w' hs (upTo (k + 1) f' f) := by
  refine ⟨fun i h' hi => ?_, h.apart⟩
  by_cases hik : i = k
  · subst hik
    obtain rfl := Option.some.inj (hi.symm.trans hk)
    unfold upTo
    rw [if_pos (by omega), he]
    exact hy
  · have h1 := (h.each i h' hi).only (fun cs x hr => hR w w' cs x hr) hf fun j hj he => h.apart i k h' hd hi hk hik j hj he
    have h2 : upTo (k + 1) f' f i = upTo k f' f i := by
      unfold upTo
      by_cases h3 : i < k
      · rw [if_pos h3, if_pos (by omega)]
      · rw [if_neg h3, if_neg (by omega)]
    rw [h2]; exact h1
/-- The entry. -/
theorem held_at {A : Option Addr} {n cap : Nat} (h : SlRep 3 M RH w (.slice A n cap) hs) {k : Nat} (hk : k < hs.length) : ∃ b off l long m, A = some ⟨b, off, none⟩ ∧ hs[k]? = some ⟨l, long, m⟩ ∧
    w.cell? ⟨b, off + k * 3, none⟩ = some l ∧ w.cell? ⟨b, off + k * 3 + 1, none⟩ = some long ∧ w.cell? ⟨b, off + k * 3 + 2, none⟩ = some (.int .i64 m) ∧ (∃ A n c, l = .slice A n c) ∧ ∃ A n c, long = .slice A n c := by
  obtain ⟨A1, cap1, hv, _, _, h3⟩ := h
  obtain ⟨b, off, cs, hA, hl, hc, rfl, h4, h5⟩ := h3 k _ (List.getElem?_eq_getElem hk)
  injection hv with hv _ _
  exact ⟨b, off, _, _, _, hv.trans hA, List.getElem?_eq_getElem hk, hc 0 _ rfl, hc 1 _ rfl, hc 2 _ rfl, h4, h5⟩
theorem mark_set {m : α} {xs : List α} {q : Nat} (hq : q < xs.length) : (List.replicate q m ++ xs.drop q).set q m = List.replicate (q + 1) m ++ xs.drop (q + 1) := by
  rw [List.set_append_right _ _ (by simp)]
  simp only [List.length_replicate, Nat.sub_self]
  rw [List.drop_eq_getElem_cons hq, List.set_cons_zero, List.replicate_succ', List.append_assoc]
  rfl
theorem OwnL.arr {xs : List α} {A : Option Addr} {n c : Nat} (h : OwnL sz B e R w (.slice A n c) xs) {q : Nat} (hq : q < xs.length) : ∃ g arr, A = some ⟨g, 0, none⟩ ∧ n = xs.length ∧ w.heap[g]? = some (.cells arr e (0, 0)) ∧ q * sz + sz ≤ arr.size := by
  obtain ⟨css, h1, h2, h3, h4⟩ := h
  rcases h4 with ⟨_, h5⟩ | ⟨g, cap, cur, hv, a2, a3, a4, a5, a6, a7⟩
  · omega
  · injection hv with hv1 hv2 hv3
    refine ⟨g, cur, hv1, hv2, a3, ?_⟩
    rw [a6]
    have := Nat.mul_le_mul_right sz (show q + 1 ≤ cap by omega)
    rwa [Nat.add_mul, Nat.one_mul] at this
end
/-- The book: how many lists, and the lists of each kind. -/
structure BookAt (tb : TypeId) (w : World) (b : Nat) (n : Int) (vs : Nat → Value) : Prop where
  blk : ∃ arr, w.heap[b]? = some (.cells arr tb (0, 0)) ∧ arr.size = 32 ∧ arr[0]? = some (.int .i64 n) ∧ ∀ j, 1 ≤ j → j < 32 → arr[j]? = some (vs j)
def updV (vs : Nat → Value) (j : Nat) (v : Value) (i : Nat) : Value := if i = j then v else vs i
theorem updV_self {vs : Nat → Value} {j : Nat} {v : Value} : updV vs j v j = v := by unfold updV; rw [if_pos rfl]
theorem updV_ne {vs : Nat → Value} {i j : Nat} {v : Value} (h : i ≠ j) : updV vs j v i = vs i := by unfold updV; rw [if_neg h]
theorem BookAt.only {tb : TypeId} {w w' : World} {b : Nat} {n : Int} {vs : Nat → Value} {S : Nat → Prop} (h : BookAt tb w b n vs) (hf : Only S w w') (hn : ¬ S b) : BookAt tb w' b n vs := by
  obtain ⟨arr, h0, h1⟩ := h.blk
  exact ⟨arr, hf.keeps h0 hn, h1⟩
theorem BookAt.cell {tb : TypeId} {w : World} {b : Nat} {n : Int} {vs : Nat → Value} (h : BookAt tb w b n vs) {j : Nat} (h1 : 1 ≤ j) (h2 : j < 32) : w.cell? ⟨b, j, none⟩ = some (vs j) := by
  obtain ⟨arr, h0, _, _, h3⟩ := h.blk
  exact cell_at h0 j _ (h3 j h1 h2)
theorem BookAt.num {tb : TypeId} {w : World} {b : Nat} {n : Int} {vs : Nat → Value} (h : BookAt tb w b n vs) : w.cell? ⟨b, 0, none⟩ = some (.int .i64 n) := by
  obtain ⟨arr, h0, _, h2, _⟩ := h.blk
  exact cell_at h0 0 _ h2
theorem BookAt.free {tb : TypeId} {w : World} {b : Nat} {n : Int} {vs : Nat → Value} (h : BookAt tb w b n vs) (j : Nat) : w.frozen? ⟨b, j, none⟩ = false := by
  obtain ⟨arr, h0, _⟩ := h.blk
  exact free_at h0 j
theorem BookAt.setN {tb : TypeId} {w : World} {b : Nat} {n m : Int} {vs : Nat → Value} (h : BookAt tb w b n vs) : BookAt tb (w.setCell ⟨b, 0, none⟩ (.int .i64 m)) b m vs := by
  obtain ⟨arr, h0, h1, h2, h3⟩ := h.blk
  refine ⟨_, set_blk h0, by simpa using h1, by simp [h1], fun j hj hj2 => ?_⟩
  rw [Array.getElem?_setIfInBounds_ne (by omega)]
  exact h3 j hj hj2
theorem BookAt.setV {tb : TypeId} {w : World} {b k : Nat} {n : Int} {vs : Nat → Value} {v : Value} (h : BookAt tb w b n vs) (hk : 1 ≤ k) (hk2 : k < 32) : BookAt tb (w.setCell ⟨b, k, none⟩ v) b n (updV vs k v) := by
  obtain ⟨arr, h0, h1, h2, h3⟩ := h.blk
  refine ⟨_, set_blk h0, by simpa using h1, by rw [Array.getElem?_setIfInBounds_ne (by omega)]; exact h2, fun j hj hj2 => ?_⟩
  by_cases hjk : j = k
  · subst hjk; rw [updV_self]; simp [h1, hj2]
  · rw [updV_ne hjk, Array.getElem?_setIfInBounds_ne (fun e => hjk e.symm)]; exact h3 j hj hj2
theorem BookAt.lt {tb : TypeId} {w : World} {b : Nat} {n : Int} {vs : Nat → Value} (h : BookAt tb w b n vs) : b < w.heap.size := lt_of_cell h.num
end Go.Proofs.YtijdichfaofjaaaGreatDoor
/- The lists that the book holds: grown, one by one. Generic. -/
namespace Go.Proofs.YtijdichfaofjaaaGreatDoor
open Go.RowKit
set_option linter.unusedSimpArgs false
set_option linter.unusedVariables false

section
variable {α : Type} {sz B M : Nat} {e : TypeId} {R : World → List Value → α → Prop} {w w' : World} {S : Nat → Prop}
theorem SlRep.onlyB {v : Value} {xs : List α} (h : SlRep sz M R w v xs) (hR : ∀ cs x, R w cs x → R w' cs x) (hf : Only S w w') (hn : ∀ k, v.ownBlock = some k → ¬ S k) : SlRep sz M R w' v xs := by
  obtain ⟨A, cap, rfl, h1, h2, h3⟩ := h
  refine ⟨A, cap, rfl, h1, h2, fun i x hx => ?_⟩
  obtain ⟨b, off, cs, hA, hl, hc, hr⟩ := h3 i x hx
  exact ⟨b, off, cs, hA, hl, fun j c hj => hf.cell (hc j c hj) (hn b (by rw [hA]; rfl)), hR _ _ hr⟩
theorem OwnL.at0 {A : Option Addr} {n c : Nat} {xs : List α} (h : OwnL sz B e R w (.slice A n c) xs) : ∀ a, A = some a → a = ⟨a.block, 0, none⟩ := by
  obtain ⟨css, h1, h2, h3, h4⟩ := h
  intro a ha
  rcases h4 with ⟨h4, _⟩ | ⟨g, cap, cur, hv, _⟩
  · rw [ha] at h4; cases h4
  · injection hv with hv _ _
    rw [ha] at hv
    injection hv with hv
    rw [hv]
/-- What was there before the list grew reads as it read. -/
theorem append_keep {L v' : Value} {A : Option Addr} {n c : Nat} {xs ys : List α} {y : α} (hR : ∀ w w' cs x, R w cs x → R w' cs x) (hl : SlRep sz maxLen R w (.slice A n c) ys) (h0 : ∀ a, A = some a → a = ⟨a.block, 0, none⟩)
    (hx : xs.take n = ys) (hn : n ≤ xs.length) (hg : w.grownBy w' L.ownBlock) (hv : OwnL sz B e R w' v' (xs ++ [y])) (hb : v'.ownBlock = L.ownBlock ∨ v'.ownBlock = some w.heap.size ∧ w.grownBy w' none) : SlRep sz maxLen R w' (.slice A n c) ys := by
  by_cases hs : L.ownBlock = (Value.slice A n c).ownBlock
  · rcases hb with hb | ⟨_, hb⟩
    · cases A with
      | none =>
        obtain ⟨A1, c1, e1, h1, h2, h3⟩ := hl
        refine ⟨A1, c1, e1, h1, h2, fun i x hx => ?_⟩
        obtain ⟨b, off, cs, hA, _⟩ := h3 i x hx
        injection e1 with e1 _ _
        rw [hA] at e1; cases e1
      | some a =>
        obtain ⟨A1, c1, e1, h1, h2⟩ := hv.rep.form
        have h3 := hv.rep
        obtain ⟨B1, c2, e2, h4, h5, _⟩ := hl
        have ea := h0 a rfl
        have hA1 : A1 = some a := by
          rw [hs, e1] at hb
          cases A1 with
          | none => cases hb
          | some a1 =>
            have h6 := (e1 ▸ hv).at0 a1 rfl
            have h7 : a1.block = a.block := by injection hb
            rw [h6, ea, h7]
        rw [e1, hA1] at h3
        injection e2 with e2 e3 e4
        have h8 := SlRep.prefix h3 (m := n) (cap' := c) (M' := maxLen) (by simp; omega) (by omega) (by omega)
        rw [List.take_append_of_le_length hn, hx] at h8
        exact h8
    · exact hl.onlyB (fun cs x h => hR _ _ cs x h) (Only.grown (S := fun _ => False) hb (fun k hk => by cases hk)) (fun k _ h => h)
  · exact hl.onlyB (fun cs x h => hR _ _ cs x h) (Only.grown (S := fun k => L.ownBlock = some k) hg (fun k hk => hk)) (fun k hk h => hs (h.trans hk.symm))
end
theorem wpList_append1 {P : Program} {α : Type} {sz B : Nat} {e e' : TypeId} {R : World → List Value → α → Prop} {ops : Array Oper} {rest : List Oper} {Q : Exit → Act → World → Prop} {o : Oper} {a : Act} {t : TypeId} {z : Value} {bytes : Nat} {w : World} {L : Value} {xs : List α} (hgd : Region.wanted o (yielded ops a.tmps) = true) (s x : Operand)
    (ho : o.op = .call { callee := .builtin .append, args := #[s, x], argTypes := #[t, t] }) (ht : P.underlying t = some (.slice e)) (hinfo : (P.info? e).map (fun i => (i.zero, i.size, i.bytes)) = some (some z, sz, bytes)) (hzs : z.cells.size = sz) (hsz : 0 < sz)
    (hR1 : ∀ w cs x, R w cs x → ∀ u ∈ cs, u.oneCell' = true) (hRk : ∀ w w' cs (x : α), R w cs x → R w' cs x) {b : Nat} {cs : List Value} {y : α}
    (hs : a.eval s = L) (hx : a.eval x = .slice (some ⟨b, 0, none⟩) 1 1) (h : OwnL sz B e R w L xs) (hb : w.heap[b]? = some (Obj.cells cs.toArray e' (0, 0))) (hcl : cs.length = sz) (hy : R w cs y) (h63 : xs.length + 1 ≤ maxLen) (hbytes : (xs.length + 1) * bytes ≤ 140737488355328) (hbase : B ≤ w.heap.size)
    (k : ∀ v' w', OwnL sz B e R w' v' (xs ++ [y]) → w.grownBy w' L.ownBlock → (v'.ownBlock = L.ownBlock ∨ v'.ownBlock = some w.heap.size ∧ w.grownBy w' none) → wpList P ops Q rest (a.put o.dst v') w') : wpList P ops Q (o :: rest) a w := by
  obtain ⟨i, hi, hz, hs', hby⟩ := info_parts hinfo
  obtain ⟨v', w', hr, h2, h3, h4⟩ := run_append1 (P := P) t o.type i z bytes ht hi hz hs' hby hzs hsz hR1 (hRk w) h hb hcl hy h63 hbytes hbase
  refine wpList_of_run hgd ?_ (k v' w' h2 h3 h4)
  unfold execOp
  simp only [ho, resolve, invoke, builtin, Sem.run_bind, Sem.run_pure, Result.andThen_ok, List.map_toArray, List.map_cons, List.map_nil, hs, hx, hr]
/-- How far the lists have grown. -/
structure Grow {α : Type} (sz B : Nat) (e th : TypeId) (R : World → List Value → α → Prop) (mk : Int → α) (w : World) (v : Value) (hs : List Hd) (ns : Nat → Nat) (k : Nat) (W : World) (hs' : List Hd) : Prop where
  held : OwnL 3 B th RH W v hs'
  len : hs'.length = hs.length
  rest : ∀ (i : Nat), k ≤ i → hs'[i]? = hs[i]?
  done : ∀ (i : Nat) (h : Hd), i < k → hs[i]? = some h → ∃ L, hs'[i]? = some ⟨h.l, L, h.n⟩ ∧ SlRep sz maxLen R W h.l (List.replicate (ns i) (mk h.n)) ∧ SlRep sz maxLen R W L (List.replicate (ns i + 70) (mk h.n)) ∧ ∀ x, L.ownBlock = some x → h.l.ownBlock = some x ∨ w.heap.size ≤ x
  todo : ∀ (i : Nat) (h : Hd), k ≤ i → hs[i]? = some h → OwnL sz B e R W h.l (List.replicate (ns i) (mk h.n))
  only : Only (fun x => ownsL hs x ∨ v.ownBlock = some x) w W
theorem Grow.step {α : Type} {sz B : Nat} {e th : TypeId} {R : World → List Value → α → Prop} {mk : Int → α} {w : World} {v : Value} {hs hs' : List Hd} {ns : Nat → Nat} {k : Nat} {W w1 w2 : World} {hd : Hd} {L : Value} (h : Grow sz B e th R mk w v hs ns k W hs') (hR : ∀ w w' cs x, R w cs x → R w' cs x)
    (apart : ∀ (i j : Nat) (h k : Hd), hs[i]? = some h → hs[j]? = some k → i ≠ j → ∀ x, h.l.ownBlock = some x → k.l.ownBlock ≠ some x) (hlow : ∀ x, ownsL hs x → x < w.heap.size) (hv : ∀ x, v.ownBlock = some x → x < w.heap.size ∧ ¬ ownsL hs x)
    (hk : hs[k]? = some hd) (O1 : Only (fun j => hd.l.ownBlock = some j) W w1) (hl : SlRep sz maxLen R w1 hd.l (List.replicate (ns k) (mk hd.n))) (hL : SlRep sz maxLen R w1 L (List.replicate (ns k + 70) (mk hd.n))) (hLb : ∀ x, L.ownBlock = some x → hd.l.ownBlock = some x ∨ W.heap.size ≤ x)
    (O2 : Only (fun j => v.ownBlock = some j) w1 w2) (hH : OwnL 3 B th RH w2 v (hs'.set k ⟨hd.l, L, hd.n⟩)) : Grow sz B e th R mk w v hs ns (k + 1) w2 (hs'.set k ⟨hd.l, L, hd.n⟩) := by
  have hkl : k < hs'.length := by rw [h.len]; exact (List.getElem?_eq_some_iff.1 hk).1
  have hWs := h.only.size
  refine ⟨hH, by rw [List.length_set]; exact h.len, fun i hi => by rw [List.getElem?_set_ne (by omega)]; exact h.rest i (by omega), fun i h' hi hi' => ?_, fun i h' hi hi' => ?_, ?_⟩
  · by_cases hik : i = k
    · subst hik
      obtain rfl := Option.some.inj (hi'.symm.trans hk)
      refine ⟨L, by rw [List.getElem?_set_self hkl], hl.onlyB (fun cs x hr => hR _ _ cs x hr) O2 fun x hx hvx => (hv x hvx).2 ⟨i, h', hi', hx⟩, hL.onlyB (fun cs x hr => hR _ _ cs x hr) O2 fun x hx hvx => ?_, fun x hx => (hLb x hx).imp id fun h => by omega⟩
      rcases hLb x hx with h1 | h1
      · exact (hv x hvx).2 ⟨i, h', hi', h1⟩
      · have := (hv x hvx).1; omega
    · obtain ⟨L', e1, e2, e3, e4⟩ := h.done i h' (by omega) hi'
      refine ⟨L', by rw [List.getElem?_set_ne (fun e => hik e.symm)]; exact e1, ?_, ?_, e4⟩
      · exact (e2.onlyB (fun cs x hr => hR _ _ cs x hr) O1 fun x hx hx2 => apart i k h' hd hi' hk hik x hx hx2).onlyB (fun cs x hr => hR _ _ cs x hr) O2 fun x hx hvx => (hv x hvx).2 ⟨i, h', hi', hx⟩
      · refine (e3.onlyB (fun cs x hr => hR _ _ cs x hr) O1 fun x hx hx2 => ?_).onlyB (fun cs x hr => hR _ _ cs x hr) O2 fun x hx hvx => ?_
        · rcases e4 x hx with h1 | h1
          · exact apart i k h' hd hi' hk hik x h1 hx2
          · have := hlow x ⟨k, hd, hk, hx2⟩; omega
        · rcases e4 x hx with h1 | h1
          · exact (hv x hvx).2 ⟨i, h', hi', h1⟩
          · have := (hv x hvx).1; omega
  · exact ((h.todo i h' (by omega) hi').only (fun cs x hr => hR _ _ cs x hr) O1 fun x hx hx2 => apart i k h' hd hi' hk (by omega) x hx hx2).only (fun cs x hr => hR _ _ cs x hr) O2 fun x hx hvx => (hv x hvx).2 ⟨i, h', hi', hx⟩
  · exact (h.only.trans (O1.mono fun x _ hx => .inl ⟨k, hd, hk, hx⟩)).trans (O2.mono fun x _ hx => .inr hx)
/-- What look looks at. -/
def Looks {α : Type} (sz : Nat) (R : World → List Value → α → Prop) (mk : Int → α) (ns : Nat → Nat) (W : World) (hs' : List Hd) : Prop :=
  ∀ (i : Nat) (h : Hd), hs'[i]? = some h → SlRep sz maxLen R W h.l (List.replicate (ns i) (mk h.n)) ∧ SlRep sz maxLen R W h.long (List.replicate (ns i + 70) (mk h.n))
theorem Grow.looks {α : Type} {sz B : Nat} {e th : TypeId} {R : World → List Value → α → Prop} {mk : Int → α} {w : World} {v : Value} {hs hs' : List Hd} {ns : Nat → Nat} {W W' : World} {S : Nat → Prop} (h : Grow sz B e th R mk w v hs ns hs.length W hs') (hR : ∀ w w' cs x, R w cs x → R w' cs x)
    (hf : Only S W W') (hd : ∀ k, S k → k < w.heap.size ∧ ¬ ownsL hs k ∧ v.ownBlock ≠ some k) : OwnL 3 B th RH W' v hs' ∧ Looks sz R mk ns W' hs' := by
  refine ⟨h.held.only (RH.same _ _) hf fun k hk hs => (hd k hs).2.2 hk, fun i h' hi => ?_⟩
  have hl : i < hs.length := by rw [← h.len]; exact (List.getElem?_eq_some_iff.1 hi).1
  obtain ⟨L, e1, e2, e3, e4⟩ := h.done i hs[i] hl (List.getElem?_eq_getElem hl)
  rw [hi] at e1
  obtain rfl := Option.some.inj e1
  refine ⟨e2.onlyB (fun cs x hr => hR _ _ cs x hr) hf fun k hk hs' => (hd k hs').2.1 ⟨i, _, List.getElem?_eq_getElem hl, hk⟩, e3.onlyB (fun cs x hr => hR _ _ cs x hr) hf fun k hk hs' => ?_⟩
  rcases e4 k hk with h5 | h5
  · exact (hd k hs').2.1 ⟨i, _, List.getElem?_eq_getElem hl, h5⟩
  · have := (hd k hs').1; omega
theorem Looks.fut {α : Type} {sz : Nat} {R : World → List Value → α → Prop} {mk : Int → α} {ns : Nat → Nat} {W W' : World} {hs' : List Hd} (h : Looks sz R mk ns W hs') (hR : Stays R) (hf : Fut W W') : Looks sz R mk ns W' hs' := fun i h' hi => ⟨(h i h' hi).1.fut hR hf, (h i h' hi).2.fut hR hf⟩
/-- A block's type. -/
def Ty (w : World) (t : TypeId) (k : Nat) : Prop := ∃ arr, w.heap[k]? = some (.cells arr t (0, 0))
theorem Ty.ne {w : World} {t t' : TypeId} {k k' : Nat} (h : Ty w t k) (h' : Ty w t' k') (hn : t ≠ t') : k ≠ k' := fun e => by
  obtain ⟨a, h⟩ := h
  obtain ⟨a', h'⟩ := h'
  rw [e, h'] at h
  injection h with h
  injection h with _ h
  exact hn h.symm
end Go.Proofs.YtijdichfaofjaaaGreatDoor
/- Masks: one bit; a row with some columns cleared. No program. -/
namespace Go.Proofs.YtijdichfaofjaaaGreatDoor
open Go.RowKit Go.WideMaps
set_option linter.unusedSimpArgs false
set_option linter.unusedVariables false

theorem u32_same (n : Int) (h0 : 0 ≤ n) (h1 : n < 2 ^ 32) : IntKind.u32.wrap n = n := by rw [IntKind.wrap_u32]; omega
theorem and_u32 {a b : Nat} (ha : a < 2 ^ 32) (hb : b < 2 ^ 32) : bits .and .u32 (a : Int) (b : Int) = ((a &&& b : Nat) : Int) := (bits_nat .u32 32 (by decide) u32_same a b ha hb).1
theorem or_u32 {a b : Nat} (ha : a < 2 ^ 32) (hb : b < 2 ^ 32) : bits .or .u32 (a : Int) (b : Int) = ((a ||| b : Nat) : Int) := (bits_nat .u32 32 (by decide) u32_same a b ha hb).2
theorem shl_u32 {k : Nat} (hk : k < 24) : IntKind.u32.wrap (2 ^ k) = ((2 ^ k : Nat) : Int) := by
  have h : (2 : Nat) ^ k < 2 ^ 32 := Nat.pow_lt_pow_right (by decide) (by omega)
  rw [u32_same _ (Int.pow_nonneg (by decide)) (by exact_mod_cast h)]
  simp
theorem and_bit {m k : Nat} (hm : m < 2 ^ 32) (hk : k < 24) : (bits .and .u32 (m : Int) ((2 ^ k : Nat) : Int) = 0) ↔ m.testBit k = false := by
  have h : (2 : Nat) ^ k < 2 ^ 32 := Nat.pow_lt_pow_right (by decide) (by omega)
  rw [and_u32 hm h]
  have e : m &&& 2 ^ k = 0 ↔ m.testBit k = false := by
    constructor
    · intro h0
      have := congrArg (Nat.testBit · k) h0
      simpa [Nat.testBit_and, Nat.testBit_two_pow] using this
    · intro h0
      refine Nat.eq_of_testBit_eq fun i => ?_
      simp only [Nat.testBit_and, Nat.testBit_two_pow, Nat.zero_testBit]
      by_cases hi : k = i
      · subst hi; simp [h0]
      · simp [hi]
  rw [← e]
  omega
theorem shr_bit {m k : Nat} (hm : m < 2 ^ 32) : (bits .and .u32 ((m / 2 ^ k : Nat) : Int) 1 = 0) ↔ m.testBit k = false := by
  have h1 : m / 2 ^ k < 2 ^ 32 := Nat.lt_of_le_of_lt (Nat.div_le_self _ _) hm
  have := and_u32 (a := m / 2 ^ k) (b := 1) h1 (by decide)
  rw [show ((1 : Nat) : Int) = 1 from rfl] at this
  rw [this, Nat.and_one_is_mod, Nat.testBit_eq_decide_div_mod_eq]
  have h2 := Nat.mod_two_eq_zero_or_one (m / 2 ^ k)
  rw [decide_eq_false_iff_not]
  omega

/-- Is the column off? -/
def offB (ar m i : Nat) : Bool := decide (ar ≤ i) || !m.testBit i
/-- The columns off, below k, cleared. -/
def cutK (ar m k : Nat) (x : Rw) : Rw := x.mapIdx fun i a => if i < k ∧ offB ar m i = true then 0 else a
def cutL (ar m : Nat) (x : Rw) : Rw := cutK ar m 24 x
theorem cutK_len (ar m k : Nat) (x : Rw) : (cutK ar m k x).length = x.length := by simp [cutK]
theorem cutK_at (ar m k : Nat) (x : Rw) (i : Nat) : (cutK ar m k x)[i]? = x[i]?.map fun a => if i < k ∧ offB ar m i = true then 0 else a := by simp [cutK]
theorem cutK_zero (ar m : Nat) (x : Rw) : cutK ar m 0 x = x := by
  refine List.ext_getElem? fun i => ?_
  rw [cutK_at]
  simp
theorem cutK_keep {ar m k : Nat} {x : Rw} (h : offB ar m k = false) : cutK ar m (k + 1) x = cutK ar m k x := by
  refine List.ext_getElem? fun i => ?_
  rw [cutK_at, cutK_at]
  congr 1
  funext a
  by_cases hi : i = k
  · subst hi; simp [h]
  · by_cases hik : i < k
    · simp [hik, show i < k + 1 by omega]
    · simp [hik, show ¬ i < k + 1 by omega]
theorem cutK_set {ar m k : Nat} {x : Rw} (h : offB ar m k = true) : cutK ar m (k + 1) x = (cutK ar m k x).set k 0 := by
  refine List.ext_getElem? fun i => ?_
  rw [cutK_at, List.getElem?_set, cutK_at, cutK_len]
  by_cases hi : k = i
  · subst hi
    by_cases hl : k < x.length
    · simp [h, hl]
    · simp [hl]
  · rw [if_neg hi]
    congr 1
    funext a
    by_cases hik : i < k
    · simp [hik, show i < k + 1 by omega]
    · simp [hik, show ¬ i < k + 1 by omega]
theorem cutK_ok {ar m k : Nat} {x : Rw} (hx : Rw.ok x) : Rw.ok (cutK ar m k x) := ⟨by rw [cutK_len]; exact hx.1, fun a ha => by
  obtain ⟨i, hi⟩ := List.getElem?_of_mem ha
  rw [cutK_at, Option.map_eq_some_iff] at hi
  obtain ⟨b, hb, rfl⟩ := hi
  split
  · decide
  · exact hx.2 b (List.mem_of_getElem? hb)⟩
/-- Which rows agree where the mask asks. -/
theorem cutL_eq {ar m : Nat} {x y : Rw} (hx : Rw.ok x) (hy : Rw.ok y) : cutL ar m x = cutL ar m y ↔ ∀ i, i < 24 → offB ar m i = false → x[i]? = y[i]? := by
  unfold cutL
  constructor
  · intro h i hi hb
    have := congrArg (·[i]?) h
    simp only [cutK_at, hb, and_false, Bool.false_eq_true, ↓reduceIte, Option.map_id'] at this
    exact this
  · intro h
    refine List.ext_getElem? fun i => ?_
    rw [cutK_at, cutK_at]
    by_cases hi : i < 24
    · cases hb : offB ar m i with
      | false => rw [h i hi hb]
      | true =>
        rw [List.getElem?_eq_getElem (by rw [hx.1]; exact hi), List.getElem?_eq_getElem (by rw [hy.1]; exact hi)]
        simp [hi]
    · rw [List.getElem?_eq_none (by rw [hx.1]; omega), List.getElem?_eq_none (by rw [hy.1]; omega)]
/-- One cell of a row's block is written. -/
theorem set_row {w : World} {g k : Nat} {t : TypeId} {x : Rw} (hb : w.heap[g]? = some (.cells (Rw.cells x).toArray t (0, 0))) (v : Int) :
    (w.setCell ⟨g, k, none⟩ (.int .i32 v)).heap[g]? = some (.cells (Rw.cells (x.set k v)).toArray t (0, 0)) := by
  simp [World.setCell, Array.getElem?_modify, hb, Rw.cells, List.map_set]
end Go.Proofs.YtijdichfaofjaaaGreatDoor
