/- places.put; Add. -/
import Derived.Test.YtcekphjcmippoaaRelR
import Derived.Test.YtcekphjcmippoaaGraph0
import Derived.Test.YtcekphjcmippoaaOwnAt
import Derived.Test.YtcekphjcmippoaaFill
namespace Go.Proofs.Ytcekphjcmippoaa
open Go.RowKit Go.WideMaps
set_option linter.unusedSimpArgs false
set_option linter.unusedVariables false

/-- A list of one row, just built. -/
theorem rowOne (w : World) (t : TypeId) {x : Rw} (hx : Rw.ok x) : SlRep 24 1 RR (w.alloc (.cells (Rw.cells x).toArray t)) (.slice (some ⟨w.heap.size, 0, none⟩) 1 1) [x] :=
  ⟨_, _, rfl, Nat.le_refl _, Nat.le_refl _, fun i y hy => by
    have hi : i = 0 := by
      have := (List.getElem?_eq_some_iff.1 hy).1
      simp at this; omega
    subst hi
    simp at hy
    subst hy
    refine ⟨_, 0, Rw.cells x, rfl, Rw.cells_len hx, fun j c hj => ?_, rfl, hx⟩
    have := (RowAt.new w t hx).2 j c hj
    rwa [Nat.zero_mul, show 0 + (0 + j) = 0 + j by omega]⟩
/-- APPEND of rows. -/
theorem run_append_R {P : Program} {t ty e : TypeId} {B : Nat} {w : World} {v u : Value} {xs ys : List Rw} {M : Nat} (ht : P.underlying t = some (.slice e))
    (hinfo : (P.info? e).map (fun i => (i.zero, i.size, i.bytes)) = some (some (Rw.val zeroRow), 24, 96))
    (h : OwnL 24 B e RR w v xs) (hu : SlRep 24 M RR w u ys) (hlen : xs.length + ys.length ≤ 1407374883512) (hbase : B ≤ w.heap.size) :
    ∃ v' w', (Builtin.append_ #[t, t] ty #[v, u]).run P w = .ok v' w' ∧ OwnL 24 B e RR w' v' (xs ++ ys) ∧ w.grownBy w' v.ownBlock ∧ (v'.ownBlock = v.ownBlock ∨ v'.ownBlock = some w.heap.size) := by
  obtain ⟨i, hi, hz, hs, hb⟩ := info_parts hinfo
  exact run_append_list_at t ty i _ 96 ht hi hz hs hb rfl (by omega) RR.one (fun _ _ _ h _ => h) h hu (by unfold maxLen; omega) (by omega) hbase
theorem wpList_append_R {P : Program} {ops : Array Oper} {rest : List Oper} {o : Oper} {a : Act} {Q : Exit → Act → World → Prop} {t e : TypeId} {B : Nat} {w : World} {v u : Value} {xs ys : List Rw} {M : Nat} (hgd : Region.wanted o (yielded ops a.tmps) = true) (s x : Operand)
    (ho : o.op = .call { callee := .builtin .append, args := #[s, x], argTypes := #[t, t] }) (ht : P.underlying t = some (.slice e))
    (hinfo : (P.info? e).map (fun i => (i.zero, i.size, i.bytes)) = some (some (Rw.val zeroRow), 24, 96))
    (hs : a.eval s = v) (hx : a.eval x = u) (hown : OwnL 24 B e RR w v xs) (hu : SlRep 24 M RR w u ys) (hlen : xs.length + ys.length ≤ 1407374883512) (hbase : B ≤ w.heap.size)
    (h : ∀ v' w', OwnL 24 B e RR w' v' (xs ++ ys) → w.grownBy w' v.ownBlock → (v'.ownBlock = v.ownBlock ∨ v'.ownBlock = some w.heap.size) → wpList P ops Q rest (a.put o.dst v') w') : wpList P ops Q (o :: rest) a w := by
  obtain ⟨v', w', hr, h2, h3, h4⟩ := run_append_R (ty := o.type) ht hinfo hown hu hlen hbase
  refine wpList_of_run hgd (v := v') (w' := w') ?_ (h v' w' h2 h3 h4)
  unfold execOp
  simp only [ho, resolve, invoke, builtin, Sem.run_bind, Sem.run_pure, Result.andThen_ok, List.map_toArray, List.map_cons, List.map_nil, hs, hx, hr]
theorem wpList_push_R {P : Program} {k e t ev : TypeId} {ops : Array Oper} {rest : List Oper} {o : Oper} {a : Act} {Q : Exit → Act → World → Prop} {w : World} {b : Nat} {f : Rw → Option Int} {x : Rw} {v : Int} (T : RowTy P k e) (hgd : Region.wanted o (yielded ops a.tmps) = true) (ht : P.underlying t = some (.map k ev)) (m y z : Operand)
    (ho : o.op = .mapUpdate t m y z) (hm : a.eval m = .map (some b)) (hy : a.eval y = Rw.val x) (hz : a.eval z = .int .i64 v) (h : MapR w b f) (hx : Rw.ok x) (hn : f x = none)
    (hk : ∀ w', MapR w' b (fun y => if y = x then some v else f y) → w.grownBy w' (some b) → wpList P ops Q rest (a.put o.dst undef) w') : wpList P ops Q (o :: rest) a w := by
  obtain ⟨w', hr, h2, h3⟩ := h.push T.A T.he T.hsz ht hx hn v
  refine wpList_of_skip hgd (w' := w') ?_ (hk w' h2 h3)
  unfold execOp
  simp only [ho, hm, hy, hz, hr, Sem.run_bind, Sem.run_pure, Result.andThen_ok]

theorem OwnL.onlyR {B : Nat} {e : TypeId} {w w' : World} {v : Value} {xs : List Rw} {S : Nat → Prop} (h : OwnL 24 B e RR w v xs) (hg : Only S w w') (hne : ∀ k, v.ownBlock = some k → ¬ S k) : OwnL 24 B e RR w' v xs :=
  h.only (fun _ _ h => h) hg hne
theorem zeroR : ∃ z, (Try.prog.info? 32).bind (·.zero) = some z ∧ z.cells.size = 24 := ⟨Rw.val zeroRow, by kernel_rfl, rfl⟩
theorem set_blk {w : World} {g i : Nat} {cs : Array Value} {t : TypeId} {fr : Nat × Nat} {v : Value} (h : w.heap[g]? = some (.cells cs t fr)) : (w.setCell ⟨g, i, none⟩ v).heap[g]? = some (.cells (cs.setIfInBounds i v) t fr) := by
  simp [World.setCell, Array.getElem?_modify, h]
theorem PlI.sep {B : Nat} {w : World} {pb mb : Nat} {lv : Value} {xs : List Rw} (h : PlI B w pb mb lv xs) : pb ≠ mb ∧ ∀ k, lv.ownBlock = some k → k ≠ pb ∧ k ≠ mb := by
  obtain ⟨es, c, hm, _⟩ := h.map
  refine ⟨fun e => ?_, fun k hk => ⟨fun e => ?_, fun e => ?_⟩⟩
  · subst e; have := h.blk; rw [hm] at this; cases this
  · subst e
    obtain ⟨arr, h1⟩ := h.list.typed _ hk
    have := h.blk
    rw [h1] at this
    injection this with h2
    injection h2 with _ h3
    revert h3
    decide
  · subst e
    obtain ⟨arr, h1⟩ := h.list.typed _ hk
    rw [hm] at h1; cases h1
set_option maxHeartbeats 1600000 in
set_option maxRecDepth 100000 in
theorem put_any {B : Nat} {w : World} {pb mb : Nat} {lv : Value} {xs : List Rw} (h : PlI B w pb mb lv xs) (hB : B ≤ w.heap.size) (x : Rw) (hx : Rw.ok x) (hl : xs.length < 1407374883512) :
    Calls Try.prog 31 #[.pointer (some ⟨pb, 0, none⟩), Rw.val x] w fun e w' => ∃ lv', e = .returned (.bool (!decide (x ∈ xs))) ∧ PlI B w' pb mb lv' (if x ∈ xs then xs else xs ++ [x]) ∧ Only (pfoot pb mb lv) w w' ∧ ∀ k, lv'.ownBlock = some k → pfoot pb mb lv k ∨ w.heap.size ≤ k := by
  have H := Lib.hid h
  have X := Lib.hid hx
  clear h hx
  unfold Rw.val
  go_enter Try.func31, Try.ntmps31
  go_wp2_with fail
  have hr := RowAt.new w 32 X.out
  have F1 := Fut.alloc w (.cells (Rw.cells x).toArray 32)
  obtain ⟨W1, hW⟩ : ∃ W1, w.alloc (.cells (Rw.cells x).toArray 32) = W1 := ⟨_, rfl⟩
  rw [hW] at hr F1 ⊢
  have hsz : W1.heap.size = w.heap.size + 1 := by rw [← hW]; simp
  clear hW
  have p1 := F1.cell (cell_at H.out.blk 1 _ rfl)
  refine wp_graph 11 [.d, .d, .d, .d, .d, .d, .d, .d, .d, .d, .d] (by kernel_rfl) (by kernel_rfl) (by kernel_rfl) ?_
  simp only [List.take_succ_cons, List.take_zero, List.drop_succ_cons, List.drop_zero, Exs]
  iterate 11 apply Exists.intro
  apply Run.valG (wanted_none rfl _)
  · intro w1 h1 hk
    have q1 := h1.cell p1; have hg := (Fut.drew _).trans h1
    have hcw := fun b o => Below.cell (p := ⟨b, o, none⟩) h1
    go_simp; rfl
  simp only [Act.put, List.setIfInBounds_toArray, List.set_cons_succ, List.set_cons_zero, List.nil_append, List.cons_append]
  apply Run.valG (wanted_none rfl _)
  · intro w1 h1 hk
    have q1 := h1.cell p1; have hg := (Fut.drew _).trans h1
    have hcw := fun b o => Below.cell (p := ⟨b, o, none⟩) h1
    go_simp; rfl
  simp only [Act.put, List.setIfInBounds_toArray, List.set_cons_succ, List.set_cons_zero, List.nil_append, List.cons_append]
  apply Run.valG (wanted_none rfl _)
  · intro w1 h1 hk
    have q1 := h1.cell p1; have hg := (Fut.drew _).trans h1
    have hcw := fun b o => Below.cell (p := ⟨b, o, none⟩) h1
    go_simp; rfl
  simp only [Act.put, List.setIfInBounds_toArray, List.set_cons_succ, List.set_cons_zero, List.nil_append, List.cons_append]
  apply Run.valG (wanted_none rfl _)
  · intro w1 h1 hk
    have q1 := h1.cell p1; have hg := (Fut.drew _).trans h1
    have hcw := fun b o => Below.cell (p := ⟨b, o, none⟩) h1
    go_simp; rfl
  simp only [Act.put, List.setIfInBounds_toArray, List.set_cons_succ, List.set_cons_zero, List.nil_append, List.cons_append]
  apply Run.valG (wanted_none rfl _)
  · intro w1 h1 hk
    have q1 := h1.cell p1; have hg := (Fut.drew _).trans h1
    have hcw := fun b o => Below.cell (p := ⟨b, o, none⟩) h1
    exact exec_load_R rowTy _ rfl rfl (hr.fut hg)
  simp only [Act.put, List.setIfInBounds_toArray, List.set_cons_succ, List.set_cons_zero, List.nil_append, List.cons_append]
  apply Run.valG (wanted_none rfl _)
  · intro w1 h1 hk
    have q1 := h1.cell p1; have hg := (Fut.drew _).trans h1
    have hcw := fun b o => Below.cell (p := ⟨b, o, none⟩) h1
    exact exec_lookup_R rowTy Try.underlying75 zeroI _ _ rfl rfl rfl (H.out.fut (F1.trans hg)).map X.out
  simp only [Act.put, List.setIfInBounds_toArray, List.set_cons_succ, List.set_cons_zero, List.nil_append, List.cons_append]
  apply Run.valG (wanted_none rfl _)
  · intro w1 h1 hk
    have q1 := h1.cell p1; have hg := (Fut.drew _).trans h1
    have hcw := fun b o => Below.cell (p := ⟨b, o, none⟩) h1
    go_simp; rfl
  simp only [Act.put, List.setIfInBounds_toArray, List.set_cons_succ, List.set_cons_zero, List.nil_append, List.cons_append]
  apply Run.valG (wanted_none rfl _)
  · intro w1 h1 hk
    have q1 := h1.cell p1; have hg := (Fut.drew _).trans h1
    have hcw := fun b o => Below.cell (p := ⟨b, o, none⟩) h1
    go_simp; rfl
  simp only [Act.put, List.setIfInBounds_toArray, List.set_cons_succ, List.set_cons_zero, List.nil_append, List.cons_append]
  apply Run.valG (wanted_none rfl _)
  · intro w1 h1 hk
    have q1 := h1.cell p1; have hg := (Fut.drew _).trans h1
    have hcw := fun b o => Below.cell (p := ⟨b, o, none⟩) h1
    go_simp; rfl
  simp only [Act.put, List.setIfInBounds_toArray, List.set_cons_succ, List.set_cons_zero, List.nil_append, List.cons_append]
  apply Run.valG (wanted_none rfl _)
  · intro w1 h1 hk
    have q1 := h1.cell p1; have hg := (Fut.drew _).trans h1
    have hcw := fun b o => Below.cell (p := ⟨b, o, none⟩) h1
    go_simp; rfl
  simp only [Act.put, List.setIfInBounds_toArray, List.set_cons_succ, List.set_cons_zero, List.nil_append, List.cons_append]
  apply Run.valG (wanted_none rfl _)
  · intro w1 h1 hk
    have q1 := h1.cell p1; have hg := (Fut.drew _).trans h1
    have hcw := fun b o => Below.cell (p := ⟨b, o, none⟩) h1
    go_simp; rfl
  simp only [Act.put, List.setIfInBounds_toArray, List.set_cons_succ, List.set_cons_zero, List.nil_append, List.cons_append]
  apply Run.done
  intro w2 h2 hk
  clear hk
  by_cases hin : x ∈ xs
  · have hs : (idx xs x).isSome = true := by rw [idx_isSome]; exact decide_eq_true hin
    rw [hs]
    go_wp2
    go_ret
    exact ⟨rfl, _, H.out.fut (F1.trans ((Fut.drew _).trans h2)), Only.fut (F1.trans ((Fut.drew _).trans h2)), fun k hk => .inl (.inr (.inr hk))⟩
  · have hs : (idx xs x).isSome = false := by rw [idx_isSome]; exact decide_eq_false hin
    have hnone : idx xs x = none := by simpa using hs
    obtain ⟨A, cap, rfl, hcl, hcm⟩ := H.out.form
    have F2 := F1.trans ((Fut.drew _).trans h2)
    have hr2 := hr.fut ((Fut.drew _).trans h2)
    have p0 := F2.cell (cell_at H.out.blk 0 _ rfl)
    have p1 := F2.cell (cell_at H.out.blk 1 _ rfl)
    rw [hs]
    go_wp2_with fail
    refine wp_graph 10 [.d, .d, .d, .d, .d, .d, .d, .d, .d, .d] (by kernel_rfl) (by kernel_rfl) (by kernel_rfl) ?_
    simp only [List.take_succ_cons, List.take_zero, List.drop_succ_cons, List.drop_zero, Exs]
    iterate 10 apply Exists.intro
    apply Run.valG (wanted_none rfl _)
    · intro w1 h1 hk
      have q0 := h1.cell p0; have q1 := h1.cell p1; have hg := (Fut.drew _).trans h1
      have hcw := fun b o => Below.cell (p := ⟨b, o, none⟩) h1
      go_simp; rfl
    simp only [Act.put, List.setIfInBounds_toArray, List.set_cons_succ, List.set_cons_zero, List.nil_append, List.cons_append]
    apply Run.valG (wanted_none rfl _)
    · intro w1 h1 hk
      have q0 := h1.cell p0; have q1 := h1.cell p1; have hg := (Fut.drew _).trans h1
      have hcw := fun b o => Below.cell (p := ⟨b, o, none⟩) h1
      go_simp; rfl
    simp only [Act.put, List.setIfInBounds_toArray, List.set_cons_succ, List.set_cons_zero, List.nil_append, List.cons_append]
    apply Run.valG (wanted_none rfl _)
    · intro w1 h1 hk
      have q0 := h1.cell p0; have q1 := h1.cell p1; have hg := (Fut.drew _).trans h1
      have hcw := fun b o => Below.cell (p := ⟨b, o, none⟩) h1
      go_simp; rfl
    simp only [Act.put, List.setIfInBounds_toArray, List.set_cons_succ, List.set_cons_zero, List.nil_append, List.cons_append]
    apply Run.valG (wanted_none rfl _)
    · intro w1 h1 hk
      have q0 := h1.cell p0; have q1 := h1.cell p1; have hg := (Fut.drew _).trans h1
      have hcw := fun b o => Below.cell (p := ⟨b, o, none⟩) h1
      go_simp; rfl
    simp only [Act.put, List.setIfInBounds_toArray, List.set_cons_succ, List.set_cons_zero, List.nil_append, List.cons_append]
    apply Run.valG (wanted_none rfl _)
    · intro w1 h1 hk
      have q0 := h1.cell p0; have q1 := h1.cell p1; have hg := (Fut.drew _).trans h1
      have hcw := fun b o => Below.cell (p := ⟨b, o, none⟩) h1
      exact exec_load_R rowTy _ rfl rfl (hr2.fut hg)
    simp only [Act.put, List.setIfInBounds_toArray, List.set_cons_succ, List.set_cons_zero, List.nil_append, List.cons_append]
    apply Run.valG (wanted_none rfl _)
    · intro w1 h1 hk
      have q0 := h1.cell p0; have q1 := h1.cell p1; have hg := (Fut.drew _).trans h1
      have hcw := fun b o => Below.cell (p := ⟨b, o, none⟩) h1
      go_simp; rfl
    simp only [Act.put, List.setIfInBounds_toArray, List.set_cons_succ, List.set_cons_zero, List.nil_append, List.cons_append]
    apply Run.valG (wanted_none rfl _)
    · intro w1 h1 hk
      have q0 := h1.cell p0; have q1 := h1.cell p1; have hg := (Fut.drew _).trans h1
      have hcw := fun b o => Below.cell (p := ⟨b, o, none⟩) h1
      go_simp; rfl
    simp only [Act.put, List.setIfInBounds_toArray, List.set_cons_succ, List.set_cons_zero, List.nil_append, List.cons_append]
    apply Run.valG (wanted_none rfl _)
    · intro w1 h1 hk
      have q0 := h1.cell p0; have q1 := h1.cell p1; have hg := (Fut.drew _).trans h1
      have hcw := fun b o => Below.cell (p := ⟨b, o, none⟩) h1
      go_simp; rfl
    simp only [Act.put, List.setIfInBounds_toArray, List.set_cons_succ, List.set_cons_zero, List.nil_append, List.cons_append]
    apply Run.valG (wanted_none rfl _)
    · intro w1 h1 hk
      have q0 := h1.cell p0; have q1 := h1.cell p1; have hg := (Fut.drew _).trans h1
      have hcw := fun b o => Below.cell (p := ⟨b, o, none⟩) h1
      go_simp; rfl
    simp only [Act.put, List.setIfInBounds_toArray, List.set_cons_succ, List.set_cons_zero, List.nil_append, List.cons_append]
    apply Run.valG (wanted_none rfl _)
    · intro w1 h1 hk
      have q0 := h1.cell p0; have q1 := h1.cell p1; have hg := (Fut.drew _).trans h1
      have hcw := fun b o => Below.cell (p := ⟨b, o, none⟩) h1
      go_simp; rfl
    simp only [Act.put, List.setIfInBounds_toArray, List.set_cons_succ, List.set_cons_zero, List.nil_append, List.cons_append]
    apply Run.done
    intro w3 h3 hk
    clear hk
    have F3 := F2.trans ((Fut.drew _).trans h3)
    have hr3 := hr2.fut ((Fut.drew _).trans h3)
    have H3 := Lib.hid (H.out.fut F3)
    have hX := X.out
    have hM := H3.out.map
    have hB3 : w.heap.size ≤ w3.heap.size := F3.size
    clear hr hr2
    go_wp2_with (first | (refine wpList_push_R rowTy (wanted_none rfl _) Try.underlying75 _ _ _ rfl rfl rfl rfl hM hX hnone ?_; intro w4 hM4 hG4))
    obtain ⟨hne, hlv⟩ := H.out.sep
    have hpb : pb < w.heap.size := H.out.lt pb (.inl rfl)
    have hmb : mb < w.heap.size := H.out.lt mb (.inr (.inl rfl))
    have hown : ∀ k, (Value.slice A xs.length cap).ownBlock = some k → k < w.heap.size := fun k hk => H.out.lt k (.inr (.inr hk))
    have O4 : Only (fun k => k = mb) w3 w4 := Only.grown hG4 (fun k hk => by cases hk; rfl)
    have hr4 := hr3.only O4 (by omega)
    have b4 := O4.keeps H3.out.blk hne
    have p4 := cell_at b4 0 _ rfl
    have L4 := Lib.hid (H3.out.list.onlyR O4 fun k hk => (hlv k hk).2)
    have HM4 := Lib.hid hM4
    clear hM4
    refine wp_graph0 7 [.d, .d, .d, .d, .d, .d, .r (fun v w => SlRep 24 1 RR w v [x])] (by kernel_rfl) (by kernel_rfl) (by kernel_rfl) (by decide) (by intro c v w a o ho h; obtain rfl := Option.some.inj ho; exact h) (by kernel_rfl) ?_
    simp only [List.take_succ_cons, List.take_zero, List.drop_succ_cons, List.drop_zero, Exs]
    iterate 6 apply Exists.intro
    apply Run.valG (wanted_none rfl _)
    · intro w1 h1 hk
      have q0 := h1.cell p4; have hg := (Fut.drew _).trans h1
      have hcw := fun b o => Below.cell (p := ⟨b, o, none⟩) h1
      go_simp; rfl
    simp only [Act.put, List.setIfInBounds_toArray, List.set_cons_succ, List.set_cons_zero, List.nil_append, List.cons_append]
    apply Run.valG (wanted_none rfl _)
    · intro w1 h1 hk
      have q0 := h1.cell p4; have hg := (Fut.drew _).trans h1
      have hcw := fun b o => Below.cell (p := ⟨b, o, none⟩) h1
      go_simp; rfl
    simp only [Act.put, List.setIfInBounds_toArray, List.set_cons_succ, List.set_cons_zero, List.nil_append, List.cons_append]
    apply Run.valG (wanted_none rfl _)
    · intro w1 h1 hk
      have q0 := h1.cell p4; have hg := (Fut.drew _).trans h1
      have hcw := fun b o => Below.cell (p := ⟨b, o, none⟩) h1
      go_simp; rfl
    simp only [Act.put, List.setIfInBounds_toArray, List.set_cons_succ, List.set_cons_zero, List.nil_append, List.cons_append]
    apply Run.valG (wanted_none rfl _)
    · intro w1 h1 hk
      have q0 := h1.cell p4; have hg := (Fut.drew _).trans h1
      have hcw := fun b o => Below.cell (p := ⟨b, o, none⟩) h1
      go_simp; rfl
    simp only [Act.put, List.setIfInBounds_toArray, List.set_cons_succ, List.set_cons_zero, List.nil_append, List.cons_append]
    apply Run.valG (wanted_none rfl _)
    · intro w1 h1 hk
      have q0 := h1.cell p4; have hg := (Fut.drew _).trans h1
      have hcw := fun b o => Below.cell (p := ⟨b, o, none⟩) h1
      go_simp; rfl
    simp only [Act.put, List.setIfInBounds_toArray, List.set_cons_succ, List.set_cons_zero, List.nil_append, List.cons_append]
    apply Run.valG (wanted_none rfl _)
    · intro w1 h1 hk
      have q0 := h1.cell p4; have hg := (Fut.drew _).trans h1
      have hcw := fun b o => Below.cell (p := ⟨b, o, none⟩) h1
      exact exec_load_R rowTy _ rfl rfl (hr4.fut hg)
    simp only [Act.put, List.setIfInBounds_toArray, List.set_cons_succ, List.set_cons_zero, List.nil_append, List.cons_append]
    apply Run.valR (wanted_none rfl _) (by intro v w w' hf hs; exact hs.fut RR.stays hf)
    · intro w1 h1 hk
      have q0 := h1.cell p4; have hg := (Fut.drew _).trans h1
      exact ⟨_, _, exec_one_R rowTy zeroR Try.underlying25 _ rfl rfl hX, Fut.alloc _ _, rowOne _ _ hX⟩
    intro v6
    simp only [Act.put, List.setIfInBounds_toArray, List.set_cons_succ, List.set_cons_zero, List.nil_append, List.cons_append]
    apply Run.done
    intro w5 h5 hk
    obtain ⟨f6, _⟩ := hk
    have h5' := (Fut.drew w4).trans h5
    have L5 := L4.out.fut RR.stays h5'
    have b5 := h5'.block b4
    have hB5 : w.heap.size ≤ w5.heap.size := Nat.le_trans hB3 (Nat.le_trans O4.size h5'.size)
    go_wp2_with (first | (refine wpList_append_R (wanted_none rfl _) _ _ rfl Try.underlying25 infoR rfl rfl L5 f6 (by simp; omega) (by omega) ?_; intro v7 w7 hO7 hG7 hB7; obtain ⟨A7, cap7, hv7, hc7, _⟩ := hO7.rep.form; have O7 : Only (fun k => (Value.slice A xs.length cap).ownBlock = some k) w5 w7 := Only.grown hG7 (fun k hk => hk); have b7 := O7.keeps b5 (fun h => (hlv pb h).1 rfl); have q7 := cell_at b7 0 _ rfl; have z7 := free_at b7 0; subst hv7))
    go_ret
    have el : (xs ++ [x]).length = xs.length + 1 := by simp
    rw [el] at hO7 hB7
    have hs5 : w3.heap.size ≤ w5.heap.size := Nat.le_trans O4.size h5'.size
    have hv7 : ∀ k, (Value.slice A7 (xs.length + 1) cap7).ownBlock = some k → (Value.slice A xs.length cap).ownBlock = some k ∨ w5.heap.size ≤ k := fun k hk => by
      rcases hB7 with h | h
      · exact .inl (h ▸ hk)
      · rw [h] at hk; cases hk; exact .inr (Nat.le_refl _)
    have OS : Only (fun k => k = pb) w7 (w7.setCell ⟨pb, 0, none⟩ (Value.slice A7 (xs.length + 1) cap7)) := Only.set _ _ rfl
    refine ⟨rfl, _, ⟨set_blk b7, ?_, ?_, H.out.base, ?_⟩, ?_, ?_⟩
    · refine hO7.onlyR OS fun k hk e => ?_
      subst e
      rcases hv7 _ hk with h | h
      · exact (hlv _ h).1 rfl
      · omega
    · rw [← idx_push hin]
      refine HM4.out.kept ?_
      rw [OS.block mb (by have := O7.size; omega) (fun e => hne e.symm), O7.block mb (by omega) (fun h => (hlv mb h).2 rfl), Below.block h5' mb (by have := O4.size; omega)]
    · exact List.nodup_append.2 ⟨H.out.nodup, by simp, fun a ha b hb e => by
        rw [List.mem_singleton] at hb; subst hb; subst e; exact hin ha⟩
    · refine ((((Only.fut (F2.trans ((Fut.drew _).trans h3))).trans (O4.mono fun k _ hk => .inr (.inl hk))).trans (Only.fut h5')).trans (O7.mono fun k _ hk => .inr (.inr hk))).trans (OS.mono fun k _ hk => .inl hk)
    · intro k hk
      rcases hv7 k hk with h | h
      · exact .inl (.inr (.inr h))
      · exact .inr (by omega)
end Go.Proofs.Ytcekphjcmippoaa
