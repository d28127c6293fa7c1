/- RelT, RelL, RelG -/
import Derived.Test.YtijdichfaofjaaaGreatDoorC06
/- places.take; Remove. -/
namespace Go.Proofs.YtijdichfaofjaaaGreatDoor
open Go.RowKit Go.WideMaps
set_option linter.unusedSimpArgs false
set_option linter.unusedVariables false

theorem wpList_clear_M {P : Program} {k t ev : TypeId} {ops : Array Oper} {rest : List Oper} {o : Oper} {a : Act} {Q : Exit → Act → World → Prop} {w : World} {b : Nat} {f : Rw → Option Int} (hgd : Region.wanted o (yielded ops a.tmps) = true) (ht : P.underlying t = some (.map k ev)) (m : Operand)
    (ho : o.op = .call { callee := .builtin .clear, args := #[m], argTypes := #[t] }) (hm : a.eval m = .map (some b)) (h : MapR w b f)
    (hk : ∀ w', MapR w' b (fun _ => none) → w.grownBy w' (some b) → wpList P ops Q rest (a.put o.dst (.tuple #[])) w') : wpList P ops Q (o :: rest) a w := by
  obtain ⟨w', hr, h2, h3⟩ := h.clear ht o.type
  refine wpList_of_run hgd (w' := w') ?_ (hk w' h2 h3)
  unfold execOp
  simp only [ho, resolve, invoke, builtin, Sem.run_bind, Sem.run_pure, Result.andThen_ok, List.map_toArray, List.map_cons, List.map_nil, hm, hr]
theorem wpList_store_1 {P : Program} {t : TypeId} {ops : Array Oper} {rest : List Oper} {o : Oper} {a : Act} {Q : Exit → Act → World → Prop} {w w' : World} {g i : Nat} {v u : Value} (hgd : Region.wanted o (yielded ops a.tmps) = true) (x y : Operand)
    (ho : o.op = .store t x y) (hx : a.eval x = .pointer (some ⟨g, i, none⟩)) (hy : a.eval y = v) (hi : (P.info? t).map (·.size) = some 1) (h1 : v.oneCell' = true) (hc : w.cell? ⟨g, i, none⟩ = some u) (hz : w.frozen? ⟨g, i, none⟩ = false)
    (hw : w.setCell ⟨g, i, none⟩ v = w') (h : wpList P ops Q rest (a.put o.dst undef) w') : wpList P ops Q (o :: rest) a w := by
  subst hw
  refine wpList_of_skip hgd ?_ h
  have hcl : v.cells = #[v] := by
    unfold Value.cells
    unfold Value.oneCell' at h1
    split at h1 <;> simp_all
  have h2 := run_storeCells_cells (P := P) g i [v] 0 w (fun j hj => by
    simp at hj; subst hj; show (w.cell? ⟨g, i, none⟩).isSome = true; rw [hc]; rfl) (fun j hj => by simp at hj; subst hj; exact hz) (fun u hu => by simp at hu; subst hu; exact h1)
  simp only [Nat.add_zero, World.setCells] at h2
  unfold execOp
  cases hq : P.info? t with
  | none => simp [hq] at hi
  | some ii =>
    have hs : ii.size = 1 := by simpa [hq] using hi
    simp [ho, hx, hy, Instr.storeAt, Instr.sureAddr, storeVar, sizeOf, typeInfo, hq, hs, hcl, h2]
theorem rws_take {w : World} {A : Option Addr} {cap : Nat} {xs : List Rw} (h : Rws w (.slice A xs.length cap) xs) {k : Nat} (hk : k ≤ xs.length) : Rws w (.slice A k cap) (xs.take k) := by
  obtain ⟨A1, cap1, hv, h1, h2, h3⟩ := h
  injection hv with e1 _ e2
  refine ⟨A, cap, by rw [List.length_take, Nat.min_eq_left hk], by rw [List.length_take]; omega, by omega, fun i x hx => ?_⟩
  rw [e1]
  rw [List.getElem?_take] at hx
  split at hx
  · exact h3 i x hx
  · cases hx
theorem rws_drop {w : World} {b off : Nat} {cap : Nat} {xs : List Rw} (h : Rws w (.slice (some ⟨b, off, none⟩) xs.length cap) xs) {k : Nat} (hk : k ≤ xs.length) : Rws w (.slice (some ⟨b, off + k * 24, none⟩) (xs.length - k) (cap - k)) (xs.drop k) := by
  obtain ⟨A1, cap1, hv, h1, h2, h3⟩ := h
  injection hv with e1 _ e2
  refine ⟨_, cap - k, by rw [List.length_drop], by rw [List.length_drop]; omega, by omega, fun i x hx => ?_⟩
  rw [List.getElem?_drop] at hx
  obtain ⟨b', off', cs, hA, hl, hc, hr⟩ := h3 (k + i) x hx
  rw [← e1] at hA
  injection hA with hA
  injection hA with ha hb _
  subst ha; subst hb
  refine ⟨_, _, cs, rfl, hl, fun j c hj => ?_, hr⟩
  have := hc j c hj
  rwa [show off + ((k + i) * 24 + j) = off + k * 24 + (i * 24 + j) by omega] at this

theorem rws_drop' {w : World} {b off : Nat} {cap : Nat} {xs : List Rw} (h : Rws w (.slice (some ⟨b, off, none⟩) xs.length cap) xs) {k : Nat} (hk : k ≤ xs.length) : Rws w (.slice (if cap = k then some ⟨b, off, none⟩ else some ⟨b, off + k * 24, none⟩) (xs.length - k) (cap - k)) (xs.drop k) := by
  by_cases hc : cap = k
  · obtain ⟨A1, cap1, hv, h1, _, _⟩ := h
    injection hv with _ _ e2
    have hd : xs.drop k = [] := List.drop_eq_nil_of_le (by omega)
    rw [if_pos hc, hd]
    refine ⟨_, cap - k, by rw [show xs.length - k = 0 by omega]; rfl, Nat.zero_le _, by omega, fun i x hx => by simp at hx⟩
  · rw [if_neg hc]; exact rws_drop h hk
theorem rws_two (w : World) (t : TypeId) {u v : Value} {xs ys : List Rw} (hu : Rws w u xs) (hv : Rws w v ys) : SlRep 1 1000 RRs (w.alloc (.cells #[u, v] t)) (.slice (some ⟨w.heap.size, 0, none⟩) 2 2) [xs, ys] := by
  refine ⟨_, 2, rfl, Nat.le_refl _, by omega, fun i x hx => ?_⟩
  have hb := heap_alloc_new w (.cells #[u, v] t)
  have hil := (List.getElem?_eq_some_iff.1 hx).1
  simp only [List.length_cons, List.length_nil] at hil
  match i, hil with
  | 0, _ =>
    simp at hx; subst hx
    refine ⟨_, 0, [u], rfl, rfl, fun j c hj => ?_, u, rfl, hu.fut RR.stays (Fut.alloc _ _)⟩
    have := (List.getElem?_eq_some_iff.1 hj).1
    simp at this; subst this; simp at hj; subst hj
    exact cell_at hb 0 _ rfl
  | 1, _ =>
    simp at hx; subst hx
    refine ⟨_, 0, [v], rfl, rfl, fun j c hj => ?_, v, rfl, hv.fut RR.stays (Fut.alloc _ _)⟩
    have := (List.getElem?_eq_some_iff.1 hj).1
    simp at this; subst this; simp at hj; subst hj
    exact cell_at hb 1 _ rfl
set_option maxHeartbeats 1600000 in
set_option maxRecDepth 100000 in
theorem take_any {B : Nat} {w : World} {pb mb : Nat} {lv : Value} {xs : List Rw} (h : PlI B w pb mb lv xs) (hB : B ≤ w.heap.size) (x : Rw) (hx : Rw.ok x) (hl : xs.length ≤ 1407374883512) :
    Calls Tryz.prog 69 #[.pointer (some ⟨pb, 0, none⟩), Rw.val x] w fun e w' => ∃ lv', e = .returned (.bool (decide (x ∈ xs))) ∧ PlI B w' pb mb lv' (xs.erase x) ∧ Only (pfoot pb mb lv) w w' ∧ ∀ k, lv'.ownBlock = some k → pfoot pb mb lv k ∨ w.heap.size ≤ k := by
  have H := Lib.hid h
  have X := Lib.hid hx
  clear h hx
  unfold Rw.val
  go_enter Tryz.func69, Tryz.ntmps69
  go_wp2_with fail
  have hr := RowAt.new w 27 X.out
  have F1 := Fut.alloc w (.cells (Rw.cells x).toArray 27)
  obtain ⟨W1, hW⟩ : ∃ W1, w.alloc (.cells (Rw.cells x).toArray 27) = W1 := ⟨_, rfl⟩
  rw [hW] at hr F1 ⊢
  clear hW
  have p1 := F1.cell (cell_at H.out.blk 1 _ rfl)
  refine wp_graph 11 [.d, .d, .d, .d, .d, .d, .d, .d, .d, .d, .d] (by kernel_rfl) (by kernel_rfl) (by kernel_rfl) ?_
  simp only [List.take_succ_cons, List.take_zero, List.drop_succ_cons, List.drop_zero, Exs]
  iterate 11 apply Exists.intro
  apply Run.valG (wanted_none rfl _)
  · intro w1 h1 hk
    have q1 := h1.cell p1; have hg := (Fut.drew _).trans h1
    have hcw := fun b o => Below.cell (p := ⟨b, o, none⟩) h1
    go_simp; rfl
  simp only [Act.put, List.setIfInBounds_toArray, List.set_cons_succ, List.set_cons_zero, List.nil_append, List.cons_append]
  apply Run.valG (wanted_none rfl _)
  · intro w1 h1 hk
    have q1 := h1.cell p1; have hg := (Fut.drew _).trans h1
    have hcw := fun b o => Below.cell (p := ⟨b, o, none⟩) h1
    go_simp; rfl
  simp only [Act.put, List.setIfInBounds_toArray, List.set_cons_succ, List.set_cons_zero, List.nil_append, List.cons_append]
  apply Run.valG (wanted_none rfl _)
  · intro w1 h1 hk
    have q1 := h1.cell p1; have hg := (Fut.drew _).trans h1
    have hcw := fun b o => Below.cell (p := ⟨b, o, none⟩) h1
    go_simp; rfl
  simp only [Act.put, List.setIfInBounds_toArray, List.set_cons_succ, List.set_cons_zero, List.nil_append, List.cons_append]
  apply Run.valG (wanted_none rfl _)
  · intro w1 h1 hk
    have q1 := h1.cell p1; have hg := (Fut.drew _).trans h1
    have hcw := fun b o => Below.cell (p := ⟨b, o, none⟩) h1
    go_simp; rfl
  simp only [Act.put, List.setIfInBounds_toArray, List.set_cons_succ, List.set_cons_zero, List.nil_append, List.cons_append]
  apply Run.valG (wanted_none rfl _)
  · intro w1 h1 hk
    have q1 := h1.cell p1; have hg := (Fut.drew _).trans h1
    have hcw := fun b o => Below.cell (p := ⟨b, o, none⟩) h1
    exact exec_load_R rowTy _ rfl rfl (hr.fut hg)
  simp only [Act.put, List.setIfInBounds_toArray, List.set_cons_succ, List.set_cons_zero, List.nil_append, List.cons_append]
  apply Run.valG (wanted_none rfl _)
  · intro w1 h1 hk
    have q1 := h1.cell p1; have hg := (Fut.drew _).trans h1
    have hcw := fun b o => Below.cell (p := ⟨b, o, none⟩) h1
    exact exec_lookup_R rowTy Tryz.underlying95 zeroI _ _ rfl rfl rfl (H.out.fut (F1.trans hg)).map X.out
  simp only [Act.put, List.setIfInBounds_toArray, List.set_cons_succ, List.set_cons_zero, List.nil_append, List.cons_append]
  apply Run.valG (wanted_none rfl _)
  · intro w1 h1 hk
    have q1 := h1.cell p1; have hg := (Fut.drew _).trans h1
    have hcw := fun b o => Below.cell (p := ⟨b, o, none⟩) h1
    go_simp; rfl
  simp only [Act.put, List.setIfInBounds_toArray, List.set_cons_succ, List.set_cons_zero, List.nil_append, List.cons_append]
  apply Run.valG (wanted_none rfl _)
  · intro w1 h1 hk
    have q1 := h1.cell p1; have hg := (Fut.drew _).trans h1
    have hcw := fun b o => Below.cell (p := ⟨b, o, none⟩) h1
    go_simp; rfl
  simp only [Act.put, List.setIfInBounds_toArray, List.set_cons_succ, List.set_cons_zero, List.nil_append, List.cons_append]
  apply Run.valG (wanted_none rfl _)
  · intro w1 h1 hk
    have q1 := h1.cell p1; have hg := (Fut.drew _).trans h1
    have hcw := fun b o => Below.cell (p := ⟨b, o, none⟩) h1
    go_simp; rfl
  simp only [Act.put, List.setIfInBounds_toArray, List.set_cons_succ, List.set_cons_zero, List.nil_append, List.cons_append]
  apply Run.valG (wanted_none rfl _)
  · intro w1 h1 hk
    have q1 := h1.cell p1; have hg := (Fut.drew _).trans h1
    have hcw := fun b o => Below.cell (p := ⟨b, o, none⟩) h1
    go_simp; rfl
  simp only [Act.put, List.setIfInBounds_toArray, List.set_cons_succ, List.set_cons_zero, List.nil_append, List.cons_append]
  apply Run.valG (wanted_none rfl _)
  · intro w1 h1 hk
    have q1 := h1.cell p1; have hg := (Fut.drew _).trans h1
    have hcw := fun b o => Below.cell (p := ⟨b, o, none⟩) h1
    go_simp; rfl
  simp only [Act.put, List.setIfInBounds_toArray, List.set_cons_succ, List.set_cons_zero, List.nil_append, List.cons_append]
  apply Run.done
  intro w2 h2 hk
  clear hk
  have F2 := F1.trans ((Fut.drew _).trans h2)
  by_cases hin : x ∈ xs
  · have hi : idx xs x = some ((xs.idxOf x : Nat) : Int) := by unfold idx; rw [if_pos hin]
    have hil : xs.idxOf x < xs.length := List.idxOf_lt_length_iff.2 hin
    have her : xs.erase x = xs.take (xs.idxOf x) ++ xs.drop (xs.idxOf x + 1) := by
      rw [List.erase_eq_eraseIdx_of_idxOf rfl, List.eraseIdx_eq_take_drop_succ]
    rw [hi]
    generalize xs.idxOf x = i at hi hil her
    obtain ⟨A, cap, rfl, hcl, hcm⟩ := H.out.form
    have hA : ∃ b off, A = some ⟨b, off, none⟩ := by
      obtain ⟨b, off, e, _⟩ := rows_at H.out.list.rep hil
      exact ⟨b, off, e⟩
    obtain ⟨gb, off, rfl⟩ := hA
    have p0 := F2.cell (cell_at H.out.blk 0 _ rfl)
    have hRep := Lib.hid ((H.out.fut F2).list.rep.more (M' := 9223372036854775807) (by unfold maxLen; omega))
    have d1 : (0 : Int) ≤ i ∧ (i : Int) ≤ xs.length ∧ (i : Int) ≤ cap := by omega
    have d3 : IntKind.i64.wrap ((i : Int) + 1) = ((i + 1 : Nat) : Int) := by rw [IntKind.wrap_i64]; omega
    have d4 : i + 1 ≤ xs.length := hil
    have d2 : (0 : Int) ≤ (i : Int) + 1 ∧ (i : Int) + 1 ≤ xs.length ∧ (i : Int) + 1 ≤ cap := by omega
    go_wp2_with fail
    refine wp_graph 16 [.d, .d, .d, .d, .d, .d, .d, .d, .d, .d, .d, .d, .d, .r (fun v w => Rws w v (xs.drop (i + 1))), .r (fun v w => SlRep 1 1000 RRs w v [xs.take i, xs.drop (i + 1)]), .r (fun v w' => OwnL 24 w.heap.size 27 RR w' v (xs.erase x))] (by kernel_rfl) (by kernel_rfl) (by kernel_rfl) ?_
    simp only [List.take_succ_cons, List.take_zero, List.drop_succ_cons, List.drop_zero, Exs]
    iterate 13 apply Exists.intro
    apply Run.valG (wanted_none rfl _)
    · intro w1 h1 hk
      have q0 := h1.cell p0; have hg := (Fut.drew _).trans h1
      have hcw := fun b o => Below.cell (p := ⟨b, o, none⟩) h1
      go_simp; rfl
    simp only [Act.put, List.setIfInBounds_toArray, List.set_cons_succ, List.set_cons_zero, List.nil_append, List.cons_append]
    apply Run.valG (wanted_none rfl _)
    · intro w1 h1 hk
      have q0 := h1.cell p0; have hg := (Fut.drew _).trans h1
      have hcw := fun b o => Below.cell (p := ⟨b, o, none⟩) h1
      go_simp; rfl
    simp only [Act.put, List.setIfInBounds_toArray, List.set_cons_succ, List.set_cons_zero, List.nil_append, List.cons_append]
    apply Run.valG (wanted_none rfl _)
    · intro w1 h1 hk
      have q0 := h1.cell p0; have hg := (Fut.drew _).trans h1
      have hcw := fun b o => Below.cell (p := ⟨b, o, none⟩) h1
      go_simp; rfl
    simp only [Act.put, List.setIfInBounds_toArray, List.set_cons_succ, List.set_cons_zero, List.nil_append, List.cons_append]
    apply Run.valG (wanted_none rfl _)
    · intro w1 h1 hk
      have q0 := h1.cell p0; have hg := (Fut.drew _).trans h1
      have hcw := fun b o => Below.cell (p := ⟨b, o, none⟩) h1
      go_simp; rfl
    simp only [Act.put, List.setIfInBounds_toArray, List.set_cons_succ, List.set_cons_zero, List.nil_append, List.cons_append]
    apply Run.valG (wanted_none rfl _)
    · intro w1 h1 hk
      have q0 := h1.cell p0; have hg := (Fut.drew _).trans h1
      have hcw := fun b o => Below.cell (p := ⟨b, o, none⟩) h1
      go_simp; rfl
    simp only [Act.put, List.setIfInBounds_toArray, List.set_cons_succ, List.set_cons_zero, List.nil_append, List.cons_append]
    apply Run.valG (wanted_none rfl _)
    · intro w1 h1 hk
      have q0 := h1.cell p0; have hg := (Fut.drew _).trans h1
      have hcw := fun b o => Below.cell (p := ⟨b, o, none⟩) h1
      go_simp; rfl
    simp only [Act.put, List.setIfInBounds_toArray, List.set_cons_succ, List.set_cons_zero, List.nil_append, List.cons_append]
    apply Run.valG (wanted_none rfl _)
    · intro w1 h1 hk
      have q0 := h1.cell p0; have hg := (Fut.drew _).trans h1
      have hcw := fun b o => Below.cell (p := ⟨b, o, none⟩) h1
      go_simp; rfl
    simp only [Act.put, List.setIfInBounds_toArray, List.set_cons_succ, List.set_cons_zero, List.nil_append, List.cons_append]
    apply Run.valG (wanted_none rfl _)
    · intro w1 h1 hk
      have q0 := h1.cell p0; have hg := (Fut.drew _).trans h1
      have hcw := fun b o => Below.cell (p := ⟨b, o, none⟩) h1
      go_simp; rfl
    simp only [Act.put, List.setIfInBounds_toArray, List.set_cons_succ, List.set_cons_zero, List.nil_append, List.cons_append]
    apply Run.valG (wanted_none rfl _)
    · intro w1 h1 hk
      have q0 := h1.cell p0; have hg := (Fut.drew _).trans h1
      have hcw := fun b o => Below.cell (p := ⟨b, o, none⟩) h1
      go_simp; rfl
    simp only [Act.put, List.setIfInBounds_toArray, List.set_cons_succ, List.set_cons_zero, List.nil_append, List.cons_append]
    apply Run.valG (wanted_none rfl _)
    · intro w1 h1 hk
      have q0 := h1.cell p0; have hg := (Fut.drew _).trans h1
      have hcw := fun b o => Below.cell (p := ⟨b, o, none⟩) h1
      go_simp; rfl
    simp only [Act.put, List.setIfInBounds_toArray, List.set_cons_succ, List.set_cons_zero, List.nil_append, List.cons_append]
    apply Run.valG (wanted_none rfl _)
    · intro w1 h1 hk
      have q0 := h1.cell p0; have hg := (Fut.drew _).trans h1
      have hcw := fun b o => Below.cell (p := ⟨b, o, none⟩) h1
      go_simp; rfl
    simp only [Act.put, List.setIfInBounds_toArray, List.set_cons_succ, List.set_cons_zero, List.nil_append, List.cons_append]
    apply Run.valG (wanted_none rfl _)
    · intro w1 h1 hk
      have q0 := h1.cell p0; have hg := (Fut.drew _).trans h1
      have hcw := fun b o => Below.cell (p := ⟨b, o, none⟩) h1
      go_simp; rfl
    simp only [Act.put, List.setIfInBounds_toArray, List.set_cons_succ, List.set_cons_zero, List.nil_append, List.cons_append]
    apply Run.valG (wanted_none rfl _)
    · intro w1 h1 hk
      have q0 := h1.cell p0; have hg := (Fut.drew _).trans h1
      have hcw := fun b o => Below.cell (p := ⟨b, o, none⟩) h1
      go_simp; rfl
    simp only [Act.put, List.setIfInBounds_toArray, List.set_cons_succ, List.set_cons_zero, List.nil_append, List.cons_append]
    apply Run.valR (wanted_none rfl _) (by intro v w w' hf hs; exact hs.fut RR.stays hf)
    · intro w1 h1 hk
      have q0 := h1.cell p0; have hg := (Fut.drew _).trans h1
      exact ⟨_, _, (by go_simp <;> rfl), Fut.refl _, (rws_drop' hRep.out d4).fut RR.stays hg⟩
    intro v13
    simp only [Act.put, List.setIfInBounds_toArray, List.set_cons_succ, List.set_cons_zero, List.nil_append, List.cons_append]
    apply Run.valR (wanted_none rfl _) (by intro v w w' hf hs; exact hs.fut RRs.stays hf)
    · intro w1 h1 hk
      have f13 := Facts.get hk 0 rfl (by kernel_rfl)
      have q0 := h1.cell p0; have hg := (Fut.drew _).trans h1
      obtain ⟨A13, c13, rfl, _⟩ := f13.form; exact ⟨_, _, (by go_simp <;> rfl), Fut.alloc _ _, rws_two _ _ ((rws_take hRep.out (Nat.le_of_lt hil)).fut RR.stays hg) f13⟩
    intro v14
    simp only [Act.put, List.setIfInBounds_toArray, List.set_cons_succ, List.set_cons_zero, List.nil_append, List.cons_append]
    apply Run.callR (wanted_none rfl _) (by intro v w w' hf hs; exact hs.fut RR.stays hf) (fun _ _ => by go_simp; exact ⟨rfl, rfl⟩)
    · intro w1 h1 hk
      have f14 := Facts.get hk 1 rfl (by kernel_rfl)
      have q0 := h1.cell p0; have hg := (Fut.drew _).trans h1
      refine (concat_any _ _ _ f14 (by rw [show sumL [xs.take i, xs.drop (i + 1)] = (xs.erase x).length by rw [her]; simp [sumL]]; exact Nat.le_trans (List.length_erase_le) hl) w.heap.size (by have := F2.size; have := hg.size; omega)).mono ?_; rintro e w' ⟨u, rfl, hO, hf⟩; exact ⟨u, rfl, hf, by rw [her]; simpa using hO⟩
    intro v15
    simp only [Act.put, List.setIfInBounds_toArray, List.set_cons_succ, List.set_cons_zero, List.nil_append, List.cons_append]
    apply Run.done
    intro w3 h3 hk
    obtain ⟨f13, f14, f15, _⟩ := hk
    have F3 := F2.trans ((Fut.drew _).trans h3)
    obtain ⟨hne, hlv⟩ := H.out.sep
    have hpb : pb < w.heap.size := H.out.lt pb (.inl rfl)
    have hmb : mb < w.heap.size := H.out.lt mb (.inr (.inl rfl))
    have hel : (xs.erase x).length ≤ 1407374883512 := Nat.le_trans (List.length_erase_le) hl
    have hnd : (xs.erase x).Nodup := H.out.nodup.erase x
    obtain ⟨ys, hys⟩ : ∃ ys, xs.erase x = ys := ⟨_, rfl⟩
    rw [hys] at f15 hel hnd
    have b3 := (H.out.fut F3).blk
    have M3 := (H.out.fut F3).map
    have c3 := cell_at b3 0 _ rfl
    have z3 := free_at b3 0
    obtain ⟨A3, cap3, rfl, hc3, hc3'⟩ := f15.rep.form
    have O4 : Only (fun k => k = pb) w3 (w3.setCell ⟨pb, 0, none⟩ (.slice A3 ys.length cap3)) := Only.set _ _ rfl
    have b4 : (w3.setCell ⟨pb, 0, none⟩ (.slice A3 ys.length cap3)).heap[pb]? = some (.cells #[.slice A3 ys.length cap3, .map (some mb)] 97 (0, 0)) := set_blk b3
    have M4 := M3.kept (O4.block mb (by have := F3.size; omega) (fun e => hne e.symm))
    have hno : ∀ k, (Value.slice A3 ys.length cap3).ownBlock = some k → w.heap.size ≤ k := fun k hk => (f15.block k hk).1
    have L4 := f15.onlyR O4 (fun k hk e => by have := hno k hk; omega)
    obtain ⟨w4, hw4⟩ : ∃ w4, w3.setCell ⟨pb, 0, none⟩ (.slice A3 ys.length cap3) = w4 := ⟨_, rfl⟩
    rw [hw4] at O4 b4 M4 L4
    have hi25 : (Tryz.prog.info? 30).map (·.size) = some 1 := by kernel_rfl
    have c41 := cell_at b4 1 _ rfl
    go_wp2_with (first | (refine wpList_store_1 (wanted_none rfl _) _ _ rfl rfl rfl hi25 rfl c3 z3 hw4 ?_) | (refine wpList_clear_M (wanted_none rfl _) Tryz.underlying95 _ rfl rfl M4 ?_; intro w5 hM5 hG5; have O5 : Only (fun k => k = mb) w4 w5 := (Only.grown hG5 (fun k hk => by cases hk; rfl)); have b5 := O5.keeps b4 hne; have c50 := cell_at b5 0 _ rfl; have c51 := cell_at b5 1 _ rfl))
    have hmb4 : mb < w4.heap.size := by have := F3.size; have := O4.size; omega
    have L5 := Lib.hid (L4.onlyR O5 (fun k hk e => by have := hno k hk; omega))
    have HM5 := Lib.hid hM5
    have hw5 : w.heap.size ≤ w5.heap.size := by have := F3.size; have := O4.size; have := O5.size; omega
    have OKs := Lib.hid (rows_ok L5.out.rep)
    have OO := Lib.hid ((((Only.fut F3).trans (O4.mono (S' := pfoot pb mb (.slice (some ⟨gb, off, none⟩) xs.length cap)) fun k _ hk => .inl hk)).trans (O5.mono fun k _ hk => .inr (.inl hk))))
    have HB5 := Lib.hid b5
    have HNO := Lib.hid hno
    clear hM5 hG5 O5 O4 L4 M4 b4 M3 c3 z3 f13 f14 h3 F3 hw4 b3 c50 c51 c41 p0 p1 d1 d2 d3 hRep hno b5
    go_loopw [47] (fun i wr => ∃ k : Nat, k ≤ ys.length ∧ i = .int .i64 k ∧ Hid (MapR wr mb (idx (ys.take k))) ∧ Hid (Only (fun j => j = mb) w5 wr)) (fun i _ => ys.length - (intOf i).toNat)
    case atStart => exact ⟨0, Nat.zero_le _, rfl, Lib.hid (by rw [List.take_zero, ← idx_nil]; exact HM5.out), Lib.hid (Only.refl _)⟩
    case round =>
      obtain ⟨k, hk, rfl, hM, hO⟩ := hrel
      have br := hO.out.keeps HB5.out hne
      have cr1 := cell_at br 1 _ rfl
      have Lr := L5.out.onlyR hO.out (fun k hk e => by have := HNO.out k hk; omega)
      by_cases hlt : k < ys.length
      · obtain ⟨b', off', rfl, hrk⟩ := rows_at Lr.rep hlt
        have e1 : (0 : Int) ≤ k ∧ (k : Int) < ys.length := by omega
        have hnone : idx (ys.take k) ys[k] = none := by
          unfold idx
          rw [if_neg]
          intro hm
          obtain ⟨j, hj, he⟩ := List.getElem_of_mem hm
          rw [List.length_take] at hj
          rw [List.getElem_take] at he
          have := (List.getElem_inj hnd).1 he
          omega
        have hxk := hrk.1
        have hMk := hM.out
        generalize hyk : ys[k] = y at hrk hnone hxk
        go_wp2_with (first | (refine wpList_load_R rowTy (wanted_none rfl _) _ rfl rfl hrk ?_) | (refine wpList_store_new rowTy (wanted_none rfl _) _ _ rfl rfl rfl rfl hxk ?_))
        have hr6 := RowAt.new wr 27 hxk
        have F6 := Fut.alloc wr (.cells (Rw.cells y).toArray 27)
        obtain ⟨w6, hW6⟩ : ∃ W1, wr.alloc (.cells (Rw.cells y).toArray 27) = W1 := ⟨_, rfl⟩
        rw [hW6] at hr6 F6 ⊢
        clear hW6
        have c61 := F6.cell cr1
        refine wp_graph 6 [.d, .d, .d, .d, .d, .d] (by kernel_rfl) (by kernel_rfl) (by kernel_rfl) ?_
        simp only [List.take_succ_cons, List.take_zero, List.drop_succ_cons, List.drop_zero, Exs]
        iterate 6 apply Exists.intro
        apply Run.valG (wanted_none rfl _)
        · intro w1 h1 hk
          have q1 := h1.cell c61; have hg := (Fut.drew _).trans h1
          have hcw := fun b o => Below.cell (p := ⟨b, o, none⟩) h1
          go_simp; rfl
        simp only [Act.put, List.setIfInBounds_toArray, List.set_cons_succ, List.set_cons_zero, List.nil_append, List.cons_append]
        apply Run.valG (wanted_none rfl _)
        · intro w1 h1 hk
          have q1 := h1.cell c61; have hg := (Fut.drew _).trans h1
          have hcw := fun b o => Below.cell (p := ⟨b, o, none⟩) h1
          go_simp; rfl
        simp only [Act.put, List.setIfInBounds_toArray, List.set_cons_succ, List.set_cons_zero, List.nil_append, List.cons_append]
        apply Run.valG (wanted_none rfl _)
        · intro w1 h1 hk
          have q1 := h1.cell c61; have hg := (Fut.drew _).trans h1
          have hcw := fun b o => Below.cell (p := ⟨b, o, none⟩) h1
          go_simp; rfl
        simp only [Act.put, List.setIfInBounds_toArray, List.set_cons_succ, List.set_cons_zero, List.nil_append, List.cons_append]
        apply Run.valG (wanted_none rfl _)
        · intro w1 h1 hk
          have q1 := h1.cell c61; have hg := (Fut.drew _).trans h1
          have hcw := fun b o => Below.cell (p := ⟨b, o, none⟩) h1
          go_simp; rfl
        simp only [Act.put, List.setIfInBounds_toArray, List.set_cons_succ, List.set_cons_zero, List.nil_append, List.cons_append]
        apply Run.valG (wanted_none rfl _)
        · intro w1 h1 hk
          have q1 := h1.cell c61; have hg := (Fut.drew _).trans h1
          have hcw := fun b o => Below.cell (p := ⟨b, o, none⟩) h1
          exact exec_load_R rowTy _ rfl rfl (hr6.fut hg)
        simp only [Act.put, List.setIfInBounds_toArray, List.set_cons_succ, List.set_cons_zero, List.nil_append, List.cons_append]
        apply Run.valG (wanted_none rfl _)
        · intro w1 h1 hk
          have q1 := h1.cell c61; have hg := (Fut.drew _).trans h1
          have hcw := fun b o => Below.cell (p := ⟨b, o, none⟩) h1
          go_simp; rfl
        simp only [Act.put, List.setIfInBounds_toArray, List.set_cons_succ, List.set_cons_zero, List.nil_append, List.cons_append]
        apply Run.done
        intro w7 h7 hk
        clear hk
        have F7 := F6.trans ((Fut.drew _).trans h7)
        have hM7 := hMk.kept (Below.block F7 mb hMk.lt)
        go_wp2_with (first | (refine wpList_push_R rowTy (wanted_none rfl _) Tryz.underlying95 _ _ _ rfl rfl rfl rfl hM7 hxk hnone ?_; intro w8 hM8 hG8))
        go_roundw
        case rel =>
          refine ⟨k + 1, by omega, by go_num, Lib.hid ?_, Lib.hid ((hO.out.trans (Only.fut F7)).trans (Only.grown hG8 fun j hj => by cases hj; rfl))⟩
          rw [List.take_succ_eq_append_getElem hlt, hyk, ← idx_push (by intro hm; unfold idx at hnone; rw [if_pos hm] at hnone; cases hnone), List.length_take, Nat.min_eq_left hk]
          exact hM8
        case measure => simp [intOf] <;> omega
      · obtain rfl : k = ys.length := by omega
        go_wp2
        go_ret
        have hM' := hM.out
        rw [List.take_length] at hM'
        rw [hys]
        exact ⟨_, by rw [decide_eq_true hin]; rfl, ⟨br, Lr.base hB, hM', H.out.base, hnd⟩, OO.out.trans (hO.out.mono fun k _ hk => .inr (.inl hk)), fun k hk => .inr (HNO.out k hk)⟩
  · have hs : (idx xs x).isSome = false := by rw [idx_isSome]; exact decide_eq_false hin
    rw [hs]
    go_wp2
    go_ret
    have he : xs.erase x = xs := List.erase_of_not_mem hin
    rw [he]
    exact ⟨_, by rw [decide_eq_false hin]; rfl, H.out.fut F2, Only.fut F2, fun k hk => .inl (.inr (.inr hk))⟩

theorem RelI.sep {B : Nat} {w : World} {b pb mb : Nat} {lv : Value} {ar gone : Nat} {xs : List Rw} (h : RelI B w b pb mb lv ar gone xs) : ∀ k, pfoot pb mb lv k → b ≠ k := by
  rintro k (rfl | rfl | hk) e
  · subst e
    have := h.blk; rw [h.pl.blk] at this
    injection this with h2; injection h2 with _ h3
    revert h3; decide
  · obtain ⟨es, c, hm, _⟩ := h.pl.map
    subst e; have := h.blk; rw [hm] at this; cases this
  · subst e
    obtain ⟨arr, h1⟩ := h.pl.list.typed _ hk
    have := h.blk; rw [h1] at this
    injection this with h2; injection h2 with _ h3
    revert h3; decide
set_option maxHeartbeats 1600000 in
set_option maxRecDepth 100000 in
theorem remove_any {B : Nat} {w : World} {b pb mb : Nat} {lv : Value} {ar gone : Nat} {xs : List Rw} (h : RelI B w b pb mb lv ar gone xs) (hB : B ≤ w.heap.size) (x : Rw) (hx : Rw.ok x) (hl : xs.length ≤ 1407374883512) (hgone : gone < 4611686018427387904) :
    Calls Tryz.prog 20 #[.pointer (some ⟨b, 0, none⟩), Rw.val x] w fun e w' => e = .returned (.bool (decide (x ∈ xs))) ∧
      ∃ lv', RelI B w' b pb mb lv' ar (gone + (decide (x ∈ xs)).toNat) (xs.erase x) ∧ Only (foot b pb mb lv) w w' ∧ ∀ k, lv'.ownBlock = some k → pfoot pb mb lv k ∨ w.heap.size ≤ k := by
  have H := Lib.hid h
  have X := Lib.hid hx
  clear h hx
  unfold Rw.val
  go_enter Tryz.func20, Tryz.ntmps20
  go_wp2_with fail
  have hr := RowAt.new w 27 X.out
  have F1 := Fut.alloc w (.cells (Rw.cells x).toArray 27)
  obtain ⟨W1, hW⟩ : ∃ W1, w.alloc (.cells (Rw.cells x).toArray 27) = W1 := ⟨_, rfl⟩
  rw [hW] at hr F1 ⊢
  clear hW
  have c2 := F1.cell (cell_at H.out.blk 2 _ rfl)
  refine wp_graph 9 [.d, .d, .d, .d, .d, .d, .d, .d, .d] (by kernel_rfl) (by kernel_rfl) (by kernel_rfl) ?_
  simp only [List.take_succ_cons, List.take_zero, List.drop_succ_cons, List.drop_zero, Exs]
  iterate 9 apply Exists.intro
  apply Run.valG (wanted_none rfl _)
  · intro w1 h1 hk
    have q2 := h1.cell c2; have hg := (Fut.drew _).trans h1
    have hcw := fun b o => Below.cell (p := ⟨b, o, none⟩) h1
    go_simp; rfl
  simp only [Act.put, List.setIfInBounds_toArray, List.set_cons_succ, List.set_cons_zero, List.nil_append, List.cons_append]
  apply Run.call (wanted_none rfl _) (fun _ _ => by go_simp; exact ⟨rfl, rfl⟩)
  · intro w1 h1 hk
    have q2 := h1.cell c2; have hg := (Fut.drew _).trans h1
    refine (there_any (H.out.fut (F1.trans hg))).mono ?_; rintro e w1 ⟨rfl, rfl⟩; exact ⟨rfl, Fut.refl _⟩
  simp only [Act.put, List.setIfInBounds_toArray, List.set_cons_succ, List.set_cons_zero, List.nil_append, List.cons_append]
  apply Run.valG (wanted_none rfl _)
  · intro w1 h1 hk
    have q2 := h1.cell c2; have hg := (Fut.drew _).trans h1
    have hcw := fun b o => Below.cell (p := ⟨b, o, none⟩) h1
    go_simp; rfl
  simp only [Act.put, List.setIfInBounds_toArray, List.set_cons_succ, List.set_cons_zero, List.nil_append, List.cons_append]
  apply Run.valG (wanted_none rfl _)
  · intro w1 h1 hk
    have q2 := h1.cell c2; have hg := (Fut.drew _).trans h1
    have hcw := fun b o => Below.cell (p := ⟨b, o, none⟩) h1
    go_simp; rfl
  simp only [Act.put, List.setIfInBounds_toArray, List.set_cons_succ, List.set_cons_zero, List.nil_append, List.cons_append]
  apply Run.valG (by go_simp)
  · intro w1 h1 hk
    have q2 := h1.cell c2; have hg := (Fut.drew _).trans h1
    have hcw := fun b o => Below.cell (p := ⟨b, o, none⟩) h1
    go_simp; rfl
  simp only [Act.put, List.setIfInBounds_toArray, List.set_cons_succ, List.set_cons_zero, List.nil_append, List.cons_append]
  apply Run.valG (by go_simp)
  · intro w1 h1 hk
    have q2 := h1.cell c2; have hg := (Fut.drew _).trans h1
    have hcw := fun b o => Below.cell (p := ⟨b, o, none⟩) h1
    go_simp; rfl
  simp only [Act.put, List.setIfInBounds_toArray, List.set_cons_succ, List.set_cons_zero, List.nil_append, List.cons_append]
  apply Run.valG (by go_simp)
  · intro w1 h1 hk
    have q2 := h1.cell c2; have hg := (Fut.drew _).trans h1
    have hcw := fun b o => Below.cell (p := ⟨b, o, none⟩) h1
    go_simp; rfl
  simp only [Act.put, List.setIfInBounds_toArray, List.set_cons_succ, List.set_cons_zero, List.nil_append, List.cons_append]
  apply Run.valG (by go_simp)
  · intro w1 h1 hk
    have q2 := h1.cell c2; have hg := (Fut.drew _).trans h1
    have hcw := fun b o => Below.cell (p := ⟨b, o, none⟩) h1
    go_simp; rfl
  simp only [Act.put, List.setIfInBounds_toArray, List.set_cons_succ, List.set_cons_zero, List.nil_append, List.cons_append]
  apply Run.valG (by go_simp)
  · intro w1 h1 hk
    have q2 := h1.cell c2; have hg := (Fut.drew _).trans h1
    have hcw := fun b o => Below.cell (p := ⟨b, o, none⟩) h1
    exact exec_load_R rowTy _ rfl rfl (hr.fut hg)
  simp only [Act.put, List.setIfInBounds_toArray, List.set_cons_succ, List.set_cons_zero, List.nil_append, List.cons_append]
  apply Run.done
  intro w3 h3 hk
  clear hk
  have F3 := F1.trans ((Fut.drew _).trans h3)
  go_wp2_with fail
  refine (take_any (H.out.fut F3).pl (by have := F3.size; omega) x X.out hl).mono ?_
  rintro e w4 ⟨lv', rfl, hP, hO, hV⟩
  have b4 := hO.keeps (H.out.fut F3).blk (fun h => H.out.sep b h rfl)
  have hV' : ∀ k, lv'.ownBlock = some k → pfoot pb mb lv k ∨ w.heap.size ≤ k := fun k hk => by
    rcases hV k hk with h | h
    · exact .inl h
    · exact .inr (Nat.le_trans F3.size h)
  by_cases hin : x ∈ xs
  · rw [decide_eq_true hin]
    have c1 := cell_at b4 1 _ rfl
    have z1 := free_at b4 1
    have e1 : IntKind.i64.wrap ((gone : Int) + 1) = ((gone + 1 : Nat) : Int) := by rw [IntKind.wrap_i64]; omega
    have OS : Only (fun k => k = b) w4 (w4.setCell ⟨b, 1, none⟩ (.int .i64 ((gone + 1 : Nat) : Int))) := Only.set _ _ rfl
    have hi3 : (Tryz.prog.info? 3).map (·.size) = some 1 := by kernel_rfl
    obtain ⟨w5, hw5⟩ : ∃ w5, w4.setCell ⟨b, 1, none⟩ (.int .i64 ((gone + 1 : Nat) : Int)) = w5 := ⟨_, rfl⟩
    have b5 := set_blk (i := 1) (v := .int .i64 ((gone + 1 : Nat) : Int)) b4
    rw [hw5] at OS b5
    go_wp2_with (first | (refine wpList_store_1 (wanted_none rfl _) _ _ rfl rfl rfl hi3 rfl c1 z1 (by first | exact hw5 | (rw [e1]; exact hw5)) ?_))
    go_ret
    rw [decide_eq_true hin]
    exact ⟨rfl, lv', ⟨b5, hP.only OS (fun k hk e => by
      subst e
      rcases hk with h | h | h
      · exact H.out.sep _ (.inl rfl) h
      · exact H.out.sep _ (.inr (.inl rfl)) h
      · rcases hV' _ h with h' | h'
        · exact H.out.sep _ h' rfl
        · have := H.out.lt _ (.inl rfl); omega), H.out.base, H.out.wide⟩, ((Only.fut F3).trans (hO.mono fun k _ hk => .inr hk)).trans (OS.mono fun k _ hk => .inl hk), hV'⟩
  · rw [decide_eq_false hin]
    go_wp2
    go_ret
    rw [decide_eq_false hin]
    exact ⟨rfl, lv', ⟨b4, hP, H.out.base, H.out.wide⟩, (Only.fut F3).trans (hO.mono fun k _ hk => .inr hk), hV'⟩
end Go.Proofs.YtijdichfaofjaaaGreatDoor
/- lives: a relation takes two rows, and tells them. -/
namespace Go.Proofs.YtijdichfaofjaaaGreatDoor
open Go.RowKit Go.WideMaps
set_option linter.unusedSimpArgs false
set_option linter.unusedVariables false

def row31 : Rw := [3, 1, 0, 0, 0, 0, 0, 0, 0, 0, 0, 0, 0, 0, 0, 0, 0, 0, 0, 0, 0, 0, 0, 0]
def row12 : Rw := [1, 2, 0, 0, 0, 0, 0, 0, 0, 0, 0, 0, 0, 0, 0, 0, 0, 0, 0, 0, 0, 0, 0, 0]
theorem row31_ok : Rw.ok row31 := ⟨rfl, by decide⟩
theorem row12_ok : Rw.ok row12 := ⟨rfl, by decide⟩
set_option maxHeartbeats 1600000 in
set_option maxRecDepth 100000 in
theorem lives10 (w : World) : Calls Tryz.prog 4 #[] w fun e w' => e = .returned (.bool true) ∧ Fut w w' := by
  go_enter Tryz.func4, Tryz.ntmps4
  go_wp2_with fail
  refine (new_any 2 (by omega) _).mono ?_
  rintro e w1 ⟨b, pb, mb, rfl, hR, f1⟩
  have HR := Lib.hid hR
  have F1 := Lib.hid f1
  clear hR f1
  go_wp2_with fail
  refine (add_any HR.out (by exact F1.out.size) row31 row31_ok (by simp)).mono ?_
  rintro e w2 ⟨rfl, lv2, hR2, hO2, hV2⟩
  have e2 : (rightP 2 row31 && !decide (row31 ∈ ([] : List Rw))) = true := by decide
  have e2' : rowErr (rightP 2 row31) = 0 := by decide
  have e2'' : addL 2 [] row31 = [row31] := by decide
  rw [e2, e2']
  rw [e2''] at hR2
  have HR2 := Lib.hid hR2
  have F2 := Lib.hid (((Only.fut F1.out).trans (hO2.mono (S' := fun k => w.heap.size ≤ k) fun k _ hk => HR.out.pl.ge k hk)).toFut fun k hk => hk)
  clear hR2 hO2 hV2
  go_wp2_with fail
  refine (add_any HR2.out (by exact F2.out.size) row12 row12_ok (by simp)).mono ?_
  rintro e w3 ⟨rfl, lv3, hR3, hO3, hV3⟩
  have e3 : (rightP 2 row12 && !decide (row12 ∈ [row31])) = true := by decide
  have e3' : rowErr (rightP 2 row12) = 0 := by decide
  have e3'' : addL 2 [row31] row12 = [row31, row12] := by decide
  rw [e3, e3']
  rw [e3''] at hR3
  have HR3 := Lib.hid hR3
  have F3 := Lib.hid (((Only.fut F2.out).trans (hO3.mono (S' := fun k => w.heap.size ≤ k) fun k _ hk => HR2.out.pl.ge k hk)).toFut fun k hk => hk)
  clear hR3 hO3 hV3
  go_wp2_with fail
  refine (at_any HR3.out 1 (by simp)).mono ?_
  rintro e w4 ⟨rfl, f4⟩
  have HR4 := Lib.hid (HR3.out.fut f4)
  have F4 := Lib.hid (F3.out.trans f4)
  clear f4 HR3 F3
  have hr := RowAt.new w4 27 row12_ok
  have F5 := Lib.hid (F4.out.trans (Fut.alloc w4 (.cells (Rw.cells row12).toArray 27)))
  have HR5 := Lib.hid (HR4.out.fut (Fut.alloc w4 (.cells (Rw.cells row12).toArray 27)))
  go_wp2_with (first | (refine wpList_store_new rowTy (wanted_none rfl _) _ _ rfl rfl rfl rfl row12_ok ?_) | (refine wpList_load_R rowTy (by go_simp) _ rfl rfl hr ?_) | (refine wpList_of_run (by go_simp) (exec_eql_R rowTy noGuard _ _ _ rfl rfl (show _ = Rw.val row12 from rfl) row12_ok row12_ok) ?_))
  refine (len_any HR5.out).mono ?_
  rintro e w6 ⟨rfl, hw6⟩
  have hw6' := hw6.symm
  subst hw6'
  go_wp2_with fail
  refine (arity_any HR5.out).mono ?_
  rintro e w6 ⟨rfl, hw6⟩
  have hw6' := hw6.symm
  subst hw6'
  go_wp2_with fail
  refine (has_any HR5.out row31 row31_ok).mono ?_
  rintro e w6 ⟨rfl, f6⟩
  rw [show decide (row31 ∈ [row31, row12]) = true from by decide]
  go_wp2
  go_ret
  exact ⟨rfl, F5.out.trans f6⟩
end Go.Proofs.YtijdichfaofjaaaGreatDoor
/- The document's Right. -/
namespace Go.Proofs.YtijdichfaofjaaaGreatDoor
open Go.RowKit Go.WideMaps
set_option linter.unusedSimpArgs false
set_option linter.unusedVariables false

/-- Are the columns below k what they must be? -/
def rightK (n : Nat) (x : Rw) (k : Nat) : Prop := ∀ i (h : i < x.length), i < k → 0 ≤ x[i] ∧ (n ≤ i → x[i] = 0)
theorem right_iff {n : Nat} {x : Rw} : rightP n x = true ↔ rightK n x x.length := by
  unfold rightP rightK
  simp only [Bool.and_eq_true, List.all_eq_true, decide_eq_true_eq]
  constructor
  · rintro ⟨h1, h2⟩ i hi _
    refine ⟨h1 _ (List.getElem_mem hi), fun hn => h2 _ ?_⟩
    rw [List.mem_iff_getElem]
    exact ⟨i - n, by simp; omega, by rw [List.getElem_drop]; congr 1; omega⟩
  · intro h
    refine ⟨fun a ha => ?_, fun a ha => ?_⟩
    · obtain ⟨i, hi, rfl⟩ := List.getElem_of_mem ha
      exact (h i hi hi).1
    · obtain ⟨i, hi, rfl⟩ := List.getElem_of_mem ha
      rw [List.length_drop] at hi
      rw [List.getElem_drop]
      exact (h (n + i) (by omega) (by omega)).2 (by omega)
set_option maxHeartbeats 1600000 in
set_option maxRecDepth 100000 in
theorem right10_any (n : Nat) (x : Rw) (hx : Rw.ok x) (w : World) :
    Calls Tryz.prog 21 #[Rw.val x, .int .i64 n] w fun e w' => e = .returned (.bool (rightP n x)) ∧ Fut w w' := by
  have X := Lib.hid hx
  have hxl := hx.1
  clear hx
  unfold Rw.val
  go_enter Tryz.func21, Tryz.ntmps21
  go_wp2
  have hr := RowAt.new w 27 X.out
  have F1 := Fut.alloc w (.cells (Rw.cells x).toArray 27)
  obtain ⟨W1, hW⟩ : ∃ W1, w.alloc (.cells (Rw.cells x).toArray 27) = W1 := ⟨_, rfl⟩
  rw [hW] at hr F1 ⊢
  clear hW
  have HC := Lib.hid (show ∀ k (h : k < x.length), W1.cell? ⟨w.heap.size, 0 + k, none⟩ = some (.int .i32 x[k]) from fun k hk => hr.2 k _ (by simp [Rw.cells, hk]))
  clear hr
  go_loopw [5] (fun i wr => ∃ k : Nat, k ≤ 24 ∧ i = .int .i64 k ∧ Hid (rightK n x k) ∧ wr = W1) (fun i _ => 24 - (intOf i).toNat)
  case atStart => exact ⟨0, Nat.zero_le _, rfl, Lib.hid (fun i _ h => by omega), by trivial⟩
  case round =>
    obtain ⟨k, hk, rfl, hK, hwr⟩ := hrel
    have hwr' := hwr.symm
    subst hwr'
    by_cases hlt : k < 24
    · have ck := HC.out k (by omega)
      rw [Nat.zero_add] at ck
      have e1 : (0 : Int) ≤ k ∧ (k : Int) < 24 := by omega
      have hlt' : (k : Int) < 24 := by omega
      by_cases h1 : x[k] < 0
      · have hf : rightP n x = false := by
          cases hp : rightP n x with
          | false => rfl
          | true => have := (right_iff.1 hp k (by omega) (by omega)).1; omega
        go_wp2
        go_ret
        exact ⟨by first | rfl | (rw [hf]; rfl), F1⟩
      · by_cases h2 : (n : Int) ≤ k ∧ x[k] ≠ 0
        · have hf : rightP n x = false := by
            cases hp : rightP n x with
            | false => rfl
            | true => have := (right_iff.1 hp k (by omega) (by omega)).2 (by omega); exact absurd this h2.2
          have h3 := h2.1
          have h4 := h2.2
          go_wp2
          go_ret
          exact ⟨by first | rfl | (rw [hf]; rfl), F1⟩
        · have h3 : rightK n x (k + 1) := fun i hi hik => by
            by_cases hik' : i < k
            · exact hK.out i hi hik'
            · obtain rfl : i = k := by omega
              refine ⟨by omega, fun hn => ?_⟩
              by_cases h0 : x[i] = 0
              · exact h0
              · exact absurd ⟨by omega, h0⟩ h2
          by_cases h5 : (n : Int) ≤ k
          · have h6 : x[k] = 0 := by
              by_cases h0 : x[k] = 0
              · exact h0
              · exact absurd ⟨h5, h0⟩ h2
            rw [h6] at ck h1
            go_wp2
            go_roundw
            case rel => exact ⟨k + 1, by omega, by go_num, Lib.hid h3, by trivial⟩
            case measure => simp [intOf] <;> omega
          · go_wp2
            go_roundw
            case rel => exact ⟨k + 1, by omega, by go_num, Lib.hid h3, by trivial⟩
            case measure => simp [intOf] <;> omega
    · obtain rfl : k = 24 := by omega
      have ht : rightP n x = true := right_iff.2 (by rw [hxl]; exact hK.out)
      go_wp2
      go_ret
      exact ⟨by first | rfl | (rw [ht]; rfl), F1⟩
end Go.Proofs.YtijdichfaofjaaaGreatDoor
