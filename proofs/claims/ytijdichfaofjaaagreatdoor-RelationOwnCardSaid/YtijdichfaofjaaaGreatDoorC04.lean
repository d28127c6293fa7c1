/- RelN, RelR, Graph0, Fill -/
import Derived.Great.BuildSlice
import Derived.Test.YtijdichfaofjaaaGreatDoorC03
/- relation.New, At, Has. -/
namespace Go.Proofs.YtijdichfaofjaaaGreatDoor
open Go.RowKit Go.WideMaps
set_option linter.unusedSimpArgs false
set_option linter.unusedVariables false

theorem zeros_eq : #[Value.int .i32 0, Value.int .i32 0, Value.int .i32 0, Value.int .i32 0, Value.int .i32 0, Value.int .i32 0, Value.int .i32 0, Value.int .i32 0, Value.int .i32 0, Value.int .i32 0, Value.int .i32 0, Value.int .i32 0, Value.int .i32 0, Value.int .i32 0, Value.int .i32 0, Value.int .i32 0, Value.int .i32 0, Value.int .i32 0, Value.int .i32 0, Value.int .i32 0, Value.int .i32 0, Value.int .i32 0, Value.int .i32 0, Value.int .i32 0] = (Rw.cells zeroRow).toArray := rfl
theorem results_row {P : Program} {k e : TypeId} {fn : Func} {p q : Tmp} {tmps : Array Value} {w : World} {g : Nat} {x : Rw} {v : Value} (h : fn.results = #[.cell p k, .tmp q]) (T : RowTy P k e)
    (hp : tmps.getD p undef = .pointer (some ⟨g, 0, none⟩)) (hr : RowAt w g 0 x) (hv : tmps.getD q undef = v) : (results fn tmps).run P w = .ok (.tuple #[Rw.val x, v]) w := by
  have hp' : tmps[p]?.getD undef = .pointer (some ⟨g, 0, none⟩) := by simpa using hp
  have hv' : tmps[q]?.getD undef = v := by simpa using hv
  simp [results, h, hp', hv', asAddr, run_loadVar_R T hr]
theorem zeroI (w : World) : (zeroValue 3).run Tryz.prog w = .ok (.int .i64 0) w := by kernel_rfl
theorem exec_lookup_R {P : Program} {k e t ev : TypeId} {w : World} {o : Oper} {a : Act} {b : Nat} {f : Rw → Option Int} {x : Rw} (T : RowTy P k e) (ht : P.underlying t = some (.map k ev)) (hz : ∀ w, (zeroValue ev).run P w = .ok (.int .i64 0) w) (m y : Operand)
    (ho : o.op = .lookup t m y true) (hm : a.eval m = .map (some b)) (hy : a.eval y = Rw.val x) (h : MapR w b f) (hx : Rw.ok x) :
    (execOp a.eval o).run P w = .ok (.value (.tuple #[.int .i64 ((f x).getD 0), .bool (f x).isSome])) w := by
  unfold execOp
  simp only [ho, hm, hy, Sem.run_bind, h.lookup T.A T.he T.hsz ht hz hx, Sem.run_pure, Result.andThen_ok]
theorem idx_nil : (fun _ => none) = idx [] := by funext x; simp [idx]
set_option maxHeartbeats 400000 in
set_option maxRecDepth 100000 in
theorem new_any (ar : Nat) (h1 : ar ≤ 24) (w : World) :
    Calls Tryz.prog 16 #[.int .i64 ar] w fun e w' => ∃ b pb mb, e = .returned (.tuple #[.pointer (some ⟨b, 0, none⟩), .int .i64 0]) ∧ RelI w.heap.size w' b pb mb (.slice none 0 0) ar 0 [] ∧ Fut w w' := by
  have hmm := @run_makeMap Tryz.prog
  have e1 : ¬ (ar : Int) < 0 := by omega
  have e2 : ¬ (24 : Int) < ar := by omega
  go_enter Tryz.func16, Tryz.ntmps16
  go_wp2
  go_ret2
  have b0 := heap_alloc_new w (.map #[] 0)
  have f1 := Fut.alloc w (.map #[] 0)
  have b1 := heap_alloc_new (w.alloc (.map #[] 0)) (.cells #[Value.slice none 0 0, Value.map (some w.heap.size)] 97)
  have f2 := Fut.alloc (w.alloc (.map #[] 0)) (.cells #[Value.slice none 0 0, Value.map (some w.heap.size)] 97)
  have b2 := heap_alloc_new ((w.alloc (.map #[] 0)).alloc (.cells #[Value.slice none 0 0, Value.map (some w.heap.size)] 97)) (.cells #[Value.int .i64 ar, Value.int .i64 ((0 : Nat) : Int), Value.pointer (some ⟨w.heap.size + 1, 0, none⟩)] 100)
  have f3 := Fut.alloc ((w.alloc (.map #[] 0)).alloc (.cells #[Value.slice none 0 0, Value.map (some w.heap.size)] 97)) (.cells #[Value.int .i64 ar, Value.int .i64 ((0 : Nat) : Int), Value.pointer (some ⟨w.heap.size + 1, 0, none⟩)] 100)
  rw [World.size_alloc] at b1
  rw [World.size_alloc, World.size_alloc] at b2
  have hM := MapR.new w
  refine ⟨w.heap.size + 1 + 1, rfl, ⟨w.heap.size + 1, w.heap.size, b2, ⟨f3.block b1, OwnL.nil, ?_, ⟨by omega, by omega⟩, List.nodup_nil⟩, by omega, h1⟩, (f1.trans f2).trans f3⟩
  rw [← idx_nil]
  exact hM.kept ((Below.block f3 _ (by simp; omega)).trans (Below.block f2 _ (by simp)))
set_option maxHeartbeats 400000 in
set_option maxRecDepth 100000 in
theorem new_bad (ar : Int) (h : ar < 0 ∨ 24 < ar) (w : World) :
    Calls Tryz.prog 16 #[.int .i64 ar] w fun e w' => e = .returned (.tuple #[.pointer none, .int .i64 1]) ∧ w' = w := by
  go_enter Tryz.func16, Tryz.ntmps16
  rcases h with h | h
  · go_wp2
    go_ret2
    exact ⟨rfl, rfl⟩
  · have e1 : ¬ ar < 0 := by omega
    go_wp2
    go_ret2
    exact ⟨rfl, rfl⟩
set_option maxHeartbeats 400000 in
set_option maxRecDepth 100000 in
theorem at_any {B : Nat} {w : World} {b pb mb : Nat} {lv : Value} {ar gone : Nat} {xs : List Rw} (h : RelI B w b pb mb lv ar gone xs) (k : Nat) (hk : k < xs.length) :
    Calls Tryz.prog 14 #[.pointer (some ⟨b, 0, none⟩), .int .i64 k] w fun e w' => e = .returned (.tuple #[Rw.val xs[k], .int .i64 0]) ∧ Fut w w' := by
  have c0 := cell_at h.blk 0 _ rfl
  have c1 := cell_at h.blk 1 _ rfl
  have c2 := cell_at h.blk 2 _ rfl
  have p0 := cell_at h.pl.blk 0 _ rfl
  have HR := Lib.hid (h.pl.list.rep)
  have HH := Lib.hid (fun W1 (F1 : Fut w W1) => there_any (h.fut F1))
  obtain ⟨A, cap, rfl, hl, hm⟩ := h.pl.form
  obtain ⟨b', off, rfl, hr⟩ := rows_at HR.out hk
  clear h
  go_enter Tryz.func14, Tryz.ntmps14
  go_wp2_with fail
  rw [zeros_eq]
  have hN := heap_alloc_new w (.cells (Rw.cells zeroRow).toArray 27)
  have F1 := Fut.alloc w (.cells (Rw.cells zeroRow).toArray 27)
  have hw : w.heap.size < (w.alloc (.cells (Rw.cells zeroRow).toArray 27)).heap.size := by simp
  obtain ⟨W1, hW⟩ : ∃ W1, w.alloc (.cells (Rw.cells zeroRow).toArray 27) = W1 := ⟨_, rfl⟩
  rw [hW] at hN F1 hw ⊢
  clear hW
  refine (HH.out W1 F1).mono ?_
  rintro e w1 ⟨rfl, hw1⟩
  have hw2 := hw1.symm
  subst hw2
  replace c0 := F1.cell c0
  replace c1 := F1.cell c1
  replace c2 := F1.cell c2
  replace p0 := F1.cell p0
  replace hr := hr.fut F1
  have hlt : (k : Int) < xs.length := by omega
  have hng : ¬ (k : Int) < 0 := by omega
  have hge : ¬ (xs.length : Int) ≤ k := by omega
  go_wp2_with (first | (refine wpList_load_R rowTy (wanted_none rfl _) _ rfl rfl hr ?_) | (refine wpList_store_R rowTy (wanted_none rfl _) _ _ rfl rfl rfl hN rfl hr.1 ?_))
  refine bodyPost_ret (results_row rfl rowTy rfl (RowAt.of_block hr.1 (World.putObj_heap_same hw)) (by rfl)) rfl ?_
  exact ⟨rfl, ((Only.fut F1).trans (Only.put (S := fun k => k = w.heap.size) _ _ rfl)).toFut (fun k hk => Nat.le_of_eq hk.symm)⟩
set_option maxHeartbeats 800000 in
set_option maxRecDepth 100000 in
theorem has_any {B : Nat} {w : World} {b pb mb : Nat} {lv : Value} {ar gone : Nat} {xs : List Rw} (h : RelI B w b pb mb lv ar gone xs) (x : Rw) (hx : Rw.ok x) :
    Calls Tryz.prog 15 #[.pointer (some ⟨b, 0, none⟩), Rw.val x] w fun e w' => e = .returned (.bool (decide (x ∈ xs))) ∧ Fut w w' := by
  have H := Lib.hid h
  have c0 := cell_at h.blk 0 _ rfl
  have c1 := cell_at h.blk 1 _ rfl
  have c2 := cell_at h.blk 2 _ rfl
  have p0 := cell_at h.pl.blk 0 _ rfl
  have p1 := cell_at h.pl.blk 1 _ rfl
  clear h
  unfold Rw.val
  go_enter Tryz.func15, Tryz.ntmps15
  go_wp2_with fail
  have hr := RowAt.new w 27 hx
  have F1 := Fut.alloc w (.cells (Rw.cells x).toArray 27)
  obtain ⟨W1, hW⟩ : ∃ W1, w.alloc (.cells (Rw.cells x).toArray 27) = W1 := ⟨_, rfl⟩
  rw [hW] at hr F1 ⊢
  clear hW
  refine (there_any (H.out.fut F1)).mono ?_
  rintro e w1 ⟨rfl, hw1⟩
  have hw2 := hw1.symm
  subst hw2
  replace c2 := F1.cell c2
  replace p1 := F1.cell p1
  go_wp2_with fail
  refine wp_graph 14 [.d, .d, .d, .d, .d, .d, .d, .d, .d, .d, .d, .d, .d, .d] (by kernel_rfl) (by kernel_rfl) (by kernel_rfl) ?_
  simp only [List.take_succ_cons, List.take_zero, List.drop_succ_cons, List.drop_zero, Exs]
  iterate 14 apply Exists.intro
  apply Run.valG (wanted_none rfl _)
  · intro w1 h1 hk
    have q2 := h1.cell c2; have q1 := h1.cell p1; have hg := (Fut.drew _).trans h1
    have hcw := fun b o => Below.cell (p := ⟨b, o, none⟩) h1
    go_simp; rfl
  simp only [Act.put, List.setIfInBounds_toArray, List.set_cons_succ, List.set_cons_zero, List.nil_append, List.cons_append]
  apply Run.valG (wanted_none rfl _)
  · intro w1 h1 hk
    have q2 := h1.cell c2; have q1 := h1.cell p1; have hg := (Fut.drew _).trans h1
    have hcw := fun b o => Below.cell (p := ⟨b, o, none⟩) h1
    go_simp; rfl
  simp only [Act.put, List.setIfInBounds_toArray, List.set_cons_succ, List.set_cons_zero, List.nil_append, List.cons_append]
  apply Run.valG (wanted_none rfl _)
  · intro w1 h1 hk
    have q2 := h1.cell c2; have q1 := h1.cell p1; have hg := (Fut.drew _).trans h1
    have hcw := fun b o => Below.cell (p := ⟨b, o, none⟩) h1
    go_simp; rfl
  simp only [Act.put, List.setIfInBounds_toArray, List.set_cons_succ, List.set_cons_zero, List.nil_append, List.cons_append]
  apply Run.valG (wanted_none rfl _)
  · intro w1 h1 hk
    have q2 := h1.cell c2; have q1 := h1.cell p1; have hg := (Fut.drew _).trans h1
    have hcw := fun b o => Below.cell (p := ⟨b, o, none⟩) h1
    go_simp; rfl
  simp only [Act.put, List.setIfInBounds_toArray, List.set_cons_succ, List.set_cons_zero, List.nil_append, List.cons_append]
  apply Run.valG (wanted_none rfl _)
  · intro w1 h1 hk
    have q2 := h1.cell c2; have q1 := h1.cell p1; have hg := (Fut.drew _).trans h1
    have hcw := fun b o => Below.cell (p := ⟨b, o, none⟩) h1
    go_simp; rfl
  simp only [Act.put, List.setIfInBounds_toArray, List.set_cons_succ, List.set_cons_zero, List.nil_append, List.cons_append]
  apply Run.valG (wanted_none rfl _)
  · intro w1 h1 hk
    have q2 := h1.cell c2; have q1 := h1.cell p1; have hg := (Fut.drew _).trans h1
    have hcw := fun b o => Below.cell (p := ⟨b, o, none⟩) h1
    go_simp; rfl
  simp only [Act.put, List.setIfInBounds_toArray, List.set_cons_succ, List.set_cons_zero, List.nil_append, List.cons_append]
  apply Run.valG (wanted_none rfl _)
  · intro w1 h1 hk
    have q2 := h1.cell c2; have q1 := h1.cell p1; have hg := (Fut.drew _).trans h1
    have hcw := fun b o => Below.cell (p := ⟨b, o, none⟩) h1
    go_simp; rfl
  simp only [Act.put, List.setIfInBounds_toArray, List.set_cons_succ, List.set_cons_zero, List.nil_append, List.cons_append]
  apply Run.valG (wanted_none rfl _)
  · intro w1 h1 hk
    have q2 := h1.cell c2; have q1 := h1.cell p1; have hg := (Fut.drew _).trans h1
    have hcw := fun b o => Below.cell (p := ⟨b, o, none⟩) h1
    exact exec_load_R rowTy _ rfl rfl (hr.fut hg)
  simp only [Act.put, List.setIfInBounds_toArray, List.set_cons_succ, List.set_cons_zero, List.nil_append, List.cons_append]
  apply Run.valG (wanted_none rfl _)
  · intro w1 h1 hk
    have q2 := h1.cell c2; have q1 := h1.cell p1; have hg := (Fut.drew _).trans h1
    have hcw := fun b o => Below.cell (p := ⟨b, o, none⟩) h1
    exact exec_lookup_R rowTy Tryz.underlying95 zeroI _ _ rfl rfl rfl (H.out.fut (F1.trans hg)).pl.map hx
  simp only [Act.put, List.setIfInBounds_toArray, List.set_cons_succ, List.set_cons_zero, List.nil_append, List.cons_append]
  apply Run.valG (wanted_none rfl _)
  · intro w1 h1 hk
    have q2 := h1.cell c2; have q1 := h1.cell p1; have hg := (Fut.drew _).trans h1
    have hcw := fun b o => Below.cell (p := ⟨b, o, none⟩) h1
    go_simp; rfl
  simp only [Act.put, List.setIfInBounds_toArray, List.set_cons_succ, List.set_cons_zero, List.nil_append, List.cons_append]
  apply Run.valG (wanted_none rfl _)
  · intro w1 h1 hk
    have q2 := h1.cell c2; have q1 := h1.cell p1; have hg := (Fut.drew _).trans h1
    have hcw := fun b o => Below.cell (p := ⟨b, o, none⟩) h1
    go_simp; rfl
  simp only [Act.put, List.setIfInBounds_toArray, List.set_cons_succ, List.set_cons_zero, List.nil_append, List.cons_append]
  apply Run.valG (wanted_none rfl _)
  · intro w1 h1 hk
    have q2 := h1.cell c2; have q1 := h1.cell p1; have hg := (Fut.drew _).trans h1
    have hcw := fun b o => Below.cell (p := ⟨b, o, none⟩) h1
    go_simp; rfl
  simp only [Act.put, List.setIfInBounds_toArray, List.set_cons_succ, List.set_cons_zero, List.nil_append, List.cons_append]
  apply Run.valG (wanted_none rfl _)
  · intro w1 h1 hk
    have q2 := h1.cell c2; have q1 := h1.cell p1; have hg := (Fut.drew _).trans h1
    have hcw := fun b o => Below.cell (p := ⟨b, o, none⟩) h1
    go_simp; rfl
  simp only [Act.put, List.setIfInBounds_toArray, List.set_cons_succ, List.set_cons_zero, List.nil_append, List.cons_append]
  apply Run.valG (wanted_none rfl _)
  · intro w1 h1 hk
    have q2 := h1.cell c2; have q1 := h1.cell p1; have hg := (Fut.drew _).trans h1
    have hcw := fun b o => Below.cell (p := ⟨b, o, none⟩) h1
    go_simp; rfl
  simp only [Act.put, List.setIfInBounds_toArray, List.set_cons_succ, List.set_cons_zero, List.nil_append, List.cons_append]
  apply Run.done
  intro w2 h2 hk
  clear hk
  go_wp2
  go_ret
  exact ⟨by rw [← idx_isSome]; rfl, F1.trans ((Fut.drew _).trans h2)⟩
end Go.Proofs.YtijdichfaofjaaaGreatDoor
/- slices.Min; is it a row of the arity? -/
namespace Go.Proofs.YtijdichfaofjaaaGreatDoor
open Go.RowKit Go.WideMaps
set_option linter.unusedSimpArgs false
set_option linter.unusedVariables false

/-- Which rows may be, at an arity. -/
def rightP (ar : Nat) (x : Rw) : Bool := (x.all fun a => decide (0 ≤ a)) && (x.drop ar).all fun a => decide (a = 0)
def minI (a b : Int) : Int := if b < a then b else a
theorem wf_i32 {a : Int} (h : (Lit.int .i32 a).wf = true) : -2147483648 ≤ a ∧ a ≤ 2147483647 := by simpa [Lit.wf, IntKind.min, IntKind.max, IntKind.signed, IntKind.bits] using h

set_option maxHeartbeats 800000 in
set_option maxRecDepth 100000 in
theorem min_any (xs : List Int) (h0 : xs ≠ []) (b off cap : Nat) (hl : xs.length ≤ 100) (hc : xs.length ≤ cap) (hwf : ∀ a ∈ xs, (Lit.int .i32 a).wf = true) (w : World) (hx : ∀ k (h : k < xs.length), w.cell? ⟨b, off + k, none⟩ = some (.int .i32 xs[k])) :
    Calls Tryz.prog 169 #[.slice (some ⟨b, off, none⟩) xs.length cap] w fun e w' => (∃ m, e = .returned (.int .i32 m) ∧ (m < 0 ↔ ∃ a ∈ xs, a < 0)) ∧ w' = w := by
  have hn : 0 < xs.length := List.length_pos_iff.2 h0
  have x0 := hx 0 hn
  rw [Nat.add_zero] at x0
  have hx' := Lib.hid hx
  have hwf' := Lib.hid hwf
  have h0' := Lib.hid h0
  clear hx hwf h0
  have hlt : ¬ (xs.length : Int) < 1 := by omega
  have hb : (0 : Int) ≤ 0 ∧ (0 : Int) < xs.length := by omega
  go_enter Tryz.func169, Tryz.ntmps169
  go_wp2
  go_loopw [3, 4] (fun m i wr => ∃ (k : Nat) (mv : Int), 1 ≤ k ∧ k ≤ xs.length ∧ i = .int .i64 k ∧ m = .int .i32 mv ∧ Hid (mv < 0 ↔ ∃ a ∈ xs.take k, a < 0) ∧ wr = w) (fun _ i _ => xs.length - (intOf i).toNat)
  case atStart => exact ⟨1, xs[0], Nat.le_refl _, hn, rfl, rfl, Lib.hid (by cases xs with | nil => simp at hn | cons a r => simp), by trivial⟩
  case round =>
    obtain ⟨k, mv, h1, hk, rfl, rfl, hm, rfl⟩ := hrel
    by_cases hlt : k < xs.length
    · have xk := hx'.out k hlt
      have hb1 : (0 : Int) ≤ k ∧ (k : Int) < xs.length := by omega
      go_wp2
      go_roundw
      case rel =>
        refine ⟨k + 1, if xs[k] < mv then xs[k] else mv, by omega, by omega, by go_num, by rfl, Lib.hid ?_, by trivial⟩
        · have hT : xs.take (k + 1) = xs.take k ++ [xs[k]] := by rw [List.take_succ_eq_append_getElem hlt]
          have e1 : (∃ a ∈ xs.take (k + 1), a < 0) ↔ ((∃ a ∈ xs.take k, a < 0) ∨ xs[k] < 0) := by
            rw [hT]
            constructor
            · rintro ⟨a, ha, h⟩
              rcases List.mem_append.1 ha with ha | ha
              · exact .inl ⟨a, ha, h⟩
              · rw [List.mem_singleton] at ha; subst ha; exact .inr h
            · rintro (⟨a, ha, h⟩ | h)
              · exact ⟨a, List.mem_append_left _ ha, h⟩
              · exact ⟨_, List.mem_append_right _ (by simp), h⟩
          rw [e1, ← hm.out]
          split <;> omega
      case measure => simp [intOf] <;> omega
    · obtain rfl : k = xs.length := by omega
      go_wp2
      go_ret
      have := hm.out
      rw [List.take_length] at this
      exact ⟨⟨mv, rfl, this⟩, rfl⟩
def clr (n : Nat) (x : Rw) : Rw := List.replicate n 0 ++ x.drop n
theorem clr_ok {n : Nat} {x : Rw} (hx : Rw.ok x) (hn : n ≤ 24) : Rw.ok (clr n x) := ⟨by simp [clr, hx.1]; omega, fun a ha => by
  rcases List.mem_append.1 ha with ha | ha
  · rw [List.eq_of_mem_replicate ha]; decide
  · exact hx.2 a (List.mem_of_mem_drop ha)⟩
theorem clr_zero {n : Nat} {x : Rw} (hx : Rw.ok x) (hn : n ≤ 24) : clr n x = zeroRow ↔ ((x.drop n).all fun a => decide (a = 0)) = true := by
  have hz : zeroRow = List.replicate n 0 ++ List.replicate (24 - n) (0 : Int) := by
    rw [List.replicate_append_replicate, show n + (24 - n) = 24 by omega]; rfl
  rw [hz]
  unfold clr
  rw [List.append_cancel_left_eq, List.eq_replicate_iff, List.all_eq_true]
  simp [hx.1]
theorem putObj_same {w : World} {g : Nat} {o : Obj} (h : w.heap[g]? = some o) : w.putObj g o = w := by
  unfold World.putObj
  have : w.heap.setIfInBounds g o = w.heap := by
    have hl := (Array.getElem?_eq_some_iff.1 h).1
    refine Array.ext_getElem? fun i => ?_
    by_cases hi : i = g
    · subst hi; rw [h]; simp [hl]
    · rw [Array.getElem?_setIfInBounds_ne (Ne.symm hi)]
  rw [this]
theorem zeroCells_i32 (n : Nat) : (Builtin.zeroCells (#[Value.int .i32 0]) n).toList = List.replicate n (.int .i32 0) := by
  unfold Builtin.zeroCells
  simp only [List.size_toArray, List.length_cons, List.length_nil, Nat.zero_add, Nat.mul_one, Nat.mod_one, Array.toList_map, Array.toList_range]
  rw [List.eq_replicate_iff]
  simp
theorem exec_clear_R {P : Program} {t k e : TypeId} {w : World} {o : Oper} {a : Act} {g n cap : Nat} {x : Rw} (T : RowTy P k e) (ht : P.underlying t = some (.slice e)) (hz : ∀ w, (zeroValue e).run P w = .ok (.int .i32 0) w) (y : Operand)
    (ho : o.op = .call { callee := .builtin .clear, args := #[y], argTypes := #[t] }) (hy : a.eval y = .slice (some ⟨g, 0, none⟩) n cap) (hb : w.heap[g]? = some (.cells (Rw.cells x).toArray k (0, 0))) (hx : Rw.ok x) (hn : n ≤ 24) :
    (execOp a.eval o).run P w = .ok (.value (.tuple #[])) (w.putObj g (.cells (Rw.cells (clr n x)).toArray k (0, 0))) := by
  have hl := Rw.cells_len hx
  have hrun : (Builtin.clear_ #[t] o.type #[.slice (some ⟨g, 0, none⟩) n cap]).run P w = .ok (.tuple #[]) (w.putObj g (.cells (Rw.cells (clr n x)).toArray k (0, 0))) := by
    cases n with
    | zero =>
      have e1 : clr 0 x = x := by simp [clr]
      rw [e1, putObj_same hb]
      simp [Builtin.clear_, run_underlying ht]
    | succ n =>
      have h1 := run_storeCells_cells (P := P) g 0 (List.replicate (n + 1) (.int .i32 0)) 0 w (fun j hj => by
        rw [List.length_replicate] at hj
        simp [World.cell?, hb]; omega) (fun j hj => by simp [World.frozen?, hb]) (fun v hv => by rw [List.eq_of_mem_replicate hv]; rfl)
      obtain ⟨arr', h2, h3, h4⟩ := setCells_put (List.replicate (n + 1) (.int .i32 0)) 0 w _ hb
      have e1 : arr' = (Rw.cells (clr (n + 1) x)).toArray := by
        refine Array.ext_getElem? fun j => ?_
        rw [h4]
        simp only [Rw.cells, clr, List.map_append, List.map_replicate, List.getElem?_toArray, List.length_replicate, Nat.zero_add, Nat.sub_zero, List.size_toArray, List.length_map, hx.1]
        by_cases hj : j < n + 1
        · rw [if_pos (by omega), List.getElem?_append_left (by simpa using hj)]
        · rw [if_neg (by omega), List.getElem?_append_right (by simpa using hj)]
          simp only [List.length_replicate, List.map_drop, List.getElem?_drop]
          rw [show n + 1 + (j - (n + 1)) = j by omega]
      simp only [Nat.add_zero] at h1
      rw [h2, e1] at h1
      simp [Builtin.clear_, run_underlying ht, hz, Value.cells, zeroCells_i32, h1]
  unfold execOp
  simp only [ho, resolve, invoke, builtin, Sem.run_bind, Sem.run_pure, Result.andThen_ok, List.map_toArray, List.map_cons, List.map_nil, hy, hrun]
theorem zeroS (w : World) : (zeroValue 25).run Tryz.prog w = .ok (.int .i32 0) w := by kernel_rfl
theorem right_eq {n : Nat} {x : Rw} {m : Int} (hx : Rw.ok x) (hn : n ≤ 24) (hm : m < 0 ↔ ∃ a ∈ x, a < 0) : rightP n x = (decide (¬ m < 0) && decide (clr n x = zeroRow)) := by
  unfold rightP
  have h1 : (x.all fun a => decide (0 ≤ a)) = decide (¬ m < 0) := by
    rw [Bool.eq_iff_iff, List.all_eq_true, decide_eq_true_eq, hm]
    constructor
    · rintro h ⟨a, ha, h2⟩
      have := of_decide_eq_true (h a ha); omega
    · intro h a ha
      exact decide_eq_true (by
        by_cases h' : a < 0
        · exact absurd ⟨a, ha, h'⟩ h
        · omega)
  have h2 : ((x.drop n).all fun a => decide (a = 0)) = decide (clr n x = zeroRow) := by
    rw [Bool.eq_iff_iff, decide_eq_true_eq]; exact (clr_zero hx hn).symm
  rw [h1, h2]
theorem exec_eql_R {P : Program} {k e : TypeId} {w : World} {o : Oper} {a : Act} {x y : Rw} (T : RowTy P k e) (hg : P.eqGuardType P.depth k = false) (p q : Operand) (kt : TypeId)
    (ho : o.op = .binOp .eql k p q kt) (hp : a.eval p = Rw.val x) (hq : a.eval q = Rw.val y) (hx : Rw.ok x) (hy : Rw.ok y) : (execOp a.eval o).run P w = .ok (.value (.bool (decide (x = y)))) w := by
  have h1 := run_eql_row T.A T.he T.hsz hx hy w
  unfold execOp
  unfold Rw.val at h1 hp hq
  simp only [ho, hp, hq, Sem.run_bind, run_eqGuard_agg w .eql k p q _ _ hg, Result.andThen_ok, h1, Sem.run_pure]
theorem exec_neq_R {P : Program} {k e : TypeId} {w : World} {o : Oper} {a : Act} {x y : Rw} (T : RowTy P k e) (hg : P.eqGuardType P.depth k = false) (p q : Operand) (kt : TypeId)
    (ho : o.op = .binOp .neq k p q kt) (hp : a.eval p = Rw.val x) (hq : a.eval q = Rw.val y) (hx : Rw.ok x) (hy : Rw.ok y) : (execOp a.eval o).run P w = .ok (.value (.bool (!decide (x = y)))) w := by
  have h1 := run_neq_row T.A T.he T.hsz hx hy w
  unfold execOp
  unfold Rw.val at h1 hp hq
  simp only [ho, hp, hq, Sem.run_bind, run_eqGuard_agg w .neq k p q _ _ hg, Result.andThen_ok, h1, Sem.run_pure]
theorem noGuard : Tryz.prog.eqGuardType Tryz.prog.depth 27 = false := by kernel_rfl
set_option maxHeartbeats 800000 in
set_option maxRecDepth 100000 in
theorem right_any {w : World} {b n : Nat} {gone : Nat} {p : Value} (hb : w.heap[b]? = some (.cells #[.int .i64 n, .int .i64 gone, p] 100 (0, 0))) (hn : n ≤ 24) (x : Rw) (hx : Rw.ok x) :
    Calls Tryz.prog 68 #[.pointer (some ⟨b, 0, none⟩), Rw.val x] w fun e w' => e = .returned (.bool (rightP n x)) ∧ Fut w w' := by
  have c0 := cell_at hb 0 _ rfl
  have hlb := (Array.getElem?_eq_some_iff.1 hb).1
  clear hb
  have X := Lib.hid hx
  have hxl := hx.1
  clear hx
  unfold Rw.val
  go_enter Tryz.func68, Tryz.ntmps68
  go_wp2_with fail
  have hr := RowAt.new w 27 X.out
  have F1 := Fut.alloc w (.cells (Rw.cells x).toArray 27)
  obtain ⟨W1, hW⟩ : ∃ W1, w.alloc (.cells (Rw.cells x).toArray 27) = W1 := ⟨_, rfl⟩
  rw [hW] at hr F1 ⊢
  clear hW
  have c0a := fun o => (F1.trans (Fut.alloc W1 o)).cell c0
  have hMin := min_any x (fun e => by rw [e] at hxl; simp at hxl) w.heap.size 0 24 (by omega) (by omega) X.out.2 W1 (fun k hk => by
    refine hr.2 k _ ?_
    simp [Rw.cells, hk])
  rw [hxl] at hMin
  refine hMin.mono ?_
  rintro e w1 ⟨⟨m, rfl, hm⟩, hw1⟩
  have hw2 := hw1.symm
  subst hw2
  have hR := Lib.hid (right_eq X.out hn hm)
  clear hm
  by_cases hm0 : m < 0
  · go_wp2
    go_ret
    exact ⟨by rw [hR.out, decide_eq_false (by omega : ¬ (0 ≤ m))]; rfl, F1⟩
  · have hn1 : (0 : Int) ≤ n := by omega
    have hn2 : (n : Int) ≤ 24 := by omega
    have hX := X.out
    have hN := heap_alloc_new W1 (.cells (Rw.cells x).toArray 27)
    have hr2 := RowAt.new W1 27 (clr_ok (n := n) hX hn)
    go_wp2_with (first | (refine wpList_load_R rowTy (wanted_none rfl _) _ rfl rfl hr ?_) | (refine wpList_load_R rowTy (wanted_none rfl _) _ rfl rfl hr2 ?_) | (refine wpList_store_new rowTy (wanted_none rfl _) _ _ rfl rfl rfl rfl hX ?_) | (refine wpList_of_run (wanted_none rfl _) (exec_clear_R rowTy Tryz.underlying102 zeroS _ rfl rfl hN hX hn) ?_; rw [putObj_alloc]) | (refine wpList_of_run (wanted_none rfl _) (exec_eql_R rowTy noGuard _ _ _ rfl rfl (show _ = Rw.val zeroRow from rfl) (clr_ok hX hn) zeroRow_ok) ?_))
    go_ret
    exact ⟨by rw [hR.out, decide_eq_true (by omega : 0 ≤ m)]; rfl, F1.trans (Fut.alloc _ _)⟩
end Go.Proofs.YtijdichfaofjaaaGreatDoor
/- A region that draws its order, whose first operation, a plain copy, may come at any time. No program. -/
namespace Go.Proofs.YtijdichfaofjaaaGreatDoor
open Go.RowKit
set_option linter.unusedSimpArgs false
set_option linter.unusedVariables false

/-- The tail waits for all of the head but number 0. -/
def sink1B (ops : Array Oper) (n : Nat) : Bool :=
  (List.range n).all fun i => decide (i = 0) || (List.range (n + 1)).any fun j => decide (i < j) && Region.waitsFor .any ops j i
def sinkB0 (ops : Array Oper) (n : Nat) : Bool := decide (n = ops.size) || (sink1B ops n && Region.chainB .any ops n)
def tailB0 (ops : Array Oper) (n : Nat) : Bool := sinkB0 ops n && Region.seqB .any ops (ops.size - n) n (headDone n ops.size)
def takeB (ops : Array Oper) : Bool := match ops[0]? with
  | none => false
  | some o => (match o.guard with | none => true | some _ => false) && (match o.op with | .move (.tmp _) => true | _ => false) && Region.free .any ops (Array.replicate ops.size false) 0 && (Region.ready .any ops (Array.replicate ops.size false)).contains 0

theorem tail_waits0 {ops : Array Oper} {n : Nat} {listed : Array Bool} (hs : sink1B ops n = true) (hc : Region.chainB .any ops n = true) (hn : n < ops.size) (inv : HeadInv .any ops n listed) :
    ∀ (d i : Nat), n - i = d → i < n → i ≠ 0 → listed.getD i true = false → ∀ t, n ≤ t → t ∉ Region.ready .any ops listed := by
  intro d
  induction d using Nat.strongRecOn with
  | _ d ih =>
    intro i hd hi hi0 hun t ht hr
    obtain ⟨_, ot, hot, hall⟩ := mem_ready.1 hr
    have htlt : t < ops.size := (Array.getElem?_eq_some_iff.1 hot).1
    by_cases htn : t = n
    · subst htn
      have h1 := List.all_eq_true.1 hs i (List.mem_range.2 hi)
      simp only [hi0, decide_false, Bool.false_or] at h1
      obtain ⟨j, hj, hj2⟩ := List.any_eq_true.1 h1
      simp only [Bool.and_eq_true, decide_eq_true_eq] at hj2
      obtain ⟨oj, hoj, e, he, hb, hon⟩ := Region.waitsFor_spec hj2.2
      have hjle : j ≤ t := by have := List.mem_range.1 hj; omega
      by_cases hjt : j = t
      · subst hjt
        have : oj = ot := Option.some.inj (hoj.symm.trans hot)
        subst this
        have h2 := hall e he hb
        rw [hon, getD_both hun] at h2
        cases h2
      · cases hl : listed.getD j false with
        | true =>
          have h2 := inv.closed j oj hoj hl e he hb
          rw [hon, getD_both hun] at h2
          cases h2
        | false =>
          have hjs : j < listed.size := by rw [inv.size]; omega
          exact ih (t - j) (by omega) j rfl (by omega) (by omega) (getD_in hjs hl) t (Nat.le_refl _) hr
    · have h1 := List.all_eq_true.1 hc t (List.mem_range.2 htlt)
      simp only [Bool.or_eq_true, decide_eq_true_eq] at h1
      rcases h1 with h1 | h1
      · omega
      · obtain ⟨o', ho', e, he, hb, hon⟩ := Region.waitsFor_spec h1
        have : o' = ot := Option.some.inj (ho'.symm.trans hot)
        subst this
        have h2 := hall e he hb
        rw [hon, getD_both (inv.tail (t - 1) (by omega) (by omega))] at h2
        cases h2

theorem wp_region_graph0 {P : Program} {id : Nat} {Q : Exit → Act → World → Prop} {a0 : Act} {w : World} {l : List Oper} (n : Nat) (hm : P.follows .mixedOrders = true)
    (hB : (graphB l.toArray n && tailB0 l.toArray n) = true) (ht0 : takeB l.toArray = true) (hn0 : 0 < n) (hQ : ∀ c v w, ∀ a : Act, ∀ o, l[0]? = some o → Q (.panic c) (a.put o.dst v) w → Q (.panic c) a w) (hsz : ((List.range n).all fun k => match dstAt l.toArray k with | some d => decide (d < a0.tmps.size) | none => true) = true)
    (h : Obl P l.toArray w.drew a0 (wpList P l.toArray Q (l.drop n)) (l.take n) []) : (Code.region id l.toArray true).wp P Q a0 w := by
  simp only [Bool.and_eq_true, tailB0] at hB
  obtain ⟨hG, hS, hseq⟩ := hB
  obtain ⟨hsel, hns, hg⟩ := graphB_spec hG
  have hnl : n ≤ l.length := by simpa using hns
  have hbd : ∀ k d, dstAt l.toArray k = some d → k < n → d < a0.tmps.size := fun k d hd hk => by
    have := List.all_eq_true.1 hsz k (List.mem_range.2 hk)
    simpa [hd] using this
  obtain ⟨full, hfl, _, hob, hfin⟩ := Obl_split _ _ h
  simp only [List.length_nil, Nat.zero_add] at hfl hob
  have htl : (l.take n).length = n := by simp; omega
  rw [htl] at hfl
  -- the specifications
  obtain ⟨sp, hsp⟩ : ∃ sp : Nat → Sp, ∀ k, sp k = ((full[k]?).map (·.2)).getD (.det undef) := ⟨_, fun _ => rfl⟩
  have hfull : ∀ k, k < n → ∃ o, l[k]? = some o ∧ full[k]? = some (dstAt l.toArray k, sp k) ∧ (sp k).mono ∧
      ∀ w', Fut w.drew w' → lexAct o w' (fun a => givesG P l.toArray o a (sp k) w') 0 (full.take k) a0 := fun k hk => by
    have hlk : l[k]? = some (l[k]'(by omega)) := List.getElem?_eq_getElem (by omega)
    obtain ⟨s, hs, hmono, hlex⟩ := hob k _ (by rw [List.getElem?_take, if_pos hk]; exact hlk)
    have hspk : sp k = s := by rw [hsp, hs]; rfl
    refine ⟨_, hlk, ?_, by rw [hspk]; exact hmono, by rw [hspk]; exact hlex⟩
    rw [hs, hspk]
    simp [dstAt, hlk]
  refine wp_region_any hm ?_
  have main : ∀ (f : Nat) (listed : Array Bool) (a : Act) (w' : World) (vs : Nat → Value), GInv l.toArray n sp a0 w.drew vs listed a w' → listed.getD 0 false = true → unl listed n = f →
      wpAny P .any l.toArray Q (f + (l.length - n)) listed a w' := by
    intro f
    induction f with
    | zero =>
      intro listed a w' vs inv hl0 hf
      rw [Nat.zero_add]
      have hlisted : listed = headDone n l.length := by
        refine Array.ext_getElem? fun t => ?_
        by_cases ht : t < l.length
        · have hts : t < listed.size := by rw [inv.lsize]; simpa using ht
          have h2 : (headDone n l.length)[t]? = some (decide (t < n)) := by simp [headDone, ht]
          rw [h2, Array.getElem?_eq_getElem hts]
          by_cases htn : t < n
          · have := unl_zero n hf t htn
            simp [hts] at this
            simp [htn, this]
          · have := inv.tail t (by omega) (by simpa using ht)
            simp [hts] at this
            simp [htn, this]
        · rw [Array.getElem?_eq_none (by rw [inv.lsize]; simp; omega), Array.getElem?_eq_none (by simp [headDone]; omega)]
      have hlast := lexFin_inst (K := fun a => wpList P l.toArray Q (l.drop n) a w') vs full 0 a0 (hfin w' inv.fut) fun j d S hj => by
        rw [Nat.zero_add]
        have hjn : j < n := by rw [← hfl]; exact (List.getElem?_eq_some_iff.1 hj).1
        obtain ⟨_, _, h1, _, _⟩ := hfull j hjn
        rw [hj] at h1
        simp only [Option.some.injEq, Prod.mk.injEq] at h1
        have := inv.held j hjn (unl_zero n hf j hjn)
        rw [← h1.2] at this
        exact this
      have hact : a = putAll vs 0 full a0 := by
        refine act_ext (fun t => ?_) ?_
        · by_cases hex : ∃ k, k < n ∧ dstAt l.toArray k = some t
          · obtain ⟨k, hk, hkd⟩ := hex
            obtain ⟨_, _, h1, _, _⟩ := hfull k hk
            rw [hkd] at h1
            rw [inv.slot k t hk (unl_zero n hf k hk) hkd, putAll_at vs t full 0 a0 k (sp k) (hbd k t hkd hk) h1, Nat.zero_add]
            · have h2 := inv.held k hk (unl_zero n hf k hk)
              cases hs : sp k with
              | det c => rw [hs] at h2; simp only [Sp.holds] at h2; rw [h2]; rfl
              | rel S => rfl
            · intro j d s' hj hd
              have hjn : j < n := by rw [← hfl]; exact (List.getElem?_eq_some_iff.1 hj).1
              obtain ⟨_, _, h3, _, _⟩ := hfull j hjn
              rw [hj] at h3
              simp only [Option.some.injEq, Prod.mk.injEq] at h3
              have hjd : dstAt l.toArray j = some t := h3.1.symm.trans hd
              rcases Nat.lt_trichotomy j k with h' | h' | h'
              · obtain ⟨ok, hok, _, hd2, _⟩ := hg k hk
                exact absurd hjd (hd2 t (by simpa [dstAt, hok] using hkd) j h')
              · exact h'
              · obtain ⟨oj, hoj, _, hd2, _⟩ := hg j hjn
                exact absurd hkd (hd2 t (by simpa [dstAt, hoj] using hjd) k h')
          · rw [inv.free t fun k hk _ hd => hex ⟨k, hk, hd⟩, putAll_other]
            intro d s hmem hd
            obtain ⟨j, hj⟩ := List.getElem?_of_mem hmem
            have hjn : j < n := by rw [← hfl]; exact (List.getElem?_eq_some_iff.1 hj).1
            obtain ⟨_, _, h3, _, _⟩ := hfull j hjn
            rw [hj] at h3
            simp only [Option.some.injEq, Prod.mk.injEq] at h3
            exact hex ⟨j, hjn, h3.1.symm.trans hd⟩
        · rw [inv.defers]
          have : ∀ (acc : List (Option Tmp × Sp)) (k : Nat) (b : Act), (putAll vs k acc b).defers = b.defers := by
            intro acc
            induction acc with
            | nil => intro k b; rfl
            | cons x r ih =>
              intro k b
              obtain ⟨d, s⟩ := x
              cases s <;> simp only [putAll] <;> rw [ih, put_defers']
          rw [this]
      rw [← hact] at hlast
      have := wpAny_of_seq (md := .any) (P := P) (Q' := Q) (l.drop n) n listed a w' (fun j => by simp [List.getElem?_drop])
        (by rw [hlisted, List.length_drop]; simpa using hseq) hlast
      rwa [List.length_drop] at this
    | succ f ih =>
      intro listed a w' vs inv hl0 hf
      obtain ⟨i0, hi0, hi1, hi2⟩ := unl_some n (by rw [hf]; omega)
      have hils : ∀ i, i < n → i < listed.size := fun i hi => by rw [inv.lsize]; simp; omega
      have hready : i0 ∈ Region.ready .any l.toArray listed := by
        obtain ⟨o, ho, hedge, _⟩ := hg i0 hi0
        exact mem_ready.2 ⟨getD_in (hils i0 hi0) hi1, o, ho, fun e he hb => hi2 _ (hedge e he hb)⟩
      rw [show f + 1 + (l.length - n) = (f + (l.length - n)) + 1 by omega]
      refine ⟨fun h0 => (by rw [h0] at hready; cases hready), fun i hi => ?_⟩
      have hin : i < n := by
        rcases Nat.lt_or_ge i n with h' | h'
        · exact h'
        · exfalso
          have hisz : i < l.toArray.size := by
            obtain ⟨_, o, ho, _⟩ := mem_ready.1 hi
            exact (Array.getElem?_eq_some_iff.1 ho).1
          simp only [sinkB0, Bool.or_eq_true, decide_eq_true_eq, Bool.and_eq_true] at hS
          rcases hS with hS | ⟨hs, hc⟩
          · omega
          · exact tail_waits0 hs hc (by omega) ⟨inv.lsize, inv.closed, inv.tail⟩ _ i0 rfl hi0 (fun e => by rw [e, hl0] at hi1; cases hi1) (getD_in (hils i0 hi0) hi1) i h' hi
      refine inv.step (full := full) (Q := Q) hG hbd (fun k hk => (by obtain ⟨_, _, h1, _, _⟩ := hfull k hk; exact h1)) hfl (fun k hk => (by obtain ⟨_, _, _, h1, _⟩ := hfull k hk; exact h1))
        (fun o ho => (by
          obtain ⟨o', ho', _, _, h1⟩ := hfull i hin
          have : o = o' := Option.some.inj ((by simpa using ho.symm : some o = l[i]?).trans ho')
          subst this
          exact h1)) hi hin fun v a' w'' inv' => ih _ a' w'' _ inv' (by
          by_cases hi0' : i = 0
          · subst hi0'; have := (mem_ready.1 hi).1; rw [getD_both this] at hl0; cases hl0
          · rw [getD_set_ne false hi0']; exact hl0) ?_
      have hun := getD_both (mem_ready.1 hi).1
      have := unl_set hun (hils i hin) n hin
      omega
  obtain ⟨o0, hl0, h1, _, hlex0⟩ := hfull 0 hn0
  have hi0 : l.toArray[0]? = some o0 := by simpa using hl0
  unfold takeB at ht0
  rw [hi0] at ht0
  simp only [Bool.and_eq_true] at ht0
  obtain ⟨⟨⟨hgd, hmv⟩, hfree⟩, hrdy⟩ := ht0
  have hwant : Region.wanted o0 (yielded l.toArray a0.tmps) = true := by
    unfold Region.wanted
    cases hg' : o0.guard with
    | none => rfl
    | some x => rw [hg'] at hgd; cases hgd
  obtain ⟨y, hop⟩ : ∃ y, o0.op = .move (.tmp y) := by
    split at hmv
    · rename_i y hop; exact ⟨y, hop⟩
    · cases hmv
  have hexec : ∀ w', (execOp a0.eval o0).run P w' = .ok (.value (a0.eval (.tmp y))) w' := fun w' => by
    unfold execOp
    simp only [hop, Sem.run_pure]
  have hS0 : ∀ w', Fut w.drew w' → (sp 0).holds (a0.eval (.tmp y)) w' := fun w' hw' => by
    have h2 := hlex0 w' hw'
    simp only [List.take_zero, lexAct, givesG] at h2
    rw [if_pos hwant] at h2
    unfold gives at h2
    rw [hexec w'] at h2
    exact h2.2
  have hsz0 : l.toArray.size = (l.toArray.size - 1) + 1 := by
    have := (Array.getElem?_eq_some_iff.1 hi0).1
    omega
  have hd0 : dstAt l.toArray 0 = o0.dst := by unfold dstAt; rw [hi0]; rfl
  rw [hsz0]
  refine wpAny_take hi0 hsel (by rw [← hsz0]; exact hfree) (by rw [← hsz0]; exact hrdy) (fun c a w => hQ c _ w a o0 hl0) (.inl ⟨hwant, hexec⟩) ?_
  have hLs : 0 < (Array.replicate (l.toArray.size - 1 + 1) false).size := by simp
  have hcl : ∀ j, ((Array.replicate (l.toArray.size - 1 + 1) false).setIfInBounds 0 true).getD j false = true → j = 0 := fun j hj => by
    by_cases hj0 : j = 0
    · exact hj0
    · rw [getD_set_ne false (Ne.symm hj0), getD_replicate_false] at hj; cases hj
  have inv0 : GInv l.toArray n sp a0 w.drew (fun _ => a0.eval (.tmp y)) ((Array.replicate (l.toArray.size - 1 + 1) false).setIfInBounds 0 true) (a0.put o0.dst (a0.eval (.tmp y))) w.drew := by
    refine ⟨by rw [put_size], by rw [put_defers'], Fut.refl _, fun t ht => ?_, fun k hk hl => ?_, fun k d hk hl hd => ?_, by rw [Array.size_setIfInBounds, Array.size_replicate]; exact hsz0.symm, fun j oj hj hl e he hb => ?_, fun t ht ht' => ?_⟩
    · rw [put_other _ _ _ _ (by rw [← hd0]; exact ht 0 hn0 (by simp))]
    · rw [hcl k hl]; exact hS0 _ (Fut.refl _)
    · have hk0 := hcl k hl
      subst hk0
      rw [hd0] at hd
      rw [hd]
      exact put_same _ _ _ (hbd 0 d (hd0.trans hd) hn0)
    · have hj0 := hcl j hl
      subst hj0
      obtain ⟨o', ho', hedge, _⟩ := hg 0 hn0
      have : oj = o' := Option.some.inj (hj.symm.trans ho')
      subst this
      exact absurd (hedge e he hb) (by omega)
    · rw [getD_set_ne true (by omega)]
      exact getD_in (by rw [Array.size_replicate, ← hsz0]; exact ht') (getD_replicate_false _ _)
  have hun : unl ((Array.replicate (l.toArray.size - 1 + 1) false).setIfInBounds 0 true) n + 1 = n := by
    rw [unl_set (getD_replicate_false _ _) (by simp) n hn0, unl_none]
  have := main (n - 1) _ _ _ _ inv0 (by simp) (by omega)
  rwa [show n - 1 + (l.length - n) = l.toArray.size - 1 by simp; omega] at this

theorem wp_graph0 {P : Program} {id : Nat} {Q : Exit → Act → World → Prop} {a0 : Act} {w : World} {l : List Oper} (n : Nat) (shape : List Sh) (hm : P.follows .mixedOrders = true)
    (hB : (graphB l.toArray n && tailB0 l.toArray n) = true) (ht0 : takeB l.toArray = true) (hn0 : 0 < n) (hQ : ∀ c v w, ∀ a : Act, ∀ o, l[0]? = some o → Q (.panic c) (a.put o.dst v) w → Q (.panic c) a w) (hsz : ((List.range n).all fun k => match dstAt l.toArray k with | some d => decide (d < a0.tmps.size) | none => true) = true)
    (h : Exs (fun sps => Run P l.toArray w.drew (wpList P l.toArray Q (l.drop n)) 0 (l.take n) sps a0 []) shape) : (Code.region id l.toArray true).wp P Q a0 w := by
  obtain ⟨sps, hs⟩ := Exs_some shape h
  exact wp_region_graph0 n hm hB ht0 hn0 hQ hsz (Obl_of_run _ sps [] fun _ => hs)
end Go.Proofs.YtijdichfaofjaaaGreatDoor
/- A row laid into a slice or a struct that is just built. No program. -/
namespace Go.Proofs.YtijdichfaofjaaaGreatDoor
open Go.RowKit Go.WideMaps
set_option linter.unusedSimpArgs false
set_option linter.unusedVariables false

theorem fold_put (o : Nat) : ∀ (l : List Value) (k : Nat) (arr : Array Value), ∃ arr' : Array Value, (l.zipIdx k).foldl (fun cs p => cs.setIfInBounds (o + p.2) p.1) arr = arr' ∧ arr'.size = arr.size ∧
    ∀ j, arr'[j]? = if o + k ≤ j ∧ j < o + k + l.length ∧ j < arr.size then l[j - (o + k)]? else arr[j]?
  | [], k, arr => ⟨arr, rfl, rfl, fun j => by rw [if_neg (by simp; omega)]⟩
  | v :: l, k, arr => by
    obtain ⟨arr', h1, h2, h3⟩ := fold_put o l (k + 1) (arr.setIfInBounds (o + k) v)
    refine ⟨arr', by rw [List.zipIdx_cons, List.foldl_cons]; exact h1, by rw [h2]; simp, fun j => ?_⟩
    rw [h3]
    simp only [Array.size_setIfInBounds, List.length_cons]
    by_cases h4 : j = o + k
    · subst h4
      rw [if_neg (by omega)]
      by_cases h5 : o + k < arr.size
      · rw [if_pos (by omega)]; simp [h5]
      · rw [if_neg (by omega)]; simp [h5]
    · rw [Array.getElem?_setIfInBounds_ne (Ne.symm h4)]
      by_cases h5 : o + (k + 1) ≤ j ∧ j < o + (k + 1) + l.length ∧ j < arr.size
      · rw [if_pos h5, if_pos (by omega), show j - (o + k) = (j - (o + (k + 1))) + 1 by omega, List.getElem?_cons_succ]
      · rw [if_neg h5, if_neg (by omega)]
/-- One part, at offset off, of size sz. -/
theorem fill_one {place : Nat → Option (Nat × Nat)} {i off sz : Nat} {v : Value} {zero : Array Value} (hp : place i = some (off, sz)) (hs : v.cells.size = sz) (hz : off + sz ≤ zero.size) (rest : List (Nat × Value)) :
    ∃ arr' : Array Value, Instr.fill place zero ((i, v) :: rest) = Instr.fill place arr' rest ∧ arr'.size = zero.size ∧ ∀ j, arr'[j]? = if off ≤ j ∧ j < off + sz then v.cells[j - off]? else zero[j]? := by
  obtain ⟨arr', h1, h2, h3⟩ := fold_put off v.cells.toList 0 zero
  refine ⟨arr', ?_, h2, fun j => ?_⟩
  · have h4 : v.cells.zipIdx.foldl (fun cs (c, j) => cs.setIfInBounds (off + j) c) zero = arr' := by
      rw [← h1, ← Array.foldl_toList, Array.toList_zipIdx]
    conv => lhs; unfold Instr.fill
    simp only [hp]
    rw [if_neg (by simp [hs]; omega), h4]
  · rw [h3]
    simp only [Nat.add_zero, Array.length_toList, hs, Array.getElem?_toList]
    by_cases h5 : off ≤ j ∧ j < off + sz
    · rw [if_pos h5, if_pos (by omega)]
    · rw [if_neg h5, if_neg (by omega)]
section
variable {P : Program} {t k e : TypeId} {w : World} {o : Oper} {a : Act} {x : Rw}
/-- A list of one row. -/
theorem exec_one_R (T : RowTy P k e) (hz : ∃ z, (P.info? k).bind (·.zero) = some z ∧ z.cells.size = 24) (ht : P.underlying t = some (.slice k)) (y : Operand) (ho : o.op = .buildSlice t 1 #[(0, y)]) (hy : a.eval y = Rw.val x) (hx : Rw.ok x) :
    (execOp a.eval o).run P w = .ok (.value (.slice (some ⟨w.heap.size, 0, none⟩) 1 1)) (w.alloc (.cells (Rw.cells x).toArray k)) := by
  have hi := T.hi
  cases hq : P.info? k with
  | none => simp [hq] at hi
  | some ie =>
    have hs : ie.size = 24 := by simpa [hq] using hi
    obtain ⟨z, hz1, hz2⟩ := hz
    rw [hq] at hz1
    obtain ⟨arr', h1, h2, h3⟩ := fill_one (place := fun i => some (i * 24, 24)) (i := 0) (off := 0) (sz := 24) (v := Rw.val x) (zero := ((Array.range (1 * 24)).map (z.cells[· % z.cells.size]!))) rfl (by simp [Rw.val_cells, Rw.cells_len hx]) (by simp) []
    have e1 : arr' = (Rw.cells x).toArray := by
      refine Array.ext_getElem? fun j => ?_
      rw [h3]
      by_cases hj : j < 24
      · rw [if_pos (by omega)]; simp [Rw.val_cells]
      · rw [if_neg (by omega)]
        have := Rw.cells_len hx
        rw [Array.getElem?_eq_none (by simp; omega), Array.getElem?_eq_none (by simp; omega)]
    have hf : Instr.fill (fun i => some (i * 24, 24)) ((Array.range (1 * 24)).map (z.cells[· % z.cells.size]!)) [(0, Rw.val x)] = some (Rw.cells x).toArray := by rw [h1, e1]; rfl
    have hrun := run_buildSlice (P := P) w t k 1 #[(0, Rw.val x)] (Rw.cells x).toArray ie z ht hq (by simpa using hz1) (by rw [hs]; omega) (by rw [hs]; omega) (by rw [hs]; exact hf)
    unfold execOp
    simp only [ho, List.map_toArray, List.map_cons, List.map_nil, hy, hrun, Sem.run_bind, Sem.run_pure, Result.andThen_ok]
end
end Go.Proofs.YtijdichfaofjaaaGreatDoor
