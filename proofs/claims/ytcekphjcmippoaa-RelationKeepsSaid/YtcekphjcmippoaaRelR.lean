/- slices.Min; is it a row of the arity? -/
import Derived.Test.YtcekphjcmippoaaRelN
namespace Go.Proofs.Ytcekphjcmippoaa
open Go.RowKit Go.WideMaps
set_option linter.unusedSimpArgs false
set_option linter.unusedVariables false

/-- Which rows may be, at an arity. -/
def rightP (ar : Nat) (x : Rw) : Bool := (x.all fun a => decide (0 ≤ a)) && (x.drop ar).all fun a => decide (a = 0)
def minI (a b : Int) : Int := if b < a then b else a
theorem wf_i32 {a : Int} (h : (Lit.int .i32 a).wf = true) : -2147483648 ≤ a ∧ a ≤ 2147483647 := by simpa [Lit.wf, IntKind.min, IntKind.max, IntKind.signed, IntKind.bits] using h

set_option maxHeartbeats 800000 in
set_option maxRecDepth 100000 in
theorem min_any (xs : List Int) (h0 : xs ≠ []) (b off cap : Nat) (hl : xs.length ≤ 100) (hc : xs.length ≤ cap) (hwf : ∀ a ∈ xs, (Lit.int .i32 a).wf = true) (w : World) (hx : ∀ k (h : k < xs.length), w.cell? ⟨b, off + k, none⟩ = some (.int .i32 xs[k])) :
    Calls Try.prog 57 #[.slice (some ⟨b, off, none⟩) xs.length cap] w fun e w' => (∃ m, e = .returned (.int .i32 m) ∧ (m < 0 ↔ ∃ a ∈ xs, a < 0)) ∧ w' = w := by
  have hn : 0 < xs.length := List.length_pos_iff.2 h0
  have x0 := hx 0 hn
  rw [Nat.add_zero] at x0
  have hx' := Lib.hid hx
  have hwf' := Lib.hid hwf
  have h0' := Lib.hid h0
  clear hx hwf h0
  have hlt : ¬ (xs.length : Int) < 1 := by omega
  have hb : (0 : Int) ≤ 0 ∧ (0 : Int) < xs.length := by omega
  go_enter Try.func57, Try.ntmps57
  go_wp2
  go_loopw [3, 4] (fun m i wr => ∃ (k : Nat) (mv : Int), 1 ≤ k ∧ k ≤ xs.length ∧ i = .int .i64 k ∧ m = .int .i32 mv ∧ Hid (mv < 0 ↔ ∃ a ∈ xs.take k, a < 0) ∧ wr = w) (fun _ i _ => xs.length - (intOf i).toNat)
  case atStart => exact ⟨1, xs[0], Nat.le_refl _, hn, rfl, rfl, Lib.hid (by cases xs with | nil => simp at hn | cons a r => simp), by trivial⟩
  case round =>
    obtain ⟨k, mv, h1, hk, rfl, rfl, hm, rfl⟩ := hrel
    by_cases hlt : k < xs.length
    · have xk := hx'.out k hlt
      have hb1 : (0 : Int) ≤ k ∧ (k : Int) < xs.length := by omega
      go_wp2
      go_roundw
      case rel =>
        refine ⟨k + 1, if xs[k] < mv then xs[k] else mv, by omega, by omega, by go_num, by rfl, Lib.hid ?_, by trivial⟩
        · have hT : xs.take (k + 1) = xs.take k ++ [xs[k]] := by rw [List.take_succ_eq_append_getElem hlt]
          have e1 : (∃ a ∈ xs.take (k + 1), a < 0) ↔ ((∃ a ∈ xs.take k, a < 0) ∨ xs[k] < 0) := by
            rw [hT]
            constructor
            · rintro ⟨a, ha, h⟩
              rcases List.mem_append.1 ha with ha | ha
              · exact .inl ⟨a, ha, h⟩
              · rw [List.mem_singleton] at ha; subst ha; exact .inr h
            · rintro (⟨a, ha, h⟩ | h)
              · exact ⟨a, List.mem_append_left _ ha, h⟩
              · exact ⟨_, List.mem_append_right _ (by simp), h⟩
          rw [e1, ← hm.out]
          split <;> omega
      case measure => simp [intOf] <;> omega
    · obtain rfl : k = xs.length := by omega
      go_wp2
      go_ret
      have := hm.out
      rw [List.take_length] at this
      exact ⟨⟨mv, rfl, this⟩, rfl⟩
def clr (n : Nat) (x : Rw) : Rw := List.replicate n 0 ++ x.drop n
theorem clr_ok {n : Nat} {x : Rw} (hx : Rw.ok x) (hn : n ≤ 24) : Rw.ok (clr n x) := ⟨by simp [clr, hx.1]; omega, fun a ha => by
  rcases List.mem_append.1 ha with ha | ha
  · rw [List.eq_of_mem_replicate ha]; decide
  · exact hx.2 a (List.mem_of_mem_drop ha)⟩
theorem clr_zero {n : Nat} {x : Rw} (hx : Rw.ok x) (hn : n ≤ 24) : clr n x = zeroRow ↔ ((x.drop n).all fun a => decide (a = 0)) = true := by
  have hz : zeroRow = List.replicate n 0 ++ List.replicate (24 - n) (0 : Int) := by
    rw [List.replicate_append_replicate, show n + (24 - n) = 24 by omega]; rfl
  rw [hz]
  unfold clr
  rw [List.append_cancel_left_eq, List.eq_replicate_iff, List.all_eq_true]
  simp [hx.1]
theorem putObj_same {w : World} {g : Nat} {o : Obj} (h : w.heap[g]? = some o) : w.putObj g o = w := by
  unfold World.putObj
  have : w.heap.setIfInBounds g o = w.heap := by
    have hl := (Array.getElem?_eq_some_iff.1 h).1
    refine Array.ext_getElem? fun i => ?_
    by_cases hi : i = g
    · subst hi; rw [h]; simp [hl]
    · rw [Array.getElem?_setIfInBounds_ne (Ne.symm hi)]
  rw [this]
theorem zeroCells_i32 (n : Nat) : (Builtin.zeroCells (#[Value.int .i32 0]) n).toList = List.replicate n (.int .i32 0) := by
  unfold Builtin.zeroCells
  simp only [List.size_toArray, List.length_cons, List.length_nil, Nat.zero_add, Nat.mul_one, Nat.mod_one, Array.toList_map, Array.toList_range]
  rw [List.eq_replicate_iff]
  simp
theorem exec_clear_R {P : Program} {t k e : TypeId} {w : World} {o : Oper} {a : Act} {g n cap : Nat} {x : Rw} (T : RowTy P k e) (ht : P.underlying t = some (.slice e)) (hz : ∀ w, (zeroValue e).run P w = .ok (.int .i32 0) w) (y : Operand)
    (ho : o.op = .call { callee := .builtin .clear, args := #[y], argTypes := #[t] }) (hy : a.eval y = .slice (some ⟨g, 0, none⟩) n cap) (hb : w.heap[g]? = some (.cells (Rw.cells x).toArray k (0, 0))) (hx : Rw.ok x) (hn : n ≤ 24) :
    (execOp a.eval o).run P w = .ok (.value (.tuple #[])) (w.putObj g (.cells (Rw.cells (clr n x)).toArray k (0, 0))) := by
  have hl := Rw.cells_len hx
  have hrun : (Builtin.clear_ #[t] o.type #[.slice (some ⟨g, 0, none⟩) n cap]).run P w = .ok (.tuple #[]) (w.putObj g (.cells (Rw.cells (clr n x)).toArray k (0, 0))) := by
    cases n with
    | zero =>
      have e1 : clr 0 x = x := by simp [clr]
      rw [e1, putObj_same hb]
      simp [Builtin.clear_, run_underlying ht]
    | succ n =>
      have h1 := run_storeCells_cells (P := P) g 0 (List.replicate (n + 1) (.int .i32 0)) 0 w (fun j hj => by
        rw [List.length_replicate] at hj
        simp [World.cell?, hb]; omega) (fun j hj => by simp [World.frozen?, hb]) (fun v hv => by rw [List.eq_of_mem_replicate hv]; rfl)
      obtain ⟨arr', h2, h3, h4⟩ := setCells_put (List.replicate (n + 1) (.int .i32 0)) 0 w _ hb
      have e1 : arr' = (Rw.cells (clr (n + 1) x)).toArray := by
        refine Array.ext_getElem? fun j => ?_
        rw [h4]
        simp only [Rw.cells, clr, List.map_append, List.map_replicate, List.getElem?_toArray, List.length_replicate, Nat.zero_add, Nat.sub_zero, List.size_toArray, List.length_map, hx.1]
        by_cases hj : j < n + 1
        · rw [if_pos (by omega), List.getElem?_append_left (by simpa using hj)]
        · rw [if_neg (by omega), List.getElem?_append_right (by simpa using hj)]
          simp only [List.length_replicate, List.map_drop, List.getElem?_drop]
          rw [show n + 1 + (j - (n + 1)) = j by omega]
      simp only [Nat.add_zero] at h1
      rw [h2, e1] at h1
      simp [Builtin.clear_, run_underlying ht, hz, Value.cells, zeroCells_i32, h1]
  unfold execOp
  simp only [ho, resolve, invoke, builtin, Sem.run_bind, Sem.run_pure, Result.andThen_ok, List.map_toArray, List.map_cons, List.map_nil, hy, hrun]
theorem zeroS (w : World) : (zeroValue 30).run Try.prog w = .ok (.int .i32 0) w := by kernel_rfl
theorem right_eq {n : Nat} {x : Rw} {m : Int} (hx : Rw.ok x) (hn : n ≤ 24) (hm : m < 0 ↔ ∃ a ∈ x, a < 0) : rightP n x = (decide (¬ m < 0) && decide (clr n x = zeroRow)) := by
  unfold rightP
  have h1 : (x.all fun a => decide (0 ≤ a)) = decide (¬ m < 0) := by
    rw [Bool.eq_iff_iff, List.all_eq_true, decide_eq_true_eq, hm]
    constructor
    · rintro h ⟨a, ha, h2⟩
      have := of_decide_eq_true (h a ha); omega
    · intro h a ha
      exact decide_eq_true (by
        by_cases h' : a < 0
        · exact absurd ⟨a, ha, h'⟩ h
        · omega)
  have h2 : ((x.drop n).all fun a => decide (a = 0)) = decide (clr n x = zeroRow) := by
    rw [Bool.eq_iff_iff, decide_eq_true_eq]; exact (clr_zero hx hn).symm
  rw [h1, h2]
theorem exec_eql_R {P : Program} {k e : TypeId} {w : World} {o : Oper} {a : Act} {x y : Rw} (T : RowTy P k e) (hg : P.eqGuardType P.depth k = false) (p q : Operand) (kt : TypeId)
    (ho : o.op = .binOp .eql k p q kt) (hp : a.eval p = Rw.val x) (hq : a.eval q = Rw.val y) (hx : Rw.ok x) (hy : Rw.ok y) : (execOp a.eval o).run P w = .ok (.value (.bool (decide (x = y)))) w := by
  have h1 := run_eql_row T.A T.he T.hsz hx hy w
  unfold execOp
  unfold Rw.val at h1 hp hq
  simp only [ho, hp, hq, Sem.run_bind, run_eqGuard_agg w .eql k p q _ _ hg, Result.andThen_ok, h1, Sem.run_pure]
theorem exec_neq_R {P : Program} {k e : TypeId} {w : World} {o : Oper} {a : Act} {x y : Rw} (T : RowTy P k e) (hg : P.eqGuardType P.depth k = false) (p q : Operand) (kt : TypeId)
    (ho : o.op = .binOp .neq k p q kt) (hp : a.eval p = Rw.val x) (hq : a.eval q = Rw.val y) (hx : Rw.ok x) (hy : Rw.ok y) : (execOp a.eval o).run P w = .ok (.value (.bool (!decide (x = y)))) w := by
  have h1 := run_neq_row T.A T.he T.hsz hx hy w
  unfold execOp
  unfold Rw.val at h1 hp hq
  simp only [ho, hp, hq, Sem.run_bind, run_eqGuard_agg w .neq k p q _ _ hg, Result.andThen_ok, h1, Sem.run_pure]
theorem noGuard : Try.prog.eqGuardType Try.prog.depth 32 = false := by kernel_rfl
set_option maxHeartbeats 800000 in
set_option maxRecDepth 100000 in
theorem right_any {w : World} {b n : Nat} {gone : Nat} {p : Value} (hb : w.heap[b]? = some (.cells #[.int .i64 n, .int .i64 gone, p] 73 (0, 0))) (hn : n ≤ 24) (x : Rw) (hx : Rw.ok x) :
    Calls Try.prog 33 #[.pointer (some ⟨b, 0, none⟩), Rw.val x] w fun e w' => e = .returned (.bool (rightP n x)) ∧ Fut w w' := by
  have c0 := cell_at hb 0 _ rfl
  have hlb := (Array.getElem?_eq_some_iff.1 hb).1
  clear hb
  have X := Lib.hid hx
  have hxl := hx.1
  clear hx
  unfold Rw.val
  go_enter Try.func33, Try.ntmps33
  go_wp2_with fail
  have hr := RowAt.new w 32 X.out
  have F1 := Fut.alloc w (.cells (Rw.cells x).toArray 32)
  obtain ⟨W1, hW⟩ : ∃ W1, w.alloc (.cells (Rw.cells x).toArray 32) = W1 := ⟨_, rfl⟩
  rw [hW] at hr F1 ⊢
  clear hW
  have c0a := fun o => (F1.trans (Fut.alloc W1 o)).cell c0
  have hMin := min_any x (fun e => by rw [e] at hxl; simp at hxl) w.heap.size 0 24 (by omega) (by omega) X.out.2 W1 (fun k hk => by
    refine hr.2 k _ ?_
    simp [Rw.cells, hk])
  rw [hxl] at hMin
  refine hMin.mono ?_
  rintro e w1 ⟨⟨m, rfl, hm⟩, hw1⟩
  have hw2 := hw1.symm
  subst hw2
  have hR := Lib.hid (right_eq X.out hn hm)
  clear hm
  by_cases hm0 : m < 0
  · go_wp2
    go_ret
    exact ⟨by rw [hR.out, decide_eq_false (by omega : ¬ (0 ≤ m))]; rfl, F1⟩
  · have hn1 : (0 : Int) ≤ n := by omega
    have hn2 : (n : Int) ≤ 24 := by omega
    have hX := X.out
    have hN := heap_alloc_new W1 (.cells (Rw.cells x).toArray 32)
    have hr2 := RowAt.new W1 32 (clr_ok (n := n) hX hn)
    go_wp2_with (first | (refine wpList_load_R rowTy (wanted_none rfl _) _ rfl rfl hr ?_) | (refine wpList_load_R rowTy (wanted_none rfl _) _ rfl rfl hr2 ?_) | (refine wpList_store_new rowTy (wanted_none rfl _) _ _ rfl rfl rfl rfl hX ?_) | (refine wpList_of_run (wanted_none rfl _) (exec_clear_R rowTy Try.underlying87 zeroS _ rfl rfl hN hX hn) ?_; rw [putObj_alloc]) | (refine wpList_of_run (wanted_none rfl _) (exec_eql_R rowTy noGuard _ _ _ rfl rfl (show _ = Rw.val zeroRow from rfl) (clr_ok hX hn) zeroRow_ok) ?_))
    go_ret
    exact ⟨by rw [hR.out, decide_eq_true (by omega : 0 ≤ m)]; rfl, F1.trans (Fut.alloc _ _)⟩
end Go.Proofs.Ytcekphjcmippoaa
