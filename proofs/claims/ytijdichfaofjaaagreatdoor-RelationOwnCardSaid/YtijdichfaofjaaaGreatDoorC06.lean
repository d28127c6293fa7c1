/- RelO, RelC, RelA -/
import Derived.Lib.AppendZerosOnto
import Derived.Test.YtijdichfaofjaaaGreatDoorC05
/- Select's inner function: a row with the columns that are not asked cleared. -/
namespace Go.Proofs.YtijdichfaofjaaaGreatDoor
open Go.RowKit Go.WideMaps
set_option linter.unusedSimpArgs false
set_option linter.unusedVariables false

theorem results_row1 {P : Program} {k e : TypeId} {fn : Func} {p : Tmp} {tmps : Array Value} {w : World} {g : Nat} {x : Rw} (h : fn.results = #[.cell p k]) (T : RowTy P k e)
    (hp : tmps.getD p undef = .pointer (some ⟨g, 0, none⟩)) (hr : RowAt w g 0 x) : (results fn tmps).run P w = .ok (Rw.val x) w := by
  have hp' : tmps[p]?.getD undef = .pointer (some ⟨g, 0, none⟩) := by simpa using hp
  simp [results, h, hp', asAddr, run_loadVar_R T hr]
set_option maxHeartbeats 1600000 in
set_option maxRecDepth 100000 in
theorem only_any {w : World} {b1 b2 : Nat} {p : Value} {ar m : Nat} (hm : m < 2 ^ 32) (c1 : w.cell? ⟨b1, 0, none⟩ = some p) (c2 : w.cell? ⟨b2, 0, none⟩ = some (.int .u32 m))
    (hA : ∀ W, Fut w W → Calls Tryz.prog 19 #[p] W fun e W' => e = .returned (.int .i64 ar) ∧ W' = W) (x : Rw) (hx : Rw.ok x) :
    Calls Tryz.prog 23 #[Rw.val x, .pointer (some ⟨b1, 0, none⟩), .pointer (some ⟨b2, 0, none⟩)] w fun e w' => e = .returned (Rw.val (cutL ar m x)) ∧ Fut w w' := by
  have X := Lib.hid hx
  have HA := Lib.hid hA
  have hxl := hx.1
  clear hx hA
  unfold Rw.val
  go_enter Tryz.func23, Tryz.ntmps23
  go_wp2
  rw [zeros_eq]
  have hb1 := heap_alloc_new w (.cells (Rw.cells x).toArray 27)
  have f1 := Fut.alloc w (.cells (Rw.cells x).toArray 27)
  have hs1 : (w.alloc (.cells (Rw.cells x).toArray 27)).heap.size = w.heap.size + 1 := by simp
  obtain ⟨W1, hW⟩ : ∃ W1, w.alloc (.cells (Rw.cells x).toArray 27) = W1 := ⟨_, rfl⟩
  rw [hW] at hb1 f1 hs1 ⊢
  clear hW
  have hb2 := heap_alloc_new W1 (.cells (Rw.cells zeroRow).toArray 27)
  have f2 := Fut.alloc W1 (.cells (Rw.cells zeroRow).toArray 27)
  rw [hs1] at hb2
  obtain ⟨W2, hW⟩ : ∃ W2, W1.alloc (.cells (Rw.cells zeroRow).toArray 27) = W2 := ⟨_, rfl⟩
  rw [hW] at hb2 f2 ⊢
  clear hW
  have hb1' := f2.block hb1
  have F2 := f1.trans f2
  go_loopw [6] (fun i wr => ∃ k : Nat, k ≤ 24 ∧ i = .int .i64 k ∧ Hid (wr.heap[w.heap.size]? = some (.cells (Rw.cells (cutK ar m k x)).toArray 27 (0, 0))) ∧ Hid (wr.heap[w.heap.size + 1]? = some (.cells (Rw.cells zeroRow).toArray 27 (0, 0))) ∧ Hid (Fut w wr)) (fun i _ => 24 - (intOf i).toNat)
  case atStart => exact ⟨0, Nat.zero_le _, rfl, Lib.hid (by rw [cutK_zero]; exact hb1'), Lib.hid hb2, Lib.hid F2⟩
  case round =>
    obtain ⟨k, hk, rfl, hB, hC, hF⟩ := hrel
    by_cases hlt : k < 24
    · have hlt' : (k : Int) < 24 := by omega
      have e1 : (0 : Int) ≤ k ∧ (k : Int) < 24 := by omega
      have q1 := hF.out.cell c1
      have q2 := hF.out.cell c2
      have HAr := Lib.hid (fun W (hW : Fut wr W) => HA.out W (hF.out.trans hW))
      by_cases h1 : ar ≤ k
      · have h1' : (ar : Int) ≤ k := by omega
        have ho : offB ar m k = true := by simp [offB, h1]
        go_wp2_with fail
        refine wp_graph 11 [.d, .d, .d, .d, .d, .d, .d, .d, .d, .d, .d] (by kernel_rfl) (by kernel_rfl) (by kernel_rfl) ?_
        simp only [List.take_succ_cons, List.take_zero, List.drop_succ_cons, List.drop_zero, Exs]
        iterate 11 apply Exists.intro
        apply Run.valG (wanted_none rfl _)
        · intro w1 h1 hk
          have r1 := h1.cell q1; have r2 := h1.cell q2; have hg := (Fut.drew _).trans h1
          have hcw := fun b o => Below.cell (p := ⟨b, o, none⟩) h1
          go_simp; rfl
        simp only [Act.put, List.setIfInBounds_toArray, List.set_cons_succ, List.set_cons_zero, List.nil_append, List.cons_append]
        apply Run.valG (wanted_none rfl _)
        · intro w1 h1 hk
          have r1 := h1.cell q1; have r2 := h1.cell q2; have hg := (Fut.drew _).trans h1
          have hcw := fun b o => Below.cell (p := ⟨b, o, none⟩) h1
          go_simp; rfl
        simp only [Act.put, List.setIfInBounds_toArray, List.set_cons_succ, List.set_cons_zero, List.nil_append, List.cons_append]
        apply Run.call (wanted_none rfl _) (fun _ _ => by go_simp; exact ⟨rfl, rfl⟩)
        · intro w1 h1 hk
          have r1 := h1.cell q1; have r2 := h1.cell q2; have hg := (Fut.drew _).trans h1
          refine (HAr.out _ hg).mono ?_; rintro e w' ⟨rfl, rfl⟩; exact ⟨rfl, Fut.refl _⟩
        simp only [Act.put, List.setIfInBounds_toArray, List.set_cons_succ, List.set_cons_zero, List.nil_append, List.cons_append]
        apply Run.valG (wanted_none rfl _)
        · intro w1 h1 hk
          have r1 := h1.cell q1; have r2 := h1.cell q2; have hg := (Fut.drew _).trans h1
          have hcw := fun b o => Below.cell (p := ⟨b, o, none⟩) h1
          go_simp; rfl
        simp only [Act.put, List.setIfInBounds_toArray, List.set_cons_succ, List.set_cons_zero, List.nil_append, List.cons_append]
        apply Run.valG (wanted_none rfl _)
        · intro w1 h1 hk
          have r1 := h1.cell q1; have r2 := h1.cell q2; have hg := (Fut.drew _).trans h1
          have hcw := fun b o => Below.cell (p := ⟨b, o, none⟩) h1
          go_simp; rfl
        simp only [Act.put, List.setIfInBounds_toArray, List.set_cons_succ, List.set_cons_zero, List.nil_append, List.cons_append]
        apply Run.skip (by go_simp)
        simp only [Act.put, List.setIfInBounds_toArray, List.set_cons_succ, List.set_cons_zero, List.nil_append, List.cons_append]
        apply Run.skip (by go_simp)
        simp only [Act.put, List.setIfInBounds_toArray, List.set_cons_succ, List.set_cons_zero, List.nil_append, List.cons_append]
        apply Run.skip (by go_simp)
        simp only [Act.put, List.setIfInBounds_toArray, List.set_cons_succ, List.set_cons_zero, List.nil_append, List.cons_append]
        apply Run.skip (by go_simp)
        simp only [Act.put, List.setIfInBounds_toArray, List.set_cons_succ, List.set_cons_zero, List.nil_append, List.cons_append]
        apply Run.skip (by go_simp)
        simp only [Act.put, List.setIfInBounds_toArray, List.set_cons_succ, List.set_cons_zero, List.nil_append, List.cons_append]
        apply Run.valG (wanted_none rfl _)
        · intro w1 h1 hk
          have r1 := h1.cell q1; have r2 := h1.cell q2; have hg := (Fut.drew _).trans h1
          have hcw := fun b o => Below.cell (p := ⟨b, o, none⟩) h1
          go_simp; rfl
        simp only [Act.put, List.setIfInBounds_toArray, List.set_cons_succ, List.set_cons_zero, List.nil_append, List.cons_append]
        apply Run.done
        intro w2 h2 hk
        clear hk
        have F3 := (Fut.drew _).trans h2
        have hB3 := F3.block hB.out
        have hC3 := F3.block hC.out
        have hlen : (cutK ar m k x).length = 24 := by rw [cutK_len]; exact hxl
        have ck := cell_at hB3 k _ (show _ = some (.int .i32 ((cutK ar m k x)[k]'(by omega))) by simp [Rw.cells, hlen, hlt])
        have fk := free_at hB3 k
        go_wp2
        go_roundw
        case rel =>
          refine ⟨k + 1, by omega, by go_num, Lib.hid ?_, Lib.hid ?_, Lib.hid ?_⟩
          · rw [cutK_set ho]; exact set_row hB3 0
          · rw [Below.heap_setCell _ _ _ _ (by simp)]; exact hC3
          · exact (hF.out.trans F3).set (by simp) _
        case measure => simp [intOf] <;> omega
      · have h1' : ¬ (ar : Int) ≤ k := by omega
        have s1 : IntKind.u32.wrap (2 ^ k) = ((2 ^ k : Nat) : Int) := shl_u32 hlt
        go_wp2_with fail
        refine wp_graph 11 [.d, .d, .d, .d, .d, .d, .d, .d, .d, .d, .d] (by kernel_rfl) (by kernel_rfl) (by kernel_rfl) ?_
        simp only [List.take_succ_cons, List.take_zero, List.drop_succ_cons, List.drop_zero, Exs]
        iterate 11 apply Exists.intro
        apply Run.valG (wanted_none rfl _)
        · intro w1 h1 hk
          have r1 := h1.cell q1; have r2 := h1.cell q2; have hg := (Fut.drew _).trans h1
          have hcw := fun b o => Below.cell (p := ⟨b, o, none⟩) h1
          go_simp; rfl
        simp only [Act.put, List.setIfInBounds_toArray, List.set_cons_succ, List.set_cons_zero, List.nil_append, List.cons_append]
        apply Run.valG (wanted_none rfl _)
        · intro w1 h1 hk
          have r1 := h1.cell q1; have r2 := h1.cell q2; have hg := (Fut.drew _).trans h1
          have hcw := fun b o => Below.cell (p := ⟨b, o, none⟩) h1
          go_simp; rfl
        simp only [Act.put, List.setIfInBounds_toArray, List.set_cons_succ, List.set_cons_zero, List.nil_append, List.cons_append]
        apply Run.call (wanted_none rfl _) (fun _ _ => by go_simp; exact ⟨rfl, rfl⟩)
        · intro w1 h1 hk
          have r1 := h1.cell q1; have r2 := h1.cell q2; have hg := (Fut.drew _).trans h1
          refine (HAr.out _ hg).mono ?_; rintro e w' ⟨rfl, rfl⟩; exact ⟨rfl, Fut.refl _⟩
        simp only [Act.put, List.setIfInBounds_toArray, List.set_cons_succ, List.set_cons_zero, List.nil_append, List.cons_append]
        apply Run.valG (wanted_none rfl _)
        · intro w1 h1 hk
          have r1 := h1.cell q1; have r2 := h1.cell q2; have hg := (Fut.drew _).trans h1
          have hcw := fun b o => Below.cell (p := ⟨b, o, none⟩) h1
          go_simp; rfl
        simp only [Act.put, List.setIfInBounds_toArray, List.set_cons_succ, List.set_cons_zero, List.nil_append, List.cons_append]
        apply Run.valG (wanted_none rfl _)
        · intro w1 h1 hk
          have r1 := h1.cell q1; have r2 := h1.cell q2; have hg := (Fut.drew _).trans h1
          have hcw := fun b o => Below.cell (p := ⟨b, o, none⟩) h1
          go_simp; rfl
        simp only [Act.put, List.setIfInBounds_toArray, List.set_cons_succ, List.set_cons_zero, List.nil_append, List.cons_append]
        apply Run.valG (by go_simp)
        · intro w1 h1 hk
          have r1 := h1.cell q1; have r2 := h1.cell q2; have hg := (Fut.drew _).trans h1
          have hcw := fun b o => Below.cell (p := ⟨b, o, none⟩) h1
          go_simp; rfl
        simp only [Act.put, List.setIfInBounds_toArray, List.set_cons_succ, List.set_cons_zero, List.nil_append, List.cons_append]
        apply Run.valG (by go_simp)
        · intro w1 h1 hk
          have r1 := h1.cell q1; have r2 := h1.cell q2; have hg := (Fut.drew _).trans h1
          have hcw := fun b o => Below.cell (p := ⟨b, o, none⟩) h1
          go_simp; rfl
        simp only [Act.put, List.setIfInBounds_toArray, List.set_cons_succ, List.set_cons_zero, List.nil_append, List.cons_append]
        apply Run.valG (by go_simp)
        · intro w1 h1 hk
          have r1 := h1.cell q1; have r2 := h1.cell q2; have hg := (Fut.drew _).trans h1
          have hcw := fun b o => Below.cell (p := ⟨b, o, none⟩) h1
          go_simp; rfl
        simp only [Act.put, List.setIfInBounds_toArray, List.set_cons_succ, List.set_cons_zero, List.nil_append, List.cons_append]
        apply Run.valG (by go_simp)
        · intro w1 h1 hk
          have r1 := h1.cell q1; have r2 := h1.cell q2; have hg := (Fut.drew _).trans h1
          have hcw := fun b o => Below.cell (p := ⟨b, o, none⟩) h1
          go_simp; rfl
        simp only [Act.put, List.setIfInBounds_toArray, List.set_cons_succ, List.set_cons_zero, List.nil_append, List.cons_append]
        apply Run.valG (by go_simp)
        · intro w1 h1 hk
          have r1 := h1.cell q1; have r2 := h1.cell q2; have hg := (Fut.drew _).trans h1
          have hcw := fun b o => Below.cell (p := ⟨b, o, none⟩) h1
          go_simp; rfl
        simp only [Act.put, List.setIfInBounds_toArray, List.set_cons_succ, List.set_cons_zero, List.nil_append, List.cons_append]
        apply Run.valG (wanted_none rfl _)
        · intro w1 h1 hk
          have r1 := h1.cell q1; have r2 := h1.cell q2; have hg := (Fut.drew _).trans h1
          have hcw := fun b o => Below.cell (p := ⟨b, o, none⟩) h1
          go_simp; rfl
        simp only [Act.put, List.setIfInBounds_toArray, List.set_cons_succ, List.set_cons_zero, List.nil_append, List.cons_append]
        apply Run.done
        intro w2 h2 hk
        clear hk
        have F3 := (Fut.drew _).trans h2
        have hB3 := F3.block hB.out
        have hC3 := F3.block hC.out
        have hlen : (cutK ar m k x).length = 24 := by rw [cutK_len]; exact hxl
        have ck := cell_at hB3 k _ (show _ = some (.int .i32 ((cutK ar m k x)[k]'(by omega))) by simp [Rw.cells, hlen, hlt])
        have fk := free_at hB3 k
        have hz : (bits .and .u32 (m : Int) (2 ^ k) == 0) = !m.testBit k := by
          have := and_bit hm hlt
          rw [show ((2 ^ k : Nat) : Int) = 2 ^ k by simp] at this
          rw [Bool.eq_iff_iff, beq_iff_eq, this]
          cases m.testBit k <;> simp
        rw [hz]
        obtain ⟨tb, htb⟩ : ∃ t, m.testBit k = t := ⟨_, rfl⟩
        rw [htb]
        cases tb with
        | true =>
          have ho : offB ar m k = false := by simp [offB, h1, htb]
          go_wp2
          go_roundw
          case rel => exact ⟨k + 1, by omega, by go_num, Lib.hid (by rw [cutK_keep ho]; exact hB3), Lib.hid hC3, Lib.hid (hF.out.trans F3)⟩
          case measure => simp [intOf] <;> omega
        | false =>
          have ho : offB ar m k = true := by simp [offB, htb]
          go_wp2
          go_roundw
          case rel =>
            refine ⟨k + 1, by omega, by go_num, Lib.hid ?_, Lib.hid ?_, Lib.hid ?_⟩
            · rw [cutK_set ho]; exact set_row hB3 0
            · rw [Below.heap_setCell _ _ _ _ (by simp)]; exact hC3
            · exact (hF.out.trans F3).set (by simp) _
          case measure => simp [intOf] <;> omega
    · obtain rfl : k = 24 := by omega
      have hB3 := hB.out
      have hC3 := hC.out
      have hrB := RowAt.of_block (cutK_ok X.out) hB3
      go_wp2_with (first | (refine wpList_load_R rowTy (wanted_none rfl _) _ rfl rfl hrB ?_) | (refine wpList_store_R rowTy (wanted_none rfl _) _ _ rfl rfl rfl hC3 rfl hrB.1 ?_))
      refine bodyPost_ret (results_row1 rfl rowTy rfl (RowAt.of_block hrB.1 (World.putObj_heap_same (by have := (Array.getElem?_eq_some_iff.1 hC3).1; exact this)))) rfl ?_
      exact ⟨rfl, ((Only.fut hF.out).trans (Only.put (S := fun k => k = w.heap.size + 1) _ _ rfl)).toFut (fun k hk => by omega)⟩
end Go.Proofs.YtijdichfaofjaaaGreatDoor
/- slices.Grow of nothing, slices.Concat, of rows. -/
namespace Go.Proofs.YtijdichfaofjaaaGreatDoor
open Go.RowKit Go.WideMaps
set_option linter.unusedSimpArgs false
set_option linter.unusedVariables false

theorem wpList_growz {P : Program} {ops : Array Oper} {rest : List Oper} {o : Oper} {a : Act} {Q : Exit → Act → World → Prop} {t tn e : TypeId} {w : World} {k : Nat} {z : Value} {kn : IntKind} (hgd : Region.wanted o (yielded ops a.tmps) = true) (s y : Operand)
    (ho : o.op = .call { callee := .builtin .append, args := #[s, y], argTypes := #[t, tn] }) (ht : P.underlying t = some (.slice e)) (htn : P.underlying tn = some (.int kn))
    (hinfo : (P.info? e).map (fun i => (i.zero, i.size, i.bytes)) = some (some z, 24, 96)) (hz : z.cells.size = 24)
    (hs : a.eval s = .slice none 0 0) (hy : a.eval y = .int .i64 k) (h0 : 0 < k) (hk : k ≤ 1407374883512)
    (h : ∀ cap cur, k ≤ cap → cap ≤ maxLen → cur.size = cap * 24 → wpList P ops Q rest (a.put o.dst (.slice (some ⟨w.heap.size, 0, none⟩) k cap)) (w.drew.alloc (.cells cur e))) : wpList P ops Q (o :: rest) a w := by
  obtain ⟨i, hi, hz', hs', hb⟩ := info_parts hinfo
  have hnext : Builtin.nextslicecap (0 + k) 0 = k := by
    unfold Builtin.nextslicecap
    rw [if_pos (by omega)]; omega
  have hr := Lib.run_append_grow_zeros (P := P) w t tn o.type e i z .i64 kn ht htn hi hz' none 0 0 [] (by simp [run_firstCells_none]) k h0 (by omega) (by omega) (by omega) (by rw [hb]; omega) (by rw [hnext, hb]; omega)
  rw [Nat.zero_add] at hr
  have hg1 := grownCap_ge w k 0 e
  have hg2 := grownCap_le_maxLen w k 0 e (by unfold maxLen; omega)
  have hsz : (([] : List Value).toArray ++ Builtin.zeroCells z.cells k ++ Builtin.zeroCells z.cells (grownCap w k 0 e - k)).size = grownCap w k 0 e * 24 := by
    simp [Builtin.zeroCells, hz]
    rw [← Nat.add_mul]
    congr 1
    omega
  obtain ⟨cur, hcur⟩ : ∃ cur, ([] : List Value).toArray ++ Builtin.zeroCells z.cells k ++ Builtin.zeroCells z.cells (grownCap w k 0 e - k) = cur := ⟨_, rfl⟩
  rw [hcur] at hr hsz
  refine wpList_of_run hgd ?_ (h _ cur hg1 hg2 hsz)
  unfold execOp
  simp only [ho, resolve, invoke, builtin, Sem.run_bind, Sem.run_pure, Result.andThen_ok, List.map_toArray, List.map_cons, List.map_nil, hs, hy, hr]
set_option maxHeartbeats 800000 in
set_option maxRecDepth 100000 in
theorem grow_any (n : Nat) (hn : n ≤ 1407374883512) (B : Nat) (w : World) (hB : B ≤ w.heap.size) :
    Calls Tryz.prog 206 #[.slice none 0 0, .int .i64 n] w fun e w' => ∃ v, e = .returned v ∧ OwnL 24 B 27 RR w' v [] ∧ Fut w w' := by
  have h1 : ¬ (n : Int) < 0 := by omega
  have h2 : IntKind.i64.wrap (n : Int) = n := by rw [IntKind.wrap_i64]; omega
  by_cases h0 : n = 0
  · subst h0
    go_enter Tryz.func206, Tryz.ntmps206
    go_wp2
    go_ret
    exact ⟨_, rfl, OwnL.nil, Fut.refl _⟩
  · have h3 : (0 : Int) < n := by omega
    have h3' : 0 < n := by omega
    go_enter Tryz.func206, Tryz.ntmps206
    go_wp2_with (first | (refine wpList_growz (wanted_none rfl _) _ _ rfl Tryz.underlying30 Tryz.underlying3 infoR rfl rfl rfl h3' hn ?_; intro cap cur hc1 hc2 hc3))
    go_ret
    have hc4 := hc2
    unfold maxLen at hc4
    refine ⟨_, rfl, ⟨[], rfl, fun i cs x hi => by simp at hi, rfl, .inr ⟨w.heap.size, cap, cur, rfl, hB, heap_alloc_new w.drew _, Nat.zero_le _, hc2, hc3, by simp⟩⟩, (Fut.drew w).trans (Fut.alloc _ _)⟩
/-- Rows of any make. -/
abbrev Rws : World → Value → List Rw → Prop := SlRep 24 9223372036854775807 RR
def RRs (w : World) (cs : List Value) (xs : List Rw) : Prop := ∃ u, cs = [u] ∧ Rws w u xs
theorem RRs.stays : Stays RRs := fun _ _ _ _ hf ⟨v, h1, h2⟩ => ⟨v, h1, h2.fut RR.stays hf⟩
theorem rws_at {w : World} {A : Option Addr} {n cap M : Nat} {ss : List (List Rw)} (h : SlRep 1 M RRs w (.slice A n cap) ss) {k : Nat} (hk : k < ss.length) :
    ∃ b off A' cap', A = some ⟨b, off, none⟩ ∧ w.cell? ⟨b, off + k, none⟩ = some (.slice A' (ss[k]).length cap') ∧ (ss[k]).length ≤ cap' ∧ cap' ≤ 9223372036854775807 ∧ Rws w (.slice A' (ss[k]).length cap') ss[k] := by
  obtain ⟨A1, cap1, hv, _, _, h3⟩ := h
  obtain ⟨b, off, cs, hA, hl, hc, u, hr, hu⟩ := h3 k _ (List.getElem?_eq_getElem hk)
  injection hv with hv _ _
  subst hr
  obtain ⟨A', cap', rfl, h4, h5⟩ := SlRep.form hu
  exact ⟨b, off, A', cap', hv.trans hA, by have := hc 0 _ rfl; simpa using this, h4, h5, hu⟩
def sumL (ss : List (List Rw)) : Nat := ss.flatten.length
theorem sumL_take (ss : List (List Rw)) (k : Nat) (hk : k < ss.length) : sumL (ss.take (k + 1)) = sumL (ss.take k) + (ss[k]).length := by
  unfold sumL
  rw [List.take_succ_eq_append_getElem hk, List.flatten_append, List.length_append]; simp
theorem sumL_le (ss : List (List Rw)) (k : Nat) : sumL (ss.take k) ≤ sumL ss := by
  conv => rhs; rw [← List.take_append_drop k ss]
  unfold sumL
  rw [List.flatten_append, List.length_append]; omega
set_option maxHeartbeats 1600000 in
set_option maxRecDepth 100000 in
theorem concat_any (v : Value) (ss : List (List Rw)) (w : World) (h : SlRep 1 1000 RRs w v ss) (hl : sumL ss ≤ 1407374883512) (B : Nat) (hB : B ≤ w.heap.size) :
    Calls Tryz.prog 170 #[v] w fun e w' => ∃ u, e = .returned u ∧ OwnL 24 B 27 RR w' u ss.flatten ∧ Fut w w' := by
  have H := Lib.hid h
  obtain ⟨A, cap, rfl, hc1, hc2⟩ := h.form
  clear h
  go_enter Tryz.func170, Tryz.ntmps170
  go_wp2
  go_loopw [3, 11] (fun sz i wr => ∃ k : Nat, k ≤ ss.length ∧ i = .int .i64 k ∧ sz = .int .i64 (sumL (ss.take k)) ∧ wr = w) (fun _ i _ => ss.length - (intOf i).toNat)
  case atStart => exact ⟨0, Nat.zero_le _, rfl, by simp [sumL], by trivial⟩
  case round =>
    obtain ⟨k, hk, rfl, rfl, hwr⟩ := hrel
    have hwr' := hwr.symm
    subst hwr'
    by_cases hlt : k < ss.length
    · obtain ⟨b, off, A', cp, rfl, x0, _, _, _⟩ := rws_at H.out hlt
      have hle := sumL_le ss (k + 1)
      have hs := sumL_take ss k hlt
      have e1 : (0 : Int) ≤ k ∧ (k : Int) < ss.length := by omega
      have e2 : IntKind.i64.wrap ((sumL (ss.take k) : Int) + (ss[k]).length) = (sumL (ss.take (k + 1)) : Nat) := by rw [IntKind.wrap_i64]; omega
      have e3 : ¬ ((sumL (ss.take (k + 1)) : Nat) : Int) < 0 := by omega
      go_wp2
      go_roundw
      case rel => exact ⟨k + 1, by omega, by go_num, by rw [hs, Int.natCast_add], by trivial⟩
      case measure => simp [intOf] <;> omega
    · obtain rfl : k = ss.length := by omega
      rw [List.take_length]
      go_wp2_with fail
      refine (grow_any _ hl w.heap.size _ (Nat.le_refl _)).mono ?_
      rintro e w1 ⟨v1, rfl, hO1, f1⟩
      have HO1 := Lib.hid hO1
      have F1 := Lib.hid f1
      clear hO1 f1
      go_wp2
      go_loopw [6, 27] (fun s i wr => ∃ k : Nat, k ≤ ss.length ∧ i = .int .i64 k ∧ Hid (OwnL 24 w.heap.size 27 RR wr s (ss.take k).flatten) ∧ Hid (Fut w wr)) (fun _ i _ => ss.length - (intOf i).toNat)
      case atStart => exact ⟨0, Nat.zero_le _, rfl, Lib.hid (by simpa using HO1.out), F1⟩
      case round =>
        obtain ⟨k, hk, rfl, hO, hF⟩ := hrel
        by_cases hlt : k < ss.length
        · obtain ⟨b, off, A', cp, rfl, x0, _, _, hu⟩ := rws_at (H.out.fut RRs.stays hF.out) hlt
          have hle := sumL_le ss (k + 1)
          have hs := sumL_take ss k hlt
          have e1 : (0 : Int) ≤ k ∧ (k : Int) < ss.length := by omega
          have hOk := hO.out
          have hBq : w.heap.size ≤ wr.heap.size := hF.out.size
          have hlen : (ss.take k).flatten.length + (ss[k]).length ≤ 1407374883512 := by unfold sumL at hs hle hl; omega
          go_wp2_with (first | (refine wpList_append_R (wanted_none rfl _) _ _ rfl Tryz.underlying30 infoR rfl rfl hOk hu hlen hBq ?_; intro v7 w7 hO7 hG7 hB7))
          go_roundw
          case rel =>
            refine ⟨k + 1, by omega, by go_num, Lib.hid ?_, Lib.hid (hF.out.grown hG7 fun j hj => ?_)⟩
            · rw [List.take_succ_eq_append_getElem hlt, List.flatten_append]
              simpa using hO7
            · exact (hOk.block j hj).1
          case measure => simp [intOf] <;> omega
        · obtain rfl : k = ss.length := by omega
          go_wp2
          go_ret
          have hO2 := hO.out
          rw [List.take_length] at hO2
          exact ⟨_, rfl, hO2.base hB, hF.out⟩
end Go.Proofs.YtijdichfaofjaaaGreatDoor
/- Relation.Add. -/
namespace Go.Proofs.YtijdichfaofjaaaGreatDoor
open Go.RowKit Go.WideMaps
set_option linter.unusedSimpArgs false
set_option linter.unusedVariables false

def addL (ar : Nat) (xs : List Rw) (x : Rw) : List Rw := if (rightP ar x && !decide (x ∈ xs)) = true then xs ++ [x] else xs
def rowErr : Bool → Int
  | true => 0
  | false => 100
set_option maxHeartbeats 1600000 in
set_option maxRecDepth 100000 in
theorem add_any {B : Nat} {w : World} {b pb mb : Nat} {lv : Value} {ar gone : Nat} {xs : List Rw} (h : RelI B w b pb mb lv ar gone xs) (hB : B ≤ w.heap.size) (x : Rw) (hx : Rw.ok x) (hl : xs.length < 1407374883512) :
    Calls Tryz.prog 17 #[.pointer (some ⟨b, 0, none⟩), Rw.val x] w fun e w' => e = .returned (.tuple #[.bool (rightP ar x && !decide (x ∈ xs)), .int .i64 (rowErr (rightP ar x))]) ∧
      ∃ lv', RelI B w' b pb mb lv' ar gone (addL ar xs x) ∧ Only (pfoot pb mb lv) w w' ∧ ∀ k, lv'.ownBlock = some k → pfoot pb mb lv k ∨ w.heap.size ≤ k := by
  have H := Lib.hid h
  have X := Lib.hid hx
  clear h hx
  unfold Rw.val
  go_enter Tryz.func17, Tryz.ntmps17
  go_wp2_with fail
  have hr := RowAt.new w 27 X.out
  have F1 := Fut.alloc w (.cells (Rw.cells x).toArray 27)
  obtain ⟨W1, hW⟩ : ∃ W1, w.alloc (.cells (Rw.cells x).toArray 27) = W1 := ⟨_, rfl⟩
  rw [hW] at hr F1 ⊢
  clear hW
  refine (there_any (H.out.fut F1)).mono ?_
  rintro e w1 ⟨rfl, hw1⟩
  have hw2 := hw1.symm
  subst hw2
  go_wp2_with (first | (refine wpList_load_R rowTy (wanted_none rfl _) _ rfl rfl hr ?_))
  have hRA := right_any (H.out.fut F1).blk H.out.wide x X.out
  obtain ⟨rp, hR⟩ : ∃ r, rightP ar x = r := ⟨_, rfl⟩
  rw [hR] at hRA
  refine hRA.mono ?_
  clear hRA
  rintro e w2 ⟨rfl, f2⟩
  have F2 := F1.trans f2
  cases rp with
  | false =>
    go_wp2
    go_ret2
    have e1 : addL ar xs x = xs := by unfold addL; rw [hR]; rfl
    rw [e1]
    exact ⟨by rw [hR]; rfl, _, H.out.fut F2, Only.fut F2, fun k hk => .inl (.inr (.inr hk))⟩
  | true =>
    have hr2 := hr.fut f2
    have c2 := F2.cell (cell_at H.out.blk 2 _ rfl)
    go_wp2_with fail
    refine wp_graph 5 [.d, .d, .d, .d, .d] (by kernel_rfl) (by kernel_rfl) (by kernel_rfl) ?_
    simp only [List.take_succ_cons, List.take_zero, List.drop_succ_cons, List.drop_zero, Exs]
    iterate 5 apply Exists.intro
    apply Run.valG (wanted_none rfl _)
    · intro w1 h1 hk
      have q2 := h1.cell c2; have hg := (Fut.drew _).trans h1
      have hcw := fun b o => Below.cell (p := ⟨b, o, none⟩) h1
      go_simp; rfl
    simp only [Act.put, List.setIfInBounds_toArray, List.set_cons_succ, List.set_cons_zero, List.nil_append, List.cons_append]
    apply Run.valG (wanted_none rfl _)
    · intro w1 h1 hk
      have q2 := h1.cell c2; have hg := (Fut.drew _).trans h1
      have hcw := fun b o => Below.cell (p := ⟨b, o, none⟩) h1
      go_simp; rfl
    simp only [Act.put, List.setIfInBounds_toArray, List.set_cons_succ, List.set_cons_zero, List.nil_append, List.cons_append]
    apply Run.valG (wanted_none rfl _)
    · intro w1 h1 hk
      have q2 := h1.cell c2; have hg := (Fut.drew _).trans h1
      have hcw := fun b o => Below.cell (p := ⟨b, o, none⟩) h1
      go_simp; rfl
    simp only [Act.put, List.setIfInBounds_toArray, List.set_cons_succ, List.set_cons_zero, List.nil_append, List.cons_append]
    apply Run.valG (wanted_none rfl _)
    · intro w1 h1 hk
      have q2 := h1.cell c2; have hg := (Fut.drew _).trans h1
      have hcw := fun b o => Below.cell (p := ⟨b, o, none⟩) h1
      go_simp; rfl
    simp only [Act.put, List.setIfInBounds_toArray, List.set_cons_succ, List.set_cons_zero, List.nil_append, List.cons_append]
    apply Run.valG (wanted_none rfl _)
    · intro w1 h1 hk
      have q2 := h1.cell c2; have hg := (Fut.drew _).trans h1
      have hcw := fun b o => Below.cell (p := ⟨b, o, none⟩) h1
      exact exec_load_R rowTy _ rfl rfl (hr2.fut hg)
    simp only [Act.put, List.setIfInBounds_toArray, List.set_cons_succ, List.set_cons_zero, List.nil_append, List.cons_append]
    apply Run.done
    intro w3 h3 hk
    clear hk
    have F3 := F2.trans ((Fut.drew _).trans h3)
    go_wp2_with fail
    refine (put_any (H.out.fut F3).pl (by have := F3.size; omega) x X.out hl).mono ?_
    rintro e w4 ⟨lv', rfl, hP, hO, hV⟩
    go_wp2
    go_ret2
    have e1 : addL ar xs x = if x ∈ xs then xs else xs ++ [x] := by
      unfold addL; rw [hR]
      by_cases hin : x ∈ xs <;> simp [hin]
    have hbm : b ≠ mb := fun e => by
      obtain ⟨es, c, hm, _⟩ := H.out.pl.map
      subst e; have := H.out.blk; rw [hm] at this; cases this
    have hbp : b ≠ pb := fun e => by
      subst e
      have := H.out.blk; rw [H.out.pl.blk] at this
      injection this with h2; injection h2 with _ h3
      revert h3; decide
    have hbl : lv.ownBlock ≠ some b := fun e => by
      obtain ⟨arr, h1⟩ := H.out.pl.list.typed _ e
      have := H.out.blk; rw [h1] at this
      injection this with h2; injection h2 with _ h3
      revert h3; decide
    refine ⟨by rw [hR]; rfl, lv', ⟨hO.keeps (H.out.fut F3).blk (fun h => by rcases h with h | h | h; exact hbp h; exact hbm h; exact hbl h), by rw [e1]; exact hP, H.out.base, H.out.wide⟩, (Only.fut F3).trans hO, fun k hk => ?_⟩
    rcases hV k hk with h | h
    · exact .inl h
    · exact .inr (Nat.le_trans F3.size h)
end Go.Proofs.YtijdichfaofjaaaGreatDoor
