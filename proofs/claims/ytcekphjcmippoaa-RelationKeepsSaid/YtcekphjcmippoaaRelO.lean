/- Select's inner function: a row with the columns that are not asked cleared. -/
import Derived.Test.YtcekphjcmippoaaRelR
import Derived.Test.YtcekphjcmippoaaBits
namespace Go.Proofs.Ytcekphjcmippoaa
open Go.RowKit Go.WideMaps
set_option linter.unusedSimpArgs false
set_option linter.unusedVariables false

theorem results_row1 {P : Program} {k e : TypeId} {fn : Func} {p : Tmp} {tmps : Array Value} {w : World} {g : Nat} {x : Rw} (h : fn.results = #[.cell p k]) (T : RowTy P k e)
    (hp : tmps.getD p undef = .pointer (some ⟨g, 0, none⟩)) (hr : RowAt w g 0 x) : (results fn tmps).run P w = .ok (Rw.val x) w := by
  have hp' : tmps[p]?.getD undef = .pointer (some ⟨g, 0, none⟩) := by simpa using hp
  simp [results, h, hp', asAddr, run_loadVar_R T hr]
set_option maxHeartbeats 1600000 in
set_option maxRecDepth 100000 in
theorem only_any {w : World} {b1 b2 : Nat} {p : Value} {ar m : Nat} (hm : m < 2 ^ 32) (c1 : w.cell? ⟨b1, 0, none⟩ = some p) (c2 : w.cell? ⟨b2, 0, none⟩ = some (.int .u32 m))
    (hA : ∀ W, Fut w W → Calls Try.prog 11 #[p] W fun e W' => e = .returned (.int .i64 ar) ∧ W' = W) (x : Rw) (hx : Rw.ok x) :
    Calls Try.prog 34 #[Rw.val x, .pointer (some ⟨b1, 0, none⟩), .pointer (some ⟨b2, 0, none⟩)] w fun e w' => e = .returned (Rw.val (cutL ar m x)) ∧ Fut w w' := by
  have X := Lib.hid hx
  have HA := Lib.hid hA
  have hxl := hx.1
  clear hx hA
  unfold Rw.val
  go_enter Try.func34, Try.ntmps34
  go_wp2
  rw [zeros_eq]
  have hb1 := heap_alloc_new w (.cells (Rw.cells x).toArray 32)
  have f1 := Fut.alloc w (.cells (Rw.cells x).toArray 32)
  have hs1 : (w.alloc (.cells (Rw.cells x).toArray 32)).heap.size = w.heap.size + 1 := by simp
  obtain ⟨W1, hW⟩ : ∃ W1, w.alloc (.cells (Rw.cells x).toArray 32) = W1 := ⟨_, rfl⟩
  rw [hW] at hb1 f1 hs1 ⊢
  clear hW
  have hb2 := heap_alloc_new W1 (.cells (Rw.cells zeroRow).toArray 32)
  have f2 := Fut.alloc W1 (.cells (Rw.cells zeroRow).toArray 32)
  rw [hs1] at hb2
  obtain ⟨W2, hW⟩ : ∃ W2, W1.alloc (.cells (Rw.cells zeroRow).toArray 32) = W2 := ⟨_, rfl⟩
  rw [hW] at hb2 f2 ⊢
  clear hW
  have hb1' := f2.block hb1
  have F2 := f1.trans f2
  go_loopw [6] (fun i wr => ∃ k : Nat, k ≤ 24 ∧ i = .int .i64 k ∧ Hid (wr.heap[w.heap.size]? = some (.cells (Rw.cells (cutK ar m k x)).toArray 32 (0, 0))) ∧ Hid (wr.heap[w.heap.size + 1]? = some (.cells (Rw.cells zeroRow).toArray 32 (0, 0))) ∧ Hid (Fut w wr)) (fun i _ => 24 - (intOf i).toNat)
  case atStart => exact ⟨0, Nat.zero_le _, rfl, Lib.hid (by rw [cutK_zero]; exact hb1'), Lib.hid hb2, Lib.hid F2⟩
  case round =>
    obtain ⟨k, hk, rfl, hB, hC, hF⟩ := hrel
    by_cases hlt : k < 24
    · have hlt' : (k : Int) < 24 := by omega
      have e1 : (0 : Int) ≤ k ∧ (k : Int) < 24 := by omega
      have q1 := hF.out.cell c1
      have q2 := hF.out.cell c2
      have HAr := Lib.hid (fun W (hW : Fut wr W) => HA.out W (hF.out.trans hW))
      by_cases h1 : ar ≤ k
      · have h1' : (ar : Int) ≤ k := by omega
        have ho : offB ar m k = true := by simp [offB, h1]
        go_wp2_with fail
        refine wp_graph 11 [.d, .d, .d, .d, .d, .d, .d, .d, .d, .d, .d] (by kernel_rfl) (by kernel_rfl) (by kernel_rfl) ?_
        simp only [List.take_succ_cons, List.take_zero, List.drop_succ_cons, List.drop_zero, Exs]
        iterate 11 apply Exists.intro
        apply Run.valG (wanted_none rfl _)
        · intro w1 h1 hk
          have r1 := h1.cell q1; have r2 := h1.cell q2; have hg := (Fut.drew _).trans h1
          have hcw := fun b o => Below.cell (p := ⟨b, o, none⟩) h1
          go_simp; rfl
        simp only [Act.put, List.setIfInBounds_toArray, List.set_cons_succ, List.set_cons_zero, List.nil_append, List.cons_append]
        apply Run.valG (wanted_none rfl _)
        · intro w1 h1 hk
          have r1 := h1.cell q1; have r2 := h1.cell q2; have hg := (Fut.drew _).trans h1
          have hcw := fun b o => Below.cell (p := ⟨b, o, none⟩) h1
          go_simp; rfl
        simp only [Act.put, List.setIfInBounds_toArray, List.set_cons_succ, List.set_cons_zero, List.nil_append, List.cons_append]
        apply Run.call (wanted_none rfl _) (fun _ _ => by go_simp; exact ⟨rfl, rfl⟩)
        · intro w1 h1 hk
          have r1 := h1.cell q1; have r2 := h1.cell q2; have hg := (Fut.drew _).trans h1
          refine (HAr.out _ hg).mono ?_; rintro e w' ⟨rfl, rfl⟩; exact ⟨rfl, Fut.refl _⟩
        simp only [Act.put, List.setIfInBounds_toArray, List.set_cons_succ, List.set_cons_zero, List.nil_append, List.cons_append]
        apply Run.valG (wanted_none rfl _)
        · intro w1 h1 hk
          have r1 := h1.cell q1; have r2 := h1.cell q2; have hg := (Fut.drew _).trans h1
          have hcw := fun b o => Below.cell (p := ⟨b, o, none⟩) h1
          go_simp; rfl
        simp only [Act.put, List.setIfInBounds_toArray, List.set_cons_succ, List.set_cons_zero, List.nil_append, List.cons_append]
        apply Run.valG (wanted_none rfl _)
        · intro w1 h1 hk
          have r1 := h1.cell q1; have r2 := h1.cell q2; have hg := (Fut.drew _).trans h1
          have hcw := fun b o => Below.cell (p := ⟨b, o, none⟩) h1
          go_simp; rfl
        simp only [Act.put, List.setIfInBounds_toArray, List.set_cons_succ, List.set_cons_zero, List.nil_append, List.cons_append]
        apply Run.skip (by go_simp)
        simp only [Act.put, List.setIfInBounds_toArray, List.set_cons_succ, List.set_cons_zero, List.nil_append, List.cons_append]
        apply Run.skip (by go_simp)
        simp only [Act.put, List.setIfInBounds_toArray, List.set_cons_succ, List.set_cons_zero, List.nil_append, List.cons_append]
        apply Run.skip (by go_simp)
        simp only [Act.put, List.setIfInBounds_toArray, List.set_cons_succ, List.set_cons_zero, List.nil_append, List.cons_append]
        apply Run.skip (by go_simp)
        simp only [Act.put, List.setIfInBounds_toArray, List.set_cons_succ, List.set_cons_zero, List.nil_append, List.cons_append]
        apply Run.skip (by go_simp)
        simp only [Act.put, List.setIfInBounds_toArray, List.set_cons_succ, List.set_cons_zero, List.nil_append, List.cons_append]
        apply Run.valG (wanted_none rfl _)
        · intro w1 h1 hk
          have r1 := h1.cell q1; have r2 := h1.cell q2; have hg := (Fut.drew _).trans h1
          have hcw := fun b o => Below.cell (p := ⟨b, o, none⟩) h1
          go_simp; rfl
        simp only [Act.put, List.setIfInBounds_toArray, List.set_cons_succ, List.set_cons_zero, List.nil_append, List.cons_append]
        apply Run.done
        intro w2 h2 hk
        clear hk
        have F3 := (Fut.drew _).trans h2
        have hB3 := F3.block hB.out
        have hC3 := F3.block hC.out
        have hlen : (cutK ar m k x).length = 24 := by rw [cutK_len]; exact hxl
        have ck := cell_at hB3 k _ (show _ = some (.int .i32 ((cutK ar m k x)[k]'(by omega))) by simp [Rw.cells, hlen, hlt])
        have fk := free_at hB3 k
        go_wp2
        go_roundw
        case rel =>
          refine ⟨k + 1, by omega, by go_num, Lib.hid ?_, Lib.hid ?_, Lib.hid ?_⟩
          · rw [cutK_set ho]; exact set_row hB3 0
          · rw [Below.heap_setCell _ _ _ _ (by simp)]; exact hC3
          · exact (hF.out.trans F3).set (by simp) _
        case measure => simp [intOf] <;> omega
      · have h1' : ¬ (ar : Int) ≤ k := by omega
        have s1 : IntKind.u32.wrap (2 ^ k) = ((2 ^ k : Nat) : Int) := shl_u32 hlt
        go_wp2_with fail
        refine wp_graph 11 [.d, .d, .d, .d, .d, .d, .d, .d, .d, .d, .d] (by kernel_rfl) (by kernel_rfl) (by kernel_rfl) ?_
        simp only [List.take_succ_cons, List.take_zero, List.drop_succ_cons, List.drop_zero, Exs]
        iterate 11 apply Exists.intro
        apply Run.valG (wanted_none rfl _)
        · intro w1 h1 hk
          have r1 := h1.cell q1; have r2 := h1.cell q2; have hg := (Fut.drew _).trans h1
          have hcw := fun b o => Below.cell (p := ⟨b, o, none⟩) h1
          go_simp; rfl
        simp only [Act.put, List.setIfInBounds_toArray, List.set_cons_succ, List.set_cons_zero, List.nil_append, List.cons_append]
        apply Run.valG (wanted_none rfl _)
        · intro w1 h1 hk
          have r1 := h1.cell q1; have r2 := h1.cell q2; have hg := (Fut.drew _).trans h1
          have hcw := fun b o => Below.cell (p := ⟨b, o, none⟩) h1
          go_simp; rfl
        simp only [Act.put, List.setIfInBounds_toArray, List.set_cons_succ, List.set_cons_zero, List.nil_append, List.cons_append]
        apply Run.call (wanted_none rfl _) (fun _ _ => by go_simp; exact ⟨rfl, rfl⟩)
        · intro w1 h1 hk
          have r1 := h1.cell q1; have r2 := h1.cell q2; have hg := (Fut.drew _).trans h1
          refine (HAr.out _ hg).mono ?_; rintro e w' ⟨rfl, rfl⟩; exact ⟨rfl, Fut.refl _⟩
        simp only [Act.put, List.setIfInBounds_toArray, List.set_cons_succ, List.set_cons_zero, List.nil_append, List.cons_append]
        apply Run.valG (wanted_none rfl _)
        · intro w1 h1 hk
          have r1 := h1.cell q1; have r2 := h1.cell q2; have hg := (Fut.drew _).trans h1
          have hcw := fun b o => Below.cell (p := ⟨b, o, none⟩) h1
          go_simp; rfl
        simp only [Act.put, List.setIfInBounds_toArray, List.set_cons_succ, List.set_cons_zero, List.nil_append, List.cons_append]
        apply Run.valG (wanted_none rfl _)
        · intro w1 h1 hk
          have r1 := h1.cell q1; have r2 := h1.cell q2; have hg := (Fut.drew _).trans h1
          have hcw := fun b o => Below.cell (p := ⟨b, o, none⟩) h1
          go_simp; rfl
        simp only [Act.put, List.setIfInBounds_toArray, List.set_cons_succ, List.set_cons_zero, List.nil_append, List.cons_append]
        apply Run.valG (by go_simp)
        · intro w1 h1 hk
          have r1 := h1.cell q1; have r2 := h1.cell q2; have hg := (Fut.drew _).trans h1
          have hcw := fun b o => Below.cell (p := ⟨b, o, none⟩) h1
          go_simp; rfl
        simp only [Act.put, List.setIfInBounds_toArray, List.set_cons_succ, List.set_cons_zero, List.nil_append, List.cons_append]
        apply Run.valG (by go_simp)
        · intro w1 h1 hk
          have r1 := h1.cell q1; have r2 := h1.cell q2; have hg := (Fut.drew _).trans h1
          have hcw := fun b o => Below.cell (p := ⟨b, o, none⟩) h1
          go_simp; rfl
        simp only [Act.put, List.setIfInBounds_toArray, List.set_cons_succ, List.set_cons_zero, List.nil_append, List.cons_append]
        apply Run.valG (by go_simp)
        · intro w1 h1 hk
          have r1 := h1.cell q1; have r2 := h1.cell q2; have hg := (Fut.drew _).trans h1
          have hcw := fun b o => Below.cell (p := ⟨b, o, none⟩) h1
          go_simp; rfl
        simp only [Act.put, List.setIfInBounds_toArray, List.set_cons_succ, List.set_cons_zero, List.nil_append, List.cons_append]
        apply Run.valG (by go_simp)
        · intro w1 h1 hk
          have r1 := h1.cell q1; have r2 := h1.cell q2; have hg := (Fut.drew _).trans h1
          have hcw := fun b o => Below.cell (p := ⟨b, o, none⟩) h1
          go_simp; rfl
        simp only [Act.put, List.setIfInBounds_toArray, List.set_cons_succ, List.set_cons_zero, List.nil_append, List.cons_append]
        apply Run.valG (by go_simp)
        · intro w1 h1 hk
          have r1 := h1.cell q1; have r2 := h1.cell q2; have hg := (Fut.drew _).trans h1
          have hcw := fun b o => Below.cell (p := ⟨b, o, none⟩) h1
          go_simp; rfl
        simp only [Act.put, List.setIfInBounds_toArray, List.set_cons_succ, List.set_cons_zero, List.nil_append, List.cons_append]
        apply Run.valG (wanted_none rfl _)
        · intro w1 h1 hk
          have r1 := h1.cell q1; have r2 := h1.cell q2; have hg := (Fut.drew _).trans h1
          have hcw := fun b o => Below.cell (p := ⟨b, o, none⟩) h1
          go_simp; rfl
        simp only [Act.put, List.setIfInBounds_toArray, List.set_cons_succ, List.set_cons_zero, List.nil_append, List.cons_append]
        apply Run.done
        intro w2 h2 hk
        clear hk
        have F3 := (Fut.drew _).trans h2
        have hB3 := F3.block hB.out
        have hC3 := F3.block hC.out
        have hlen : (cutK ar m k x).length = 24 := by rw [cutK_len]; exact hxl
        have ck := cell_at hB3 k _ (show _ = some (.int .i32 ((cutK ar m k x)[k]'(by omega))) by simp [Rw.cells, hlen, hlt])
        have fk := free_at hB3 k
        have hz : (bits .and .u32 (m : Int) (2 ^ k) == 0) = !m.testBit k := by
          have := and_bit hm hlt
          rw [show ((2 ^ k : Nat) : Int) = 2 ^ k by simp] at this
          rw [Bool.eq_iff_iff, beq_iff_eq, this]
          cases m.testBit k <;> simp
        rw [hz]
        obtain ⟨tb, htb⟩ : ∃ t, m.testBit k = t := ⟨_, rfl⟩
        rw [htb]
        cases tb with
        | true =>
          have ho : offB ar m k = false := by simp [offB, h1, htb]
          go_wp2
          go_roundw
          case rel => exact ⟨k + 1, by omega, by go_num, Lib.hid (by rw [cutK_keep ho]; exact hB3), Lib.hid hC3, Lib.hid (hF.out.trans F3)⟩
          case measure => simp [intOf] <;> omega
        | false =>
          have ho : offB ar m k = true := by simp [offB, htb]
          go_wp2
          go_roundw
          case rel =>
            refine ⟨k + 1, by omega, by go_num, Lib.hid ?_, Lib.hid ?_, Lib.hid ?_⟩
            · rw [cutK_set ho]; exact set_row hB3 0
            · rw [Below.heap_setCell _ _ _ _ (by simp)]; exact hC3
            · exact (hF.out.trans F3).set (by simp) _
          case measure => simp [intOf] <;> omega
    · obtain rfl : k = 24 := by omega
      have hB3 := hB.out
      have hC3 := hC.out
      have hrB := RowAt.of_block (cutK_ok X.out) hB3
      go_wp2_with (first | (refine wpList_load_R rowTy (wanted_none rfl _) _ rfl rfl hrB ?_) | (refine wpList_store_R rowTy (wanted_none rfl _) _ _ rfl rfl rfl hC3 rfl hrB.1 ?_))
      refine bodyPost_ret (results_row1 rfl rowTy rfl (RowAt.of_block hrB.1 (World.putObj_heap_same (by have := (Array.getElem?_eq_some_iff.1 hC3).1; exact this)))) rfl ?_
      exact ⟨rfl, ((Only.fut hF.out).trans (Only.put (S := fun k => k = w.heap.size + 1) _ _ rfl)).toFut (fun k hk => by omega)⟩
end Go.Proofs.Ytcekphjcmippoaa
