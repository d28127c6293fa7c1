/- RelationKeeps, walked. -/
import Derived.Test.YtcekphjcmippoaaRelM
import Derived.Test.YtcekphjcmippoaaRelZ
import Derived.Test.YtcekphjcmippoaaRelS
import Derived.Test.YtcekphjcmippoaaResB
namespace Go.Proofs.Ytcekphjcmippoaa
open Go.RowKit Go.WideMaps Go.Shelf
set_option linter.unusedSimpArgs false
set_option linter.unusedVariables false
attribute [local go_sem] Oper.semAt_some

set_option maxHeartbeats 8000000 in
set_option maxRecDepth 100000 in
theorem keeps_walk (n : Int) (v : Value) (l : List Tn) (x : Rw) (hx : Rw.ok x) (w : World) (M : Nat) (h : SlRep 25 M RTn w v l) (hl : l.length ≤ 1407374883512) :
    Calls Try.prog 5 #[.int .i64 n, v, Rw.val x] w fun e w' => e = .returned (.bool true) ∧ Fut w w' := by
  have H := Lib.hid h
  have X := Lib.hid hx
  have hwid := widN_le n
  obtain ⟨A, cap, rfl, hcl, hcm⟩ := h.form
  clear h
  unfold Rw.val
  refine (callsIn_wide (n := 3)).1 ?_
  refine callsIn_of_wp_marks Try.func5 rfl trivial ?_ rfl
  refine wpIn_wide.2 ?_
  simp only [Try.ntmps5, List.size_toArray, List.length_cons, List.length_nil, Nat.reduceAdd, Nat.reduceSub, Array.replicate_succ, Array.replicate_zero, List.push_toArray, List.append_toArray, List.nil_append, List.cons_append]
  go_wp2_with fail
  have hrow := RowAt.new w 32 X.out
  have F1 := Fut.alloc w (.cells (Rw.cells x).toArray 32)
  have F2 := F1.trans (Fut.alloc (w.alloc (.cells (Rw.cells x).toArray 32)) (.cells #[Value.bool false] 4))
  replace hrow := hrow.fut (Fut.alloc (w.alloc (.cells (Rw.cells x).toArray 32)) (.cells #[Value.bool false] 4))
  have hB := heap_alloc_new (w.alloc (.cells (Rw.cells x).toArray 32)) (.cells #[Value.bool false] 4)
  rw [World.size_alloc] at hB
  obtain ⟨w2, hW⟩ : ∃ W, (w.alloc (.cells (Rw.cells x).toArray 32)).alloc (.cells #[Value.bool false] 4) = W := ⟨_, rfl⟩
  rw [hW] at hrow F2 hB ⊢
  clear hW F1
  refine (lives10 _).mono ?_
  rintro e w4 ⟨rfl, f4⟩
  replace F2 := F2.trans f4
  replace hrow := hrow.fut f4
  replace hB := f4.block hB
  clear f4
  go_wp2_with fail
  refine (width_any n w4).mono ?_
  rintro e w5 ⟨rfl, hw5⟩
  have hw5' := hw5.symm
  subst hw5'
  go_wp2_with fail
  refine (turned_any (widN n) hwid _ l w4 M (by omega) (H.out.fut RTn.stays F2)).mono ?_
  rintro e w5 ⟨b, pb, mb, lv, rv, rfl, hR, hO, hA, f5⟩
  have hsum := turnsL_sum (widN n) l l.length (Nat.le_refl _)
  rw [List.take_length] at hsum
  generalize hT : turnsL (widN n) l = T at hR hO hsum
  obtain ⟨xs, g⟩ := T
  simp only at hR hO hsum
  have hoks := rows_ok hR.pl.list.rep
  have hnd := hR.pl.nodup
  replace hrow := hrow.fut f5
  replace F2 := F2.trans f5
  replace hB := f5.block hB
  clear f5 hA
  obtain ⟨Ar, capr, rfl, hcr, _⟩ := hO.rep.form
  go_wp2_with fail
  have f6 := Fut.alloc w5 (.cells #[Value.slice Ar xs.length capr] 25)
  have hC := heap_alloc_new w5 (.cells #[Value.slice Ar xs.length capr] 25)
  have hCl : w5.heap.size < (w5.alloc (.cells #[Value.slice Ar xs.length capr] 25)).heap.size := by simp
  obtain ⟨w6, hW⟩ : ∃ W, w5.alloc (.cells #[Value.slice Ar xs.length capr] 25) = W := ⟨_, rfl⟩
  rw [hW] at f6 hC hCl ⊢
  clear hW
  have hw5l : w.heap.size + 1 < w5.heap.size := (Array.getElem?_eq_some_iff.1 hB).1
  have HR := Lib.hid (hR.fut f6)
  have HO := Lib.hid (hO.rep.fut RR.stays f6)
  have HRow := Lib.hid (hrow.fut f6)
  have HB := Lib.hid (f6.block hB)
  have HC := Lib.hid hC
  have HF := Lib.hid (F2.trans f6)
  clear hR hO hrow hB hC F2 f6
  refine (arity_any HR.out).mono ?_
  rintro e w7 ⟨rfl, hw7⟩
  have hw7' := hw7.symm
  subst hw7'
  go_wp2_with fail
  refine (width_any n w6).mono ?_
  rintro e w7 ⟨rfl, hw7⟩
  have hw7' := hw7.symm
  subst hw7'
  go_wp2
  go_loopw [10, 11] (fun t i wr => ∃ k : Nat, k ≤ xs.length ∧ i = .int .i64 k ∧ t = .bool (decide (x ∈ xs.take k)) ∧ Hid (Fut w6 wr)) (fun _ i _ => xs.length - (intOf i).toNat)
  case atStart => exact ⟨0, Nat.zero_le _, rfl, by simp, Lib.hid (Fut.refl _)⟩
  case round =>
    obtain ⟨k, hk, rfl, rfl, hG⟩ := hrel
    have cC := cell_at (hG.out.block HC.out) 0 _ rfl
    by_cases hlt : k < xs.length
    · have hltI : (k : Int) < xs.length := by omega
      have e1 : (0 : Int) ≤ k ∧ (k : Int) < xs.length := by omega
      obtain ⟨gb, off, rfl, hrk⟩ := rows_at (HO.out.fut RR.stays hG.out) hlt
      have hym : xs[k] ∈ xs := List.getElem_mem hlt
      have hat := at_any (HR.out.fut hG.out) k hlt
      have htk : xs.take (k + 1) = xs.take k ++ [xs[k]] := List.take_succ_eq_append_getElem hlt
      generalize xs[k] = y at hrk hym hat htk
      have hy := hrk.1
      go_wp2_with fail
      refine hat.mono ?_
      rintro e w8 ⟨rfl, f8⟩
      go_wp2_with (first | (refine wpList_store_new rowTy (wanted_none rfl _) _ _ rfl rfl rfl rfl hy ?_))
      have hr9 := RowAt.new w8 32 hy
      have f9 := f8.trans (Fut.alloc w8 (.cells (Rw.cells y).toArray 32))
      obtain ⟨w9, hW⟩ : ∃ W, w8.alloc (.cells (Rw.cells y).toArray 32) = W := ⟨_, rfl⟩
      rw [hW] at hr9 f9 ⊢
      clear hW f8
      have hrk9 := hrk.fut f9
      have cC9 := f9.cell cC
      have HR9 := Lib.hid (HR.out.fut (hG.out.trans f9))
      have hrx9 := HRow.out.fut (hG.out.trans f9)
      go_wp2_with fail
      refine wp_graph 16 [.d, .d, .d, .d, .d, .d, .d, .d, .d, .d, .d, .d, .d, .d, .d, .d] (by kernel_rfl) (by kernel_rfl) (by kernel_rfl) ?_
      simp only [List.take_succ_cons, List.take_zero, List.drop_succ_cons, List.drop_zero, Exs]
      iterate 16 apply Exists.intro
      apply Run.valG (wanted_none rfl _)
      · intro w1 h1 hk
        have hg := (Fut.drew _).trans h1; have q1 := h1.cell cC9
        have hcw := fun b o => Below.cell (p := ⟨b, o, none⟩) h1
        go_simp; rfl
      simp only [Act.put, List.setIfInBounds_toArray, List.set_cons_succ, List.set_cons_zero, List.nil_append, List.cons_append]
      apply Run.valG (wanted_none rfl _)
      · intro w1 h1 hk
        have hg := (Fut.drew _).trans h1; have q1 := h1.cell cC9
        have hcw := fun b o => Below.cell (p := ⟨b, o, none⟩) h1
        go_simp; rfl
      simp only [Act.put, List.setIfInBounds_toArray, List.set_cons_succ, List.set_cons_zero, List.nil_append, List.cons_append]
      apply Run.valG (wanted_none rfl _)
      · intro w1 h1 hk
        have hg := (Fut.drew _).trans h1; have q1 := h1.cell cC9
        have hcw := fun b o => Below.cell (p := ⟨b, o, none⟩) h1
        go_simp; rfl
      simp only [Act.put, List.setIfInBounds_toArray, List.set_cons_succ, List.set_cons_zero, List.nil_append, List.cons_append]
      apply Run.valG (by go_simp)
      · intro w1 h1 hk
        have hg := (Fut.drew _).trans h1; have q1 := h1.cell cC9
        have hcw := fun b o => Below.cell (p := ⟨b, o, none⟩) h1
        exact exec_load_R rowTy _ rfl rfl (hr9.fut hg)
      simp only [Act.put, List.setIfInBounds_toArray, List.set_cons_succ, List.set_cons_zero, List.nil_append, List.cons_append]
      apply Run.valG (by go_simp)
      · intro w1 h1 hk
        have hg := (Fut.drew _).trans h1; have q1 := h1.cell cC9
        have hcw := fun b o => Below.cell (p := ⟨b, o, none⟩) h1
        go_simp; rfl
      simp only [Act.put, List.setIfInBounds_toArray, List.set_cons_succ, List.set_cons_zero, List.nil_append, List.cons_append]
      apply Run.valG (by go_simp)
      · intro w1 h1 hk
        have hg := (Fut.drew _).trans h1; have q1 := h1.cell cC9
        have hcw := fun b o => Below.cell (p := ⟨b, o, none⟩) h1
        go_simp; rfl
      simp only [Act.put, List.setIfInBounds_toArray, List.set_cons_succ, List.set_cons_zero, List.nil_append, List.cons_append]
      apply Run.valG (by go_simp)
      · intro w1 h1 hk
        have hg := (Fut.drew _).trans h1; have q1 := h1.cell cC9
        have hcw := fun b o => Below.cell (p := ⟨b, o, none⟩) h1
        go_simp; rfl
      simp only [Act.put, List.setIfInBounds_toArray, List.set_cons_succ, List.set_cons_zero, List.nil_append, List.cons_append]
      apply Run.valG (by go_simp)
      · intro w1 h1 hk
        have hg := (Fut.drew _).trans h1; have q1 := h1.cell cC9
        have hcw := fun b o => Below.cell (p := ⟨b, o, none⟩) h1
        exact exec_load_R rowTy _ rfl rfl (hrk9.fut hg)
      simp only [Act.put, List.setIfInBounds_toArray, List.set_cons_succ, List.set_cons_zero, List.nil_append, List.cons_append]
      apply Run.valG (by go_simp)
      · intro w1 h1 hk
        have hg := (Fut.drew _).trans h1; have q1 := h1.cell cC9
        have hcw := fun b o => Below.cell (p := ⟨b, o, none⟩) h1
        exact exec_neq_R rowTy noGuard _ _ _ rfl rfl rfl hy hy
      simp only [Act.put, List.setIfInBounds_toArray, List.set_cons_succ, List.set_cons_zero, List.nil_append, List.cons_append]
      apply Run.valG (wanted_none rfl _)
      · intro w1 h1 hk
        have hg := (Fut.drew _).trans h1; have q1 := h1.cell cC9
        have hcw := fun b o => Below.cell (p := ⟨b, o, none⟩) h1
        go_simp; rfl
      simp only [Act.put, List.setIfInBounds_toArray, List.set_cons_succ, List.set_cons_zero, List.nil_append, List.cons_append]
      apply Run.valG (wanted_none rfl _)
      · intro w1 h1 hk
        have hg := (Fut.drew _).trans h1; have q1 := h1.cell cC9
        have hcw := fun b o => Below.cell (p := ⟨b, o, none⟩) h1
        go_simp; rfl
      simp only [Act.put, List.setIfInBounds_toArray, List.set_cons_succ, List.set_cons_zero, List.nil_append, List.cons_append]
      apply Run.valG (by go_simp)
      · intro w1 h1 hk
        have hg := (Fut.drew _).trans h1; have q1 := h1.cell cC9
        have hcw := fun b o => Below.cell (p := ⟨b, o, none⟩) h1
        go_simp; rfl
      simp only [Act.put, List.setIfInBounds_toArray, List.set_cons_succ, List.set_cons_zero, List.nil_append, List.cons_append]
      apply Run.valG (by go_simp)
      · intro w1 h1 hk
        have hg := (Fut.drew _).trans h1; have q1 := h1.cell cC9
        have hcw := fun b o => Below.cell (p := ⟨b, o, none⟩) h1
        exact exec_load_R rowTy _ rfl rfl (hr9.fut hg)
      simp only [Act.put, List.setIfInBounds_toArray, List.set_cons_succ, List.set_cons_zero, List.nil_append, List.cons_append]
      apply Run.call (by go_simp) (fun _ _ => by go_simp; exact ⟨rfl, rfl⟩)
      · intro w1 h1 hk
        have hg := (Fut.drew _).trans h1; have q1 := h1.cell cC9
        refine (has_any (HR9.out.fut hg) y hy).mono ?_; rintro e w' ⟨rfl, hf⟩; rw [decide_eq_true hym]; exact ⟨rfl, hf⟩
      simp only [Act.put, List.setIfInBounds_toArray, List.set_cons_succ, List.set_cons_zero, List.nil_append, List.cons_append]
      apply Run.valG (by go_simp)
      · intro w1 h1 hk
        have hg := (Fut.drew _).trans h1; have q1 := h1.cell cC9
        have hcw := fun b o => Below.cell (p := ⟨b, o, none⟩) h1
        go_simp; rfl
      simp only [Act.put, List.setIfInBounds_toArray, List.set_cons_succ, List.set_cons_zero, List.nil_append, List.cons_append]
      apply Run.valG (wanted_none rfl _)
      · intro w1 h1 hk
        have hg := (Fut.drew _).trans h1; have q1 := h1.cell cC9
        have hcw := fun b o => Below.cell (p := ⟨b, o, none⟩) h1
        go_simp; rfl
      simp only [Act.put, List.setIfInBounds_toArray, List.set_cons_succ, List.set_cons_zero, List.nil_append, List.cons_append]
      apply Run.done
      intro wa ha hk
      clear hk
      have fa := (Fut.drew _).trans ha
      have cCa := fa.cell cC9
      have hrka := hrk9.fut fa
      have hrxa := hrx9.fut fa
      have HGa := Lib.hid (hG.out.trans (f9.trans fa))
      go_wp2_with fail
      by_cases hin : x ∈ xs.take k
      · rw [decide_eq_true hin]
        refine wp_graph 10 [.d, .d, .d, .d, .d, .d, .d, .d, .d, .d] (by kernel_rfl) (by kernel_rfl) (by kernel_rfl) ?_
        simp only [List.take_succ_cons, List.take_zero, List.drop_succ_cons, List.drop_zero, Exs]
        iterate 10 apply Exists.intro
        apply Run.valG (wanted_none rfl _)
        · intro w1 h1 hk
          have hcw := fun b o => Below.cell (p := ⟨b, o, none⟩) h1
          go_simp; rfl
        simp only [Act.put, List.setIfInBounds_toArray, List.set_cons_succ, List.set_cons_zero, List.nil_append, List.cons_append]
        apply Run.valG (wanted_none rfl _)
        · intro w1 h1 hk
          have hcw := fun b o => Below.cell (p := ⟨b, o, none⟩) h1
          go_simp; rfl
        simp only [Act.put, List.setIfInBounds_toArray, List.set_cons_succ, List.set_cons_zero, List.nil_append, List.cons_append]
        apply Run.skip (by go_simp)
        simp only [Act.put, List.setIfInBounds_toArray, List.set_cons_succ, List.set_cons_zero, List.nil_append, List.cons_append]
        apply Run.skip (by go_simp)
        simp only [Act.put, List.setIfInBounds_toArray, List.set_cons_succ, List.set_cons_zero, List.nil_append, List.cons_append]
        apply Run.skip (by go_simp)
        simp only [Act.put, List.setIfInBounds_toArray, List.set_cons_succ, List.set_cons_zero, List.nil_append, List.cons_append]
        apply Run.skip (by go_simp)
        simp only [Act.put, List.setIfInBounds_toArray, List.set_cons_succ, List.set_cons_zero, List.nil_append, List.cons_append]
        apply Run.skip (by go_simp)
        simp only [Act.put, List.setIfInBounds_toArray, List.set_cons_succ, List.set_cons_zero, List.nil_append, List.cons_append]
        apply Run.skip (by go_simp)
        simp only [Act.put, List.setIfInBounds_toArray, List.set_cons_succ, List.set_cons_zero, List.nil_append, List.cons_append]
        apply Run.valG (wanted_none rfl _)
        · intro w1 h1 hk
          have hcw := fun b o => Below.cell (p := ⟨b, o, none⟩) h1
          go_simp; rfl
        simp only [Act.put, List.setIfInBounds_toArray, List.set_cons_succ, List.set_cons_zero, List.nil_append, List.cons_append]
        apply Run.valG (wanted_none rfl _)
        · intro w1 h1 hk
          have hcw := fun b o => Below.cell (p := ⟨b, o, none⟩) h1
          go_simp; rfl
        simp only [Act.put, List.setIfInBounds_toArray, List.set_cons_succ, List.set_cons_zero, List.nil_append, List.cons_append]
        apply Run.done
        intro wb hb hk
        clear hk
        go_wp2
        go_roundw
        case rel => exact ⟨k + 1, by omega, by go_num, by rw [htk, decide_eq_true (List.mem_append_left _ hin)], Lib.hid (HGa.out.trans ((Fut.drew _).trans hb))⟩
        case measure => simp [intOf] <;> omega
      · rw [decide_eq_false hin]
        refine wp_graph 10 [.d, .d, .d, .d, .d, .d, .d, .d, .d, .d] (by kernel_rfl) (by kernel_rfl) (by kernel_rfl) ?_
        simp only [List.take_succ_cons, List.take_zero, List.drop_succ_cons, List.drop_zero, Exs]
        iterate 10 apply Exists.intro
        apply Run.valG (wanted_none rfl _)
        · intro w1 h1 hk
          have hg := (Fut.drew _).trans h1; have q1 := h1.cell cCa
          have hcw := fun b o => Below.cell (p := ⟨b, o, none⟩) h1
          go_simp; rfl
        simp only [Act.put, List.setIfInBounds_toArray, List.set_cons_succ, List.set_cons_zero, List.nil_append, List.cons_append]
        apply Run.valG (wanted_none rfl _)
        · intro w1 h1 hk
          have hg := (Fut.drew _).trans h1; have q1 := h1.cell cCa
          have hcw := fun b o => Below.cell (p := ⟨b, o, none⟩) h1
          go_simp; rfl
        simp only [Act.put, List.setIfInBounds_toArray, List.set_cons_succ, List.set_cons_zero, List.nil_append, List.cons_append]
        apply Run.valG (by go_simp)
        · intro w1 h1 hk
          have hg := (Fut.drew _).trans h1; have q1 := h1.cell cCa
          have hcw := fun b o => Below.cell (p := ⟨b, o, none⟩) h1
          go_simp; rfl
        simp only [Act.put, List.setIfInBounds_toArray, List.set_cons_succ, List.set_cons_zero, List.nil_append, List.cons_append]
        apply Run.valG (by go_simp)
        · intro w1 h1 hk
          have hg := (Fut.drew _).trans h1; have q1 := h1.cell cCa
          have hcw := fun b o => Below.cell (p := ⟨b, o, none⟩) h1
          go_simp; rfl
        simp only [Act.put, List.setIfInBounds_toArray, List.set_cons_succ, List.set_cons_zero, List.nil_append, List.cons_append]
        apply Run.valG (by go_simp)
        · intro w1 h1 hk
          have hg := (Fut.drew _).trans h1; have q1 := h1.cell cCa
          have hcw := fun b o => Below.cell (p := ⟨b, o, none⟩) h1
          go_simp; rfl
        simp only [Act.put, List.setIfInBounds_toArray, List.set_cons_succ, List.set_cons_zero, List.nil_append, List.cons_append]
        apply Run.valG (by go_simp)
        · intro w1 h1 hk
          have hg := (Fut.drew _).trans h1; have q1 := h1.cell cCa
          have hcw := fun b o => Below.cell (p := ⟨b, o, none⟩) h1
          exact exec_load_R rowTy _ rfl rfl (hrka.fut hg)
        simp only [Act.put, List.setIfInBounds_toArray, List.set_cons_succ, List.set_cons_zero, List.nil_append, List.cons_append]
        apply Run.valG (by go_simp)
        · intro w1 h1 hk
          have hg := (Fut.drew _).trans h1; have q1 := h1.cell cCa
          have hcw := fun b o => Below.cell (p := ⟨b, o, none⟩) h1
          exact exec_load_R rowTy _ rfl rfl (hrxa.fut hg)
        simp only [Act.put, List.setIfInBounds_toArray, List.set_cons_succ, List.set_cons_zero, List.nil_append, List.cons_append]
        apply Run.valG (by go_simp)
        · intro w1 h1 hk
          have hg := (Fut.drew _).trans h1; have q1 := h1.cell cCa
          have hcw := fun b o => Below.cell (p := ⟨b, o, none⟩) h1
          exact exec_eql_R rowTy noGuard _ _ _ rfl rfl rfl hy X.out
        simp only [Act.put, List.setIfInBounds_toArray, List.set_cons_succ, List.set_cons_zero, List.nil_append, List.cons_append]
        apply Run.valG (wanted_none rfl _)
        · intro w1 h1 hk
          have hg := (Fut.drew _).trans h1; have q1 := h1.cell cCa
          have hcw := fun b o => Below.cell (p := ⟨b, o, none⟩) h1
          go_simp; rfl
        simp only [Act.put, List.setIfInBounds_toArray, List.set_cons_succ, List.set_cons_zero, List.nil_append, List.cons_append]
        apply Run.valG (wanted_none rfl _)
        · intro w1 h1 hk
          have hg := (Fut.drew _).trans h1; have q1 := h1.cell cCa
          have hcw := fun b o => Below.cell (p := ⟨b, o, none⟩) h1
          go_simp; rfl
        simp only [Act.put, List.setIfInBounds_toArray, List.set_cons_succ, List.set_cons_zero, List.nil_append, List.cons_append]
        apply Run.done
        intro wb hb hk
        clear hk
        have hd : decide (x ∈ xs.take (k + 1)) = decide (y = x) := by
          rw [htk]
          have : x ∈ xs.take k ++ [y] ↔ y = x := by
            rw [List.mem_append, List.mem_singleton]
            exact ⟨fun h => h.elim (fun h => absurd h hin) Eq.symm, fun h => .inr h.symm⟩
          rw [Bool.eq_iff_iff, decide_eq_true_iff, decide_eq_true_iff, this]
        go_wp2
        go_roundw
        case rel => exact ⟨k + 1, by omega, by go_num, by rw [hd], Lib.hid (HGa.out.trans ((Fut.drew _).trans hb))⟩
        case measure => simp [intOf] <;> omega
    · obtain rfl : k = xs.length := by omega
      rw [List.take_length]
      obtain ⟨wq, hwq⟩ : ∃ x, x = wr := ⟨_, rfl⟩
      subst hwq
      go_wp2_with fail
      refine (at_bad (HR.out.fut hG.out) (xs.length : Int) (.inr (Int.le_refl _))).mono ?_
      rintro e w8 ⟨rfl, f8⟩
      have f9 := f8.trans (Fut.alloc w8 (.cells (Rw.cells zeroRow).toArray 32))
      have hrx9 := HRow.out.fut (hG.out.trans f9)
      have cC9 := f9.cell cC
      go_wp2_with (first | (refine wpList_store_new rowTy (wanted_none rfl _) _ _ rfl rfl rfl rfl zeroRow_ok ?_) | (refine wpList_load_R rowTy (by go_simp) _ rfl rfl hrx9 ?_))
      refine (has_any (HR.out.fut (hG.out.trans f9)) x X.out).mono ?_
      rintro e w10 ⟨rfl, f10⟩
      have HG := Lib.hid (hG.out.trans (f9.trans f10))
      have cCx := f10.cell cC9
      clear f9 f8 f10 hrx9 cC9 cC hG
      generalize decide (x ∈ xs) = dx
      have hxw : IntKind.i64.wrap ((xs.length : Int) + 1) = (xs.length : Int) + 1 := by rw [IntKind.wrap_i64]; omega
      have hdx : (dx != dx) = false := by simp
      have cCy := fun o => (Fut.alloc w10 o).cell cCx
      go_wp2_with fail
      have f11 := Fut.alloc w10 (.cells #[Value.int .i64 0] 3)
      have hK0 := heap_alloc_new w10 (.cells #[Value.int .i64 0] 3)
      have hs11 : (w10.alloc (.cells #[Value.int .i64 0] 3)).heap.size = w10.heap.size + 1 := by simp
      obtain ⟨w11, hW⟩ : ∃ W, w10.alloc (.cells #[Value.int .i64 0] 3) = W := ⟨_, rfl⟩
      rw [hW] at f11 hK0 hs11 ⊢
      clear hW cCy hdx
      refine (range_any (some ⟨b, 0, none⟩) (-1) ((xs.length : Int) + 1) w11).mono ?_
      rintro e wl ⟨lb, rfl, hsq, f12⟩
      have HS := Lib.hid hsq
      have FL := Lib.hid (HG.out.trans (f11.trans f12))
      have HK0 := Lib.hid (f12.block hK0)
      have cCl := f12.cell (f11.cell cCx)
      have hl10 : w10.heap.size < wl.heap.size := by have := f12.size; omega
      have hl6 : w6.heap.size ≤ w10.heap.size := HG.out.size
      clear hsq f11 f12 hK0 HG cCx
      have hN : hiS xs ((xs.length : Int) + 1) - loS (-1) = xs.length := by simp [hiS, loS]
      have HI0 := Lib.hid (show ∀ k (hk : k < xs.length), spanArgs xs (-1) k = #[.int .i64 (k : Int), Rw.val xs[k]] from fun k hk => by
        simp [spanArgs, loS, List.getD, hk])
      go_wp2_with fail
      refine wp_range (N := hiS xs ((xs.length : Int) + 1) - loS (-1)) (args := spanArgs xs (-1)) rfl (enters_of Try.func35 (by kernel_rfl) rfl) (fun W hf => range_iter (HR.out.fut (FL.out.trans hf)) (by omega) (-1) _ lb (HS.out.fut hf)) (fun k hk => rfl)
        (fun s k W => W.heap[w10.heap.size]? = some (.cells #[.int .i64 (k : Int)] 3 (0, 0)) ∧ Only (fun j => j = w10.heap.size) wl W)
        (fun _ _ _ => False) ?hIf ?hI ?hIx ?h0 ?hbody ?hdone ?hstop
      case hIf => rintro s k W W' hf ⟨h3, h4⟩; exact ⟨hf.block h3, h4.trans (Only.fut hf)⟩
      case hI =>
        rintro s k W l o hl1 hl2 hs ⟨h3, h4⟩
        have OP : Only (fun j => j = l) W (W.putObj l o) := Only.put _ _ rfl
        exact ⟨OP.keeps h3 (by show ¬ w10.heap.size = l; omega), h4.then OP fun j hj hlt => by omega⟩
      case hIx => exact fun _ _ _ _ _ _ _ _ h => h
      case h0 =>
        intro w12 hf hs
        exact ⟨hf.block HK0.out, Only.fut hf⟩
      case hbody =>
        rintro l s k W hl1 hl2 hs hsW hk ⟨h3, h4⟩ hrec
        have hkx : k < xs.length := by omega
        rw [HI0.out k hkx]
        obtain ⟨gb, off, rfl, hrk⟩ := rows_at (HO.out.fut RR.stays FL.out) hkx
        have hgb : gb < w6.heap.size := by
          obtain ⟨gb', off', e, hrk'⟩ := rows_at HO.out hkx
          injection e with e
          injection e with e1 e2
          subst e1
          exact lt_of_cell (hrk'.get (k := 0) (by omega))
        generalize xs[k] = y at hrk
        have hyo := hrk.1
        obtain ⟨rr, hrr⟩ := hrec
        have e1 : (0 : Int) ≤ k ∧ (k : Int) < xs.length := by omega
        have e2 : ¬ (xs.length : Int) ≤ k := by omega
        have e3 : IntKind.i64.wrap ((k : Int) + 1) = ((k + 1 : Nat) : Int) := by rw [IntKind.wrap_i64]; omega
        gi_wp2_with (first | (refine wpListIn_store_new (round_fn l) rowTy (wanted_none rfl _) _ _ rfl rfl rfl rfl hyo ?_))
        refine ⟨Mid.of_fut (Fut.alloc _ _) hsW, fun o => ?_⟩
        have OP : Only (fun j => j = l) W ((W.alloc (.cells (Rw.cells y).toArray 32)).putObj l o) := (Only.fut (Fut.alloc _ _)).trans (Only.put _ _ rfl)
        have hr5 : RowAt ((W.alloc (.cells (Rw.cells y).toArray 32)).putObj l o) W.heap.size 0 y := (RowAt.new W 32 hyo).only (Only.put (S := fun j => j = l) l o rfl) (by omega)
        have hsP : W.heap.size < ((W.alloc (.cells (Rw.cells y).toArray 32)).putObj l o).heap.size := by rw [World.putObj_size]; simp
        obtain ⟨Wp, hWp⟩ : ∃ x, (W.alloc (.cells (Rw.cells y).toArray 32)).putObj l o = x := ⟨_, rfl⟩
        rw [hWp] at OP hr5 hsP ⊢
        clear hWp hrr
        replace h3 := OP.keeps h3 (by show ¬ w10.heap.size = l; omega)
        replace h4 := h4.then OP fun j hj hlt => by omega
        have ck := cell_at h3 0 _ rfl
        have cC := h4.cell cCl (by show ¬ w5.heap.size = w10.heap.size; omega)
        replace hrk := hrk.only h4 (by omega)
        gi_wp2_with fail
        refine wpIn_graph 17 [.d, .d, .d, .d, .d, .d, .d, .d, .d, .d, .d, .d, .d, .d, .d, .d, .d] (by kernel_rfl) (by kernel_rfl) (by kernel_rfl) (by kernel_rfl) ?_
        simp only [List.take_succ_cons, List.take_zero, List.drop_succ_cons, List.drop_zero, Exs]
        iterate 17 apply Exists.intro
        apply Run.valG (wanted_none rfl _)
        · intro w1 h1 hk
          have q0 := h1.cell ck; have q1 := h1.cell cC; have hg := (Fut.drew _).trans h1
          have hcw := fun b o => Below.cell (p := ⟨b, o, none⟩) h1
          go_simp; rfl
        simp only [Act.put, List.setIfInBounds_toArray, List.set_cons_succ, List.set_cons_zero, List.nil_append, List.cons_append]
        apply Run.valG (wanted_none rfl _)
        · intro w1 h1 hk
          have q0 := h1.cell ck; have q1 := h1.cell cC; have hg := (Fut.drew _).trans h1
          have hcw := fun b o => Below.cell (p := ⟨b, o, none⟩) h1
          go_simp; rfl
        simp only [Act.put, List.setIfInBounds_toArray, List.set_cons_succ, List.set_cons_zero, List.nil_append, List.cons_append]
        apply Run.valG (wanted_none rfl _)
        · intro w1 h1 hk
          have q0 := h1.cell ck; have q1 := h1.cell cC; have hg := (Fut.drew _).trans h1
          have hcw := fun b o => Below.cell (p := ⟨b, o, none⟩) h1
          go_simp; rfl
        simp only [Act.put, List.setIfInBounds_toArray, List.set_cons_succ, List.set_cons_zero, List.nil_append, List.cons_append]
        apply Run.valG (wanted_none rfl _)
        · intro w1 h1 hk
          have q0 := h1.cell ck; have q1 := h1.cell cC; have hg := (Fut.drew _).trans h1
          have hcw := fun b o => Below.cell (p := ⟨b, o, none⟩) h1
          go_simp; rfl
        simp only [Act.put, List.setIfInBounds_toArray, List.set_cons_succ, List.set_cons_zero, List.nil_append, List.cons_append]
        apply Run.valG (wanted_none rfl _)
        · intro w1 h1 hk
          have q0 := h1.cell ck; have q1 := h1.cell cC; have hg := (Fut.drew _).trans h1
          have hcw := fun b o => Below.cell (p := ⟨b, o, none⟩) h1
          go_simp; rfl
        simp only [Act.put, List.setIfInBounds_toArray, List.set_cons_succ, List.set_cons_zero, List.nil_append, List.cons_append]
        apply Run.valG (by go_simp)
        · intro w1 h1 hk
          have q0 := h1.cell ck; have q1 := h1.cell cC; have hg := (Fut.drew _).trans h1
          have hcw := fun b o => Below.cell (p := ⟨b, o, none⟩) h1
          go_simp; rfl
        simp only [Act.put, List.setIfInBounds_toArray, List.set_cons_succ, List.set_cons_zero, List.nil_append, List.cons_append]
        apply Run.valG (by go_simp)
        · intro w1 h1 hk
          have q0 := h1.cell ck; have q1 := h1.cell cC; have hg := (Fut.drew _).trans h1
          have hcw := fun b o => Below.cell (p := ⟨b, o, none⟩) h1
          go_simp; rfl
        simp only [Act.put, List.setIfInBounds_toArray, List.set_cons_succ, List.set_cons_zero, List.nil_append, List.cons_append]
        apply Run.valG (by go_simp)
        · intro w1 h1 hk
          have q0 := h1.cell ck; have q1 := h1.cell cC; have hg := (Fut.drew _).trans h1
          have hcw := fun b o => Below.cell (p := ⟨b, o, none⟩) h1
          go_simp; rfl
        simp only [Act.put, List.setIfInBounds_toArray, List.set_cons_succ, List.set_cons_zero, List.nil_append, List.cons_append]
        apply Run.valG (wanted_none rfl _)
        · intro w1 h1 hk
          have q0 := h1.cell ck; have q1 := h1.cell cC; have hg := (Fut.drew _).trans h1
          have hcw := fun b o => Below.cell (p := ⟨b, o, none⟩) h1
          go_simp; rfl
        simp only [Act.put, List.setIfInBounds_toArray, List.set_cons_succ, List.set_cons_zero, List.nil_append, List.cons_append]
        apply Run.valG (wanted_none rfl _)
        · intro w1 h1 hk
          have q0 := h1.cell ck; have q1 := h1.cell cC; have hg := (Fut.drew _).trans h1
          have hcw := fun b o => Below.cell (p := ⟨b, o, none⟩) h1
          go_simp; rfl
        simp only [Act.put, List.setIfInBounds_toArray, List.set_cons_succ, List.set_cons_zero, List.nil_append, List.cons_append]
        apply Run.valG (by go_simp)
        · intro w1 h1 hk
          have q0 := h1.cell ck; have q1 := h1.cell cC; have hg := (Fut.drew _).trans h1
          have hcw := fun b o => Below.cell (p := ⟨b, o, none⟩) h1
          exact exec_load_R rowTy _ rfl rfl (hr5.fut hg)
        simp only [Act.put, List.setIfInBounds_toArray, List.set_cons_succ, List.set_cons_zero, List.nil_append, List.cons_append]
        apply Run.valG (by go_simp)
        · intro w1 h1 hk
          have q0 := h1.cell ck; have q1 := h1.cell cC; have hg := (Fut.drew _).trans h1
          have hcw := fun b o => Below.cell (p := ⟨b, o, none⟩) h1
          go_simp; rfl
        simp only [Act.put, List.setIfInBounds_toArray, List.set_cons_succ, List.set_cons_zero, List.nil_append, List.cons_append]
        apply Run.valG (by go_simp)
        · intro w1 h1 hk
          have q0 := h1.cell ck; have q1 := h1.cell cC; have hg := (Fut.drew _).trans h1
          have hcw := fun b o => Below.cell (p := ⟨b, o, none⟩) h1
          go_simp; rfl
        simp only [Act.put, List.setIfInBounds_toArray, List.set_cons_succ, List.set_cons_zero, List.nil_append, List.cons_append]
        apply Run.valG (by go_simp)
        · intro w1 h1 hk
          have q0 := h1.cell ck; have q1 := h1.cell cC; have hg := (Fut.drew _).trans h1
          have hcw := fun b o => Below.cell (p := ⟨b, o, none⟩) h1
          go_simp; rfl
        simp only [Act.put, List.setIfInBounds_toArray, List.set_cons_succ, List.set_cons_zero, List.nil_append, List.cons_append]
        apply Run.valG (by go_simp)
        · intro w1 h1 hk
          have q0 := h1.cell ck; have q1 := h1.cell cC; have hg := (Fut.drew _).trans h1
          have hcw := fun b o => Below.cell (p := ⟨b, o, none⟩) h1
          exact exec_load_R rowTy _ rfl rfl (hrk.fut hg)
        simp only [Act.put, List.setIfInBounds_toArray, List.set_cons_succ, List.set_cons_zero, List.nil_append, List.cons_append]
        apply Run.valG (by go_simp)
        · intro w1 h1 hk
          have q0 := h1.cell ck; have q1 := h1.cell cC; have hg := (Fut.drew _).trans h1
          have hcw := fun b o => Below.cell (p := ⟨b, o, none⟩) h1
          exact exec_neq_R rowTy noGuard _ _ _ rfl rfl rfl hyo hyo
        simp only [Act.put, List.setIfInBounds_toArray, List.set_cons_succ, List.set_cons_zero, List.nil_append, List.cons_append]
        apply Run.valG (wanted_none rfl _)
        · intro w1 h1 hk
          have q0 := h1.cell ck; have q1 := h1.cell cC; have hg := (Fut.drew _).trans h1
          have hcw := fun b o => Below.cell (p := ⟨b, o, none⟩) h1
          go_simp; rfl
        simp only [Act.put, List.setIfInBounds_toArray, List.set_cons_succ, List.set_cons_zero, List.nil_append, List.cons_append]
        apply Run.done
        intro wa ha hk
        clear hk
        have Fa := (Fut.drew _).trans ha
        have ba := Fa.block h3
        have ca := cell_at ba 0 _ rfl
        have za := free_at ba 0
        have hs3 := Fa.size
        gi_wp2
        have OS : Only (fun j => j = w10.heap.size) wa (wa.setCell ⟨w10.heap.size, 0, none⟩ (.int .i64 ((k + 1 : Nat) : Int))) := Only.set _ _ rfl
        refine ⟨⟨Nat.le_trans hs3 OS.size, fun j hj1 hj2 => ?_⟩, set_blk ba, (h4.trans (Only.fut Fa)).trans OS⟩
        exact (OS.block j (by omega) (by omega)).trans (Below.block Fa j (by omega))
      case hdone =>
        rintro s W hs ⟨h3, h4⟩ hK
        rw [hN] at h3
        have ck := cell_at h3 0 _ rfl
        have cC := h4.cell cCl (by show ¬ w5.heap.size = w10.heap.size; omega)
        have FW := ((Only.fut FL.out).trans (h4.mono (S' := fun j => w6.heap.size ≤ j) fun j _ hj => by omega)).toFut fun j hj => hj
        have hlW : wl.heap.size < W.heap.size := (Array.getElem?_eq_some_iff.1 hK).1
        go_wp2_with fail
        refine (sorted_any (HR.out.fut FW) (by omega)).mono ?_
        rintro e ws ⟨sv, ys, rfl, hp, hsd, hr, fs⟩
        have hyl : ys.length = xs.length := hp.length_eq
        have hynd : ys.Nodup := hp.nodup_iff.2 hnd
        have HS2 := Lib.hid hr
        obtain ⟨As, caps, rfl, hcs1, hcs2⟩ := hr.form
        rw [hyl] at hcs1 HS2 ⊢
        have cks := fs.cell ck
        have cCs := fs.cell cC
        have HKs := Lib.hid (fs.block hK)
        have HFs := Lib.hid (FW.trans fs)
        have hsW := fs.size
        clear hr fs FW ck cC h3 h4 hK
        go_wp2
        go_loopw [20] (fun i wr => ∃ k : Nat, k ≤ xs.length ∧ i = .int .i64 k ∧ Hid (Fut ws wr)) (fun i _ => xs.length - (intOf i).toNat)
        case atStart => exact ⟨0, Nat.zero_le _, rfl, Lib.hid (Fut.refl _)⟩
        case round =>
          obtain ⟨k, hk, rfl, hG⟩ := hrel
          by_cases hlt : k < xs.length
          · have hky : k < ys.length := by omega
            have e1 : (0 : Int) ≤ k ∧ (k : Int) < xs.length := by omega
            have hltI : (k : Int) < xs.length := by omega
            have hyx : ys[k] ∈ xs := hp.mem_iff.1 (List.getElem_mem hky)
            have HRg := Lib.hid (HR.out.fut (HFs.out.trans hG.out))
            obtain ⟨gs, offs, rfl, hrk⟩ := rows_at (HS2.out.fut RR.stays hG.out) hky
            have hyo := hrk.1
            by_cases h0 : k = 0
            · subst h0
              generalize ys[0] = y at hrk hyo hyx
              go_wp2_with fail
              refine wp_graph 24 [.d, .d, .d, .d, .d, .d, .d, .d, .d, .d, .d, .d, .d, .d, .d, .d, .d, .d, .d, .d, .d, .d, .d, .d] (by kernel_rfl) (by kernel_rfl) (by kernel_rfl) ?_
              simp only [List.take_succ_cons, List.take_zero, List.drop_succ_cons, List.drop_zero, Exs]
              iterate 24 apply Exists.intro
              apply Run.valG (wanted_none rfl _)
              · intro w1 h1 hk
                have hg := (Fut.drew _).trans h1
                have hcw := fun b o => Below.cell (p := ⟨b, o, none⟩) h1
                go_simp; rfl
              simp only [Act.put, List.setIfInBounds_toArray, List.set_cons_succ, List.set_cons_zero, List.nil_append, List.cons_append]
              apply Run.valG (wanted_none rfl _)
              · intro w1 h1 hk
                have hg := (Fut.drew _).trans h1
                have hcw := fun b o => Below.cell (p := ⟨b, o, none⟩) h1
                go_simp; rfl
              simp only [Act.put, List.setIfInBounds_toArray, List.set_cons_succ, List.set_cons_zero, List.nil_append, List.cons_append]
              apply Run.valG (wanted_none rfl _)
              · intro w1 h1 hk
                have hg := (Fut.drew _).trans h1
                have hcw := fun b o => Below.cell (p := ⟨b, o, none⟩) h1
                go_simp; rfl
              simp only [Act.put, List.setIfInBounds_toArray, List.set_cons_succ, List.set_cons_zero, List.nil_append, List.cons_append]
              apply Run.valG (wanted_none rfl _)
              · intro w1 h1 hk
                have hg := (Fut.drew _).trans h1
                have hcw := fun b o => Below.cell (p := ⟨b, o, none⟩) h1
                go_simp; rfl
              simp only [Act.put, List.setIfInBounds_toArray, List.set_cons_succ, List.set_cons_zero, List.nil_append, List.cons_append]
              apply Run.valG (wanted_none rfl _)
              · intro w1 h1 hk
                have hg := (Fut.drew _).trans h1
                have hcw := fun b o => Below.cell (p := ⟨b, o, none⟩) h1
                exact exec_load_R rowTy _ rfl rfl (hrk.fut hg)
              simp only [Act.put, List.setIfInBounds_toArray, List.set_cons_succ, List.set_cons_zero, List.nil_append, List.cons_append]
              apply Run.call (wanted_none rfl _) (fun _ _ => by go_simp; exact ⟨rfl, rfl⟩)
              · intro w1 h1 hk
                have hg := (Fut.drew _).trans h1
                refine (has_any (HRg.out.fut hg) y hyo).mono ?_; rintro e w' ⟨rfl, hf⟩; rw [decide_eq_true hyx]; exact ⟨rfl, hf⟩
              simp only [Act.put, List.setIfInBounds_toArray, List.set_cons_succ, List.set_cons_zero, List.nil_append, List.cons_append]
              apply Run.valG (wanted_none rfl _)
              · intro w1 h1 hk
                have hg := (Fut.drew _).trans h1
                have hcw := fun b o => Below.cell (p := ⟨b, o, none⟩) h1
                go_simp; rfl
              simp only [Act.put, List.setIfInBounds_toArray, List.set_cons_succ, List.set_cons_zero, List.nil_append, List.cons_append]
              apply Run.valG (wanted_none rfl _)
              · intro w1 h1 hk
                have hg := (Fut.drew _).trans h1
                have hcw := fun b o => Below.cell (p := ⟨b, o, none⟩) h1
                go_simp; rfl
              simp only [Act.put, List.setIfInBounds_toArray, List.set_cons_succ, List.set_cons_zero, List.nil_append, List.cons_append]
              apply Run.valG (by go_simp)
              · intro w1 h1 hk
                have hg := (Fut.drew _).trans h1
                have hcw := fun b o => Below.cell (p := ⟨b, o, none⟩) h1
                go_simp; rfl
              simp only [Act.put, List.setIfInBounds_toArray, List.set_cons_succ, List.set_cons_zero, List.nil_append, List.cons_append]
              apply Run.valG (by go_simp)
              · intro w1 h1 hk
                have hg := (Fut.drew _).trans h1
                have hcw := fun b o => Below.cell (p := ⟨b, o, none⟩) h1
                go_simp; rfl
              simp only [Act.put, List.setIfInBounds_toArray, List.set_cons_succ, List.set_cons_zero, List.nil_append, List.cons_append]
              apply Run.valG (by go_simp)
              · intro w1 h1 hk
                have hg := (Fut.drew _).trans h1
                have hcw := fun b o => Below.cell (p := ⟨b, o, none⟩) h1
                go_simp; rfl
              simp only [Act.put, List.setIfInBounds_toArray, List.set_cons_succ, List.set_cons_zero, List.nil_append, List.cons_append]
              apply Run.skip (by go_simp)
              simp only [Act.put, List.setIfInBounds_toArray, List.set_cons_succ, List.set_cons_zero, List.nil_append, List.cons_append]
              apply Run.skip (by go_simp)
              simp only [Act.put, List.setIfInBounds_toArray, List.set_cons_succ, List.set_cons_zero, List.nil_append, List.cons_append]
              apply Run.skip (by go_simp)
              simp only [Act.put, List.setIfInBounds_toArray, List.set_cons_succ, List.set_cons_zero, List.nil_append, List.cons_append]
              apply Run.skip (by go_simp)
              simp only [Act.put, List.setIfInBounds_toArray, List.set_cons_succ, List.set_cons_zero, List.nil_append, List.cons_append]
              apply Run.skip (by go_simp)
              simp only [Act.put, List.setIfInBounds_toArray, List.set_cons_succ, List.set_cons_zero, List.nil_append, List.cons_append]
              apply Run.skip (by go_simp)
              simp only [Act.put, List.setIfInBounds_toArray, List.set_cons_succ, List.set_cons_zero, List.nil_append, List.cons_append]
              apply Run.skip (by go_simp)
              simp only [Act.put, List.setIfInBounds_toArray, List.set_cons_succ, List.set_cons_zero, List.nil_append, List.cons_append]
              apply Run.skip (by go_simp)
              simp only [Act.put, List.setIfInBounds_toArray, List.set_cons_succ, List.set_cons_zero, List.nil_append, List.cons_append]
              apply Run.skip (by go_simp)
              simp only [Act.put, List.setIfInBounds_toArray, List.set_cons_succ, List.set_cons_zero, List.nil_append, List.cons_append]
              apply Run.skip (by go_simp)
              simp only [Act.put, List.setIfInBounds_toArray, List.set_cons_succ, List.set_cons_zero, List.nil_append, List.cons_append]
              apply Run.skip (by go_simp)
              simp only [Act.put, List.setIfInBounds_toArray, List.set_cons_succ, List.set_cons_zero, List.nil_append, List.cons_append]
              apply Run.valG (by go_simp)
              · intro w1 h1 hk
                have hg := (Fut.drew _).trans h1
                have hcw := fun b o => Below.cell (p := ⟨b, o, none⟩) h1
                go_simp; rfl
              simp only [Act.put, List.setIfInBounds_toArray, List.set_cons_succ, List.set_cons_zero, List.nil_append, List.cons_append]
              apply Run.valG (wanted_none rfl _)
              · intro w1 h1 hk
                have hg := (Fut.drew _).trans h1
                have hcw := fun b o => Below.cell (p := ⟨b, o, none⟩) h1
                go_simp; rfl
              simp only [Act.put, List.setIfInBounds_toArray, List.set_cons_succ, List.set_cons_zero, List.nil_append, List.cons_append]
              apply Run.done
              intro wa ha hk
              clear hk
              go_wp2
              go_roundw
              case rel => exact ⟨1, by omega, by go_num, Lib.hid (hG.out.trans ((Fut.drew _).trans ha))⟩
              case measure => simp [intOf] <;> omega
            · obtain ⟨q, hq⟩ : ∃ q, k = q + 1 := ⟨k - 1, by omega⟩
              have hqy : q < ys.length := by omega
              obtain ⟨gs', offs', hgs, hrq⟩ := rows_at (HS2.out.fut RR.stays hG.out) hqy
              injection hgs with hgs
              injection hgs with hg1 hg2
              subst hg1 hg2
              have hzo := hrq.1
              have hlt2 : cmpR ys[q] ys[k] < 0 := by
                have h1 := List.pairwise_iff_getElem.1 hsd q k hqy hky (by omega)
                have h2 := List.pairwise_iff_getElem.1 hynd q k hqy hky (by omega)
                have h3 := ordR.swap ys[q] ys[k]
                have h4 : ¬ cmpR ys[q] ys[k] = 0 := fun h => h2 ((ordR.zero _ _).1 h)
                omega
              have e4 : IntKind.i64.wrap ((k : Int) - 1) = (q : Int) := by rw [IntKind.wrap_i64]; omega
              have e5 : (0 : Int) ≤ q ∧ (q : Int) < xs.length := by omega
              have e6 : (0 : Int) < k := by omega
              have e7 : 0 < k := by omega
              clear hq
              generalize ys[k] = y at hrk hyo hyx hlt2
              generalize ys[q] = z at hrq hzo hlt2
              go_wp2_with fail
              refine wp_graph 24 [.d, .d, .d, .d, .d, .d, .d, .d, .d, .d, .d, .d, .d, .d, .d, .d, .d, .d, .d, .d, .d, .d, .d, .d] (by kernel_rfl) (by kernel_rfl) (by kernel_rfl) ?_
              simp only [List.take_succ_cons, List.take_zero, List.drop_succ_cons, List.drop_zero, Exs]
              iterate 24 apply Exists.intro
              apply Run.valG (wanted_none rfl _)
              · intro w1 h1 hk
                have hg := (Fut.drew _).trans h1
                have hcw := fun b o => Below.cell (p := ⟨b, o, none⟩) h1
                go_simp; rfl
              simp only [Act.put, List.setIfInBounds_toArray, List.set_cons_succ, List.set_cons_zero, List.nil_append, List.cons_append]
              apply Run.valG (wanted_none rfl _)
              · intro w1 h1 hk
                have hg := (Fut.drew _).trans h1
                have hcw := fun b o => Below.cell (p := ⟨b, o, none⟩) h1
                go_simp; rfl
              simp only [Act.put, List.setIfInBounds_toArray, List.set_cons_succ, List.set_cons_zero, List.nil_append, List.cons_append]
              apply Run.valG (wanted_none rfl _)
              · intro w1 h1 hk
                have hg := (Fut.drew _).trans h1
                have hcw := fun b o => Below.cell (p := ⟨b, o, none⟩) h1
                go_simp; rfl
              simp only [Act.put, List.setIfInBounds_toArray, List.set_cons_succ, List.set_cons_zero, List.nil_append, List.cons_append]
              apply Run.valG (wanted_none rfl _)
              · intro w1 h1 hk
                have hg := (Fut.drew _).trans h1
                have hcw := fun b o => Below.cell (p := ⟨b, o, none⟩) h1
                go_simp; rfl
              simp only [Act.put, List.setIfInBounds_toArray, List.set_cons_succ, List.set_cons_zero, List.nil_append, List.cons_append]
              apply Run.valG (wanted_none rfl _)
              · intro w1 h1 hk
                have hg := (Fut.drew _).trans h1
                have hcw := fun b o => Below.cell (p := ⟨b, o, none⟩) h1
                exact exec_load_R rowTy _ rfl rfl (hrk.fut hg)
              simp only [Act.put, List.setIfInBounds_toArray, List.set_cons_succ, List.set_cons_zero, List.nil_append, List.cons_append]
              apply Run.call (wanted_none rfl _) (fun _ _ => by go_simp; exact ⟨rfl, rfl⟩)
              · intro w1 h1 hk
                have hg := (Fut.drew _).trans h1
                refine (has_any (HRg.out.fut hg) y hyo).mono ?_; rintro e w' ⟨rfl, hf⟩; rw [decide_eq_true hyx]; exact ⟨rfl, hf⟩
              simp only [Act.put, List.setIfInBounds_toArray, List.set_cons_succ, List.set_cons_zero, List.nil_append, List.cons_append]
              apply Run.valG (wanted_none rfl _)
              · intro w1 h1 hk
                have hg := (Fut.drew _).trans h1
                have hcw := fun b o => Below.cell (p := ⟨b, o, none⟩) h1
                go_simp; rfl
              simp only [Act.put, List.setIfInBounds_toArray, List.set_cons_succ, List.set_cons_zero, List.nil_append, List.cons_append]
              apply Run.valG (wanted_none rfl _)
              · intro w1 h1 hk
                have hg := (Fut.drew _).trans h1
                have hcw := fun b o => Below.cell (p := ⟨b, o, none⟩) h1
                go_simp; rfl
              simp only [Act.put, List.setIfInBounds_toArray, List.set_cons_succ, List.set_cons_zero, List.nil_append, List.cons_append]
              apply Run.valG (by go_simp)
              · intro w1 h1 hk
                have hg := (Fut.drew _).trans h1
                have hcw := fun b o => Below.cell (p := ⟨b, o, none⟩) h1
                go_simp; rfl
              simp only [Act.put, List.setIfInBounds_toArray, List.set_cons_succ, List.set_cons_zero, List.nil_append, List.cons_append]
              apply Run.valG (by go_simp)
              · intro w1 h1 hk
                have hg := (Fut.drew _).trans h1
                have hcw := fun b o => Below.cell (p := ⟨b, o, none⟩) h1
                go_simp; rfl
              simp only [Act.put, List.setIfInBounds_toArray, List.set_cons_succ, List.set_cons_zero, List.nil_append, List.cons_append]
              apply Run.valG (by go_simp)
              · intro w1 h1 hk
                have hg := (Fut.drew _).trans h1
                have hcw := fun b o => Below.cell (p := ⟨b, o, none⟩) h1
                go_simp; rfl
              simp only [Act.put, List.setIfInBounds_toArray, List.set_cons_succ, List.set_cons_zero, List.nil_append, List.cons_append]
              apply Run.valG (by go_simp)
              · intro w1 h1 hk
                have hg := (Fut.drew _).trans h1
                have hcw := fun b o => Below.cell (p := ⟨b, o, none⟩) h1
                go_simp; rfl
              simp only [Act.put, List.setIfInBounds_toArray, List.set_cons_succ, List.set_cons_zero, List.nil_append, List.cons_append]
              apply Run.valG (by go_simp)
              · intro w1 h1 hk
                have hg := (Fut.drew _).trans h1
                have hcw := fun b o => Below.cell (p := ⟨b, o, none⟩) h1
                go_simp; rfl
              simp only [Act.put, List.setIfInBounds_toArray, List.set_cons_succ, List.set_cons_zero, List.nil_append, List.cons_append]
              apply Run.valG (by go_simp)
              · intro w1 h1 hk
                have hg := (Fut.drew _).trans h1
                have hcw := fun b o => Below.cell (p := ⟨b, o, none⟩) h1
                go_simp; rfl
              simp only [Act.put, List.setIfInBounds_toArray, List.set_cons_succ, List.set_cons_zero, List.nil_append, List.cons_append]
              apply Run.valG (by go_simp)
              · intro w1 h1 hk
                have hg := (Fut.drew _).trans h1
                have hcw := fun b o => Below.cell (p := ⟨b, o, none⟩) h1
                go_simp; rfl
              simp only [Act.put, List.setIfInBounds_toArray, List.set_cons_succ, List.set_cons_zero, List.nil_append, List.cons_append]
              apply Run.valG (by go_simp)
              · intro w1 h1 hk
                have hg := (Fut.drew _).trans h1
                have hcw := fun b o => Below.cell (p := ⟨b, o, none⟩) h1
                exact exec_load_R rowTy _ rfl rfl (hrq.fut hg)
              simp only [Act.put, List.setIfInBounds_toArray, List.set_cons_succ, List.set_cons_zero, List.nil_append, List.cons_append]
              apply Run.valG (by go_simp)
              · intro w1 h1 hk
                have hg := (Fut.drew _).trans h1
                have hcw := fun b o => Below.cell (p := ⟨b, o, none⟩) h1
                go_simp; rfl
              simp only [Act.put, List.setIfInBounds_toArray, List.set_cons_succ, List.set_cons_zero, List.nil_append, List.cons_append]
              apply Run.valG (by go_simp)
              · intro w1 h1 hk
                have hg := (Fut.drew _).trans h1
                have hcw := fun b o => Below.cell (p := ⟨b, o, none⟩) h1
                go_simp; rfl
              simp only [Act.put, List.setIfInBounds_toArray, List.set_cons_succ, List.set_cons_zero, List.nil_append, List.cons_append]
              apply Run.valG (by go_simp)
              · intro w1 h1 hk
                have hg := (Fut.drew _).trans h1
                have hcw := fun b o => Below.cell (p := ⟨b, o, none⟩) h1
                go_simp; rfl
              simp only [Act.put, List.setIfInBounds_toArray, List.set_cons_succ, List.set_cons_zero, List.nil_append, List.cons_append]
              apply Run.valG (by go_simp)
              · intro w1 h1 hk
                have hg := (Fut.drew _).trans h1
                have hcw := fun b o => Below.cell (p := ⟨b, o, none⟩) h1
                exact exec_load_R rowTy _ rfl rfl (hrk.fut hg)
              simp only [Act.put, List.setIfInBounds_toArray, List.set_cons_succ, List.set_cons_zero, List.nil_append, List.cons_append]
              apply Run.call (by go_simp) (fun _ _ => by go_simp; exact ⟨rfl, rfl⟩)
              · intro w1 h1 hk
                have hg := (Fut.drew _).trans h1
                refine (below_any z y _ hzo hyo).mono ?_; rintro e w' ⟨rfl, hf⟩; rw [decide_eq_true hlt2]; exact ⟨rfl, hf⟩
              simp only [Act.put, List.setIfInBounds_toArray, List.set_cons_succ, List.set_cons_zero, List.nil_append, List.cons_append]
              apply Run.valG (by go_simp)
              · intro w1 h1 hk
                have hg := (Fut.drew _).trans h1
                have hcw := fun b o => Below.cell (p := ⟨b, o, none⟩) h1
                go_simp; rfl
              simp only [Act.put, List.setIfInBounds_toArray, List.set_cons_succ, List.set_cons_zero, List.nil_append, List.cons_append]
              apply Run.valG (by go_simp)
              · intro w1 h1 hk
                have hg := (Fut.drew _).trans h1
                have hcw := fun b o => Below.cell (p := ⟨b, o, none⟩) h1
                go_simp; rfl
              simp only [Act.put, List.setIfInBounds_toArray, List.set_cons_succ, List.set_cons_zero, List.nil_append, List.cons_append]
              apply Run.valG (wanted_none rfl _)
              · intro w1 h1 hk
                have hg := (Fut.drew _).trans h1
                have hcw := fun b o => Below.cell (p := ⟨b, o, none⟩) h1
                go_simp; rfl
              simp only [Act.put, List.setIfInBounds_toArray, List.set_cons_succ, List.set_cons_zero, List.nil_append, List.cons_append]
              apply Run.done
              intro wa ha hk
              clear hk
              go_wp2
              go_roundw
              case rel => exact ⟨k + 1, by omega, by go_num, Lib.hid (hG.out.trans ((Fut.drew _).trans ha))⟩
              case measure => simp [intOf] <;> omega
          · obtain rfl : k = xs.length := by omega
            have hBr := (HFs.out.trans hG.out).block HB.out
            have cB := cell_at hBr 0 _ rfl
            have zB := free_at hBr 0
            have hKr := hG.out.block HKs.out
            go_wp2
            have OS : Only (fun j => j = w.heap.size + 1) wr (wr.setCell ⟨w.heap.size + 1, 0, none⟩ (Value.bool true)) := Only.set _ _ rfl
            have OP : Only (fun j => j = wl.heap.size) (wr.setCell ⟨w.heap.size + 1, 0, none⟩ (Value.bool true)) ((wr.setCell ⟨w.heap.size + 1, 0, none⟩ (Value.bool true)).putObj wl.heap.size (.deferred none)) := Only.put _ _ rfl
            have hKf := OS.keeps hKr (by show ¬ wl.heap.size = w.heap.size + 1; omega)
            have hBf := OP.keeps (set_blk hBr (i := 0) (v := Value.bool true)) (by show ¬ w.heap.size + 1 = wl.heap.size; omega)
            refine ⟨by simp, .inl ⟨_, _, rfl, run_takeDeferred hKf, ?_⟩⟩
            have FE := (((Only.fut (HF.out.trans (HFs.out.trans hG.out))).trans (OS.mono (S' := fun j => w.heap.size ≤ j) fun j _ hj => by omega)).trans (OP.mono (S' := fun j => w.heap.size ≤ j) fun j _ hj => by omega)).toFut fun j hj => hj
            exact ⟨_, results_cellB rfl rfl (cell_at hBf 0 _ rfl), rfl, FE⟩
      case hstop => exact fun _ _ _ _ h _ => h.elim
end Go.Proofs.Ytcekphjcmippoaa
