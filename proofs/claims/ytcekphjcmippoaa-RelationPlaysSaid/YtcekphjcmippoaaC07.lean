/- RefB, RefC, Bits, RelO, RelK, RowIn -/
import Derived.Laws.BitsLemmas
import Derived.Lib.SliceRun
import Derived.OwnWalkIn
import Derived.TacticsInMore
import Derived.Test.YtcekphjcmippoaaC06
/- The document's relation: place, Has, At, Add, Remove. -/
namespace Go.Proofs.Ytcekphjcmippoaa
open Go.RowKit Go.WideMaps
set_option linter.unusedSimpArgs false
set_option linter.unusedVariables false

def posL (xs : List Rw) (x : Rw) : Int := if x ∈ xs then ((xs.idxOf x : Nat) : Int) else -1
theorem idxOf_le {x : Rw} : ∀ (xs : List Rw) (k : Nat) (h : k < xs.length), xs[k] = x → xs.idxOf x ≤ k
  | [], k, h, _ => absurd h (by simp)
  | a :: r, 0, _, e => by simp at e; subst e; simp
  | a :: r, k + 1, h, e => by
    have := idxOf_le r k (by simpa using h) (by simpa using e)
    rw [List.idxOf_cons]
    cases a == x <;> simp <;> omega
set_option maxHeartbeats 800000 in
set_option maxRecDepth 100000 in
theorem place_any {B : Nat} {w : World} {b : Nat} {v : Value} {ar gone : Nat} {xs : List Rw} (h : RefI B w b v ar gone xs) (hl : xs.length ≤ 1407374883512) (x : Rw) (hx : Rw.ok x) :
    Calls Try.prog 62 #[.pointer (some ⟨b, 0, none⟩), Rw.val x] w fun e w' => e = .returned (.int .i64 (posL xs x)) ∧ Fut w w' := by
  have H := Lib.hid h
  obtain ⟨A, cap, rfl, hcl, hcm⟩ := h.list.rep.form
  have c2 : w.cell? ⟨b, 2, none⟩ = some (.slice A xs.length cap) := cell_at h.blk 2 _ rfl
  clear h
  unfold Rw.val
  go_enter Try.func62, Try.ntmps62
  go_wp2_with fail
  have hrow := RowAt.new w 32 hx
  have F1 := Fut.alloc w (.cells (Rw.cells x).toArray 32)
  obtain ⟨W1, hW⟩ : ∃ W1, w.alloc (.cells (Rw.cells x).toArray 32) = W1 := ⟨_, rfl⟩
  rw [hW] at hrow F1 ⊢
  clear hW
  have HF := Lib.hid F1
  have HRow := Lib.hid hrow
  clear F1 hrow
  go_loopw [5] (fun i wr => ∃ k : Nat, k ≤ xs.length ∧ i = .int .i64 k ∧ x ∉ xs.take k ∧ Hid (Fut W1 wr)) (fun i _ => xs.length - (intOf i).toNat)
  case atStart => exact ⟨0, Nat.zero_le _, rfl, by simp, Lib.hid (Fut.refl _)⟩
  case round =>
    obtain ⟨k, hk, rfl, hnm, hG⟩ := hrel
    have HR := Lib.hid (H.out.fut (HF.out.trans hG.out))
    have c2' := (HF.out.trans hG.out).cell c2
    obtain ⟨wq, hwq⟩ : ∃ x, x = wr := ⟨_, rfl⟩
    subst hwq
    go_wp2_with fail
    refine (rlen_any HR.out).mono ?_
    rintro e w1 ⟨rfl, hw1⟩
    have hw1' := hw1.symm
    subst hw1'
    by_cases hlt : k < xs.length
    · have hltI : (k : Int) < xs.length := by omega
      have e1 : (0 : Int) ≤ k ∧ (k : Int) < xs.length := by omega
      obtain ⟨gb, off, rfl, hrk⟩ := rows_at HR.out.list.rep hlt
      have hrx := HRow.out.fut hG.out
      have htk : xs.take (k + 1) = xs.take k ++ [xs[k]] := List.take_succ_eq_append_getElem hlt
      have hidx : xs[k] = x → xs.idxOf x = k ∧ x ∈ xs := fun e => by
        have hm : x ∈ xs := by rw [← e]; exact List.getElem_mem hlt
        refine ⟨?_, hm⟩
        rcases Nat.lt_trichotomy (xs.idxOf x) k with h | h | h
        · refine absurd ?_ hnm
          have hi : xs.idxOf x < xs.length := by omega
          have : xs[xs.idxOf x] = x := List.getElem_idxOf hi
          rw [← this]
          have h2 := List.getElem_mem (l := xs.take k) (n := xs.idxOf x) (by rw [List.length_take]; omega)
          rwa [List.getElem_take] at h2
        · exact h
        · have := idxOf_le xs k hlt e
          omega
      generalize xs[k] = y at hrk htk hidx
      have hy := hrk.1
      go_wp2_with fail
      refine wp_graph 9 [.d, .d, .d, .d, .d, .d, .d, .d, .d] (by kernel_rfl) (by kernel_rfl) (by kernel_rfl) ?_
      simp only [List.take_succ_cons, List.take_zero, List.drop_succ_cons, List.drop_zero, Exs]
      iterate 9 apply Exists.intro
      apply Run.valG (wanted_none rfl _)
      · intro w1 h1 hk
        have hg := (Fut.drew _).trans h1; have q1 := h1.cell c2'
        have hcw := fun b o => Below.cell (p := ⟨b, o, none⟩) h1
        go_simp; rfl
      simp only [Act.put, List.setIfInBounds_toArray, List.set_cons_succ, List.set_cons_zero, List.nil_append, List.cons_append]
      apply Run.valG (wanted_none rfl _)
      · intro w1 h1 hk
        have hg := (Fut.drew _).trans h1; have q1 := h1.cell c2'
        have hcw := fun b o => Below.cell (p := ⟨b, o, none⟩) h1
        go_simp; rfl
      simp only [Act.put, List.setIfInBounds_toArray, List.set_cons_succ, List.set_cons_zero, List.nil_append, List.cons_append]
      apply Run.valG (wanted_none rfl _)
      · intro w1 h1 hk
        have hg := (Fut.drew _).trans h1; have q1 := h1.cell c2'
        have hcw := fun b o => Below.cell (p := ⟨b, o, none⟩) h1
        go_simp; rfl
      simp only [Act.put, List.setIfInBounds_toArray, List.set_cons_succ, List.set_cons_zero, List.nil_append, List.cons_append]
      apply Run.valG (wanted_none rfl _)
      · intro w1 h1 hk
        have hg := (Fut.drew _).trans h1; have q1 := h1.cell c2'
        have hcw := fun b o => Below.cell (p := ⟨b, o, none⟩) h1
        go_simp; rfl
      simp only [Act.put, List.setIfInBounds_toArray, List.set_cons_succ, List.set_cons_zero, List.nil_append, List.cons_append]
      apply Run.valG (wanted_none rfl _)
      · intro w1 h1 hk
        have hg := (Fut.drew _).trans h1; have q1 := h1.cell c2'
        have hcw := fun b o => Below.cell (p := ⟨b, o, none⟩) h1
        go_simp; rfl
      simp only [Act.put, List.setIfInBounds_toArray, List.set_cons_succ, List.set_cons_zero, List.nil_append, List.cons_append]
      apply Run.valG (wanted_none rfl _)
      · intro w1 h1 hk
        have hg := (Fut.drew _).trans h1; have q1 := h1.cell c2'
        have hcw := fun b o => Below.cell (p := ⟨b, o, none⟩) h1
        go_simp; rfl
      simp only [Act.put, List.setIfInBounds_toArray, List.set_cons_succ, List.set_cons_zero, List.nil_append, List.cons_append]
      apply Run.valG (wanted_none rfl _)
      · intro w1 h1 hk
        have hg := (Fut.drew _).trans h1; have q1 := h1.cell c2'
        have hcw := fun b o => Below.cell (p := ⟨b, o, none⟩) h1
        exact exec_load_R rowTy _ rfl rfl (hrk.fut hg)
      simp only [Act.put, List.setIfInBounds_toArray, List.set_cons_succ, List.set_cons_zero, List.nil_append, List.cons_append]
      apply Run.valG (wanted_none rfl _)
      · intro w1 h1 hk
        have hg := (Fut.drew _).trans h1; have q1 := h1.cell c2'
        have hcw := fun b o => Below.cell (p := ⟨b, o, none⟩) h1
        exact exec_load_R rowTy _ rfl rfl (hrx.fut hg)
      simp only [Act.put, List.setIfInBounds_toArray, List.set_cons_succ, List.set_cons_zero, List.nil_append, List.cons_append]
      apply Run.valG (wanted_none rfl _)
      · intro w1 h1 hk
        have hg := (Fut.drew _).trans h1; have q1 := h1.cell c2'
        have hcw := fun b o => Below.cell (p := ⟨b, o, none⟩) h1
        exact exec_eql_R rowTy noGuard _ _ _ rfl rfl rfl hy hx
      simp only [Act.put, List.setIfInBounds_toArray, List.set_cons_succ, List.set_cons_zero, List.nil_append, List.cons_append]
      apply Run.done
      intro wa ha hk
      clear hk
      have hGa := Lib.hid (hG.out.trans ((Fut.drew _).trans ha))
      by_cases he : y = x
      · rw [decide_eq_true he]
        go_wp2
        go_ret
        obtain ⟨h1, h2⟩ := hidx he
        refine ⟨?_, HF.out.trans hGa.out⟩
        rw [posL, if_pos h2, h1]
        rfl
      · rw [decide_eq_false he]
        go_wp2
        go_roundw
        case rel => exact ⟨k + 1, by omega, by go_num, by rw [htk, List.mem_append, List.mem_singleton]; exact fun h => h.elim hnm fun h => he h.symm, hGa⟩
        case measure => simp [intOf] <;> omega
    · obtain rfl : k = xs.length := by omega
      rw [List.take_length] at hnm
      go_wp2
      go_ret
      refine ⟨?_, HF.out.trans hG.out⟩
      rw [posL, if_neg hnm]
      rfl
set_option maxHeartbeats 400000 in
set_option maxRecDepth 100000 in
theorem place_nil (x : Rw) (w : World) :
    Calls Try.prog 62 #[.pointer none, Rw.val x] w fun e w' => e = .returned (.int .i64 (-1)) ∧ Fut w w' := by
  unfold Rw.val
  go_enter Try.func62, Try.ntmps62
  go_wp2_with fail
  have F1 := Fut.alloc w (.cells (Rw.cells x).toArray 32)
  obtain ⟨W1, hW⟩ : ∃ W1, w.alloc (.cells (Rw.cells x).toArray 32) = W1 := ⟨_, rfl⟩
  rw [hW] at F1 ⊢
  clear hW
  have HF := Lib.hid F1
  go_loopw [5] (fun i wr => i = .int .i64 0 ∧ wr = W1) (fun i _ => 1)
  case atStart => exact ⟨rfl, rfl⟩
  case round =>
    obtain ⟨rfl, rfl⟩ := hrel
    obtain ⟨wq, hwq⟩ : ∃ x, x = wr := ⟨_, rfl⟩
    subst hwq
    go_wp2_with fail
    refine (rlen_nil _).mono ?_
    rintro e w1 ⟨rfl, hw1⟩
    have hw1' := hw1.symm
    subst hw1'
    go_wp2
    go_ret
    exact ⟨rfl, HF.out⟩
theorem has_pos (xs : List Rw) (x : Rw) : decide (0 ≤ posL xs x) = decide (x ∈ xs) := by
  unfold posL
  by_cases h : x ∈ xs <;> simp [h]
set_option maxHeartbeats 400000 in
set_option maxRecDepth 100000 in
theorem rhas_any {B : Nat} {w : World} {b : Nat} {v : Value} {ar gone : Nat} {xs : List Rw} (h : RefI B w b v ar gone xs) (hl : xs.length ≤ 1407374883512) (x : Rw) (hx : Rw.ok x) :
    Calls Try.prog 44 #[.pointer (some ⟨b, 0, none⟩), Rw.val x] w fun e w' => e = .returned (.bool (decide (x ∈ xs))) ∧ Fut w w' := by
  unfold Rw.val
  have hrow := RowAt.new w 32 hx
  have F1 := Fut.alloc w (.cells (Rw.cells x).toArray 32)
  go_enter Try.func44, Try.ntmps44
  go_wp2_with (first | (refine wpList_load_R rowTy (wanted_none rfl _) _ rfl rfl hrow ?_))
  have hg := Fut.refl (w.alloc (.cells (Rw.cells x).toArray 32))
  refine (place_any (h.fut (F1.trans hg)) hl x hx).mono ?_
  rintro e w1 ⟨rfl, hw1⟩
  go_wp2
  go_ret
  exact ⟨by rw [show (decide (x ∈ xs)) = decide (0 ≤ posL xs x) from (has_pos xs x).symm]; rfl, F1.trans hw1⟩
set_option maxHeartbeats 400000 in
set_option maxRecDepth 100000 in
theorem rhas_nil {w : World} (x : Rw) (hx : Rw.ok x) :
    Calls Try.prog 44 #[.pointer none, Rw.val x] w fun e w' => e = .returned (.bool (false)) ∧ Fut w w' := by
  unfold Rw.val
  have hrow := RowAt.new w 32 hx
  have F1 := Fut.alloc w (.cells (Rw.cells x).toArray 32)
  go_enter Try.func44, Try.ntmps44
  go_wp2_with (first | (refine wpList_load_R rowTy (wanted_none rfl _) _ rfl rfl hrow ?_))
  have hg := Fut.refl (w.alloc (.cells (Rw.cells x).toArray 32))
  refine (place_nil x _).mono ?_
  rintro e w1 ⟨rfl, hw1⟩
  go_wp2
  go_ret
  exact ⟨rfl, F1.trans hw1⟩
set_option maxHeartbeats 800000 in
set_option maxRecDepth 100000 in
theorem rat_ok {B : Nat} {w : World} {b : Nat} {v : Value} {ar gone : Nat} {xs : List Rw} (h : RefI B w b v ar gone xs) (k : Nat) (hk : k < xs.length) :
    Calls Try.prog 45 #[.pointer (some ⟨b, 0, none⟩), .int .i64 k] w fun e w' => e = .returned (.tuple #[Rw.val xs[k], .int .i64 0]) ∧ Fut w w' := by
  have HH := Lib.hid (fun W1 (F1 : Fut w W1) => rthere_any (h.fut F1))
  have HR := Lib.hid h.list.rep
  obtain ⟨A, cap, rfl, hl, hm⟩ := h.list.rep.form
  have c2 : w.cell? ⟨b, 2, none⟩ = some (.slice A xs.length cap) := cell_at h.blk 2 _ rfl
  clear h
  go_enter Try.func45, Try.ntmps45
  go_wp2_with fail
  rw [zeros_eq]
  have hN := heap_alloc_new w (.cells (Rw.cells zeroRow).toArray 32)
  have F1 := Fut.alloc w (.cells (Rw.cells zeroRow).toArray 32)
  have hw : w.heap.size < (w.alloc (.cells (Rw.cells zeroRow).toArray 32)).heap.size := by simp
  obtain ⟨W1, hW⟩ : ∃ W1, w.alloc (.cells (Rw.cells zeroRow).toArray 32) = W1 := ⟨_, rfl⟩
  rw [hW] at hN F1 hw ⊢
  clear hW
  refine (HH.out W1 F1).mono ?_
  rintro e w1 ⟨rfl, hw1⟩
  have hw2 := hw1.symm
  subst hw2
  replace c2 := F1.cell c2
  have fin : ∀ y, Rw.ok y → Fut w (W1.putObj w.heap.size (.cells (Rw.cells y).toArray 32)) := fun y _ => ((Only.fut F1).trans (Only.put (S := fun k => k = w.heap.size) _ _ rfl)).toFut (fun k hk => Nat.le_of_eq hk.symm)
  obtain ⟨b', off, rfl, hr⟩ := rows_at (HR.out.fut RR.stays F1) hk
  have hlt : (k : Int) < xs.length := by omega
  have hng : ¬ (k : Int) < 0 := by omega
  have hge : ¬ (xs.length : Int) ≤ k := by omega
  go_wp2_with (first | (refine wpList_load_R rowTy (wanted_none rfl _) _ rfl rfl hr ?_) | (refine wpList_store_R rowTy (wanted_none rfl _) _ _ rfl rfl rfl hN rfl hr.1 ?_))
  refine bodyPost_ret (results_row rfl rowTy rfl (RowAt.of_block hr.1 (World.putObj_heap_same hw)) (by rfl)) rfl ?_
  exact ⟨rfl, fin _ hr.1⟩
set_option maxHeartbeats 800000 in
set_option maxRecDepth 100000 in
theorem rat_bad {B : Nat} {w : World} {b : Nat} {v : Value} {ar gone : Nat} {xs : List Rw} (h : RefI B w b v ar gone xs) (i : Int) (hi : i < 0 ∨ (xs.length : Int) ≤ i) :
    Calls Try.prog 45 #[.pointer (some ⟨b, 0, none⟩), .int .i64 i] w fun e w' => e = .returned (.tuple #[Rw.val zeroRow, .int .i64 1]) ∧ Fut w w' := by
  have HH := Lib.hid (fun W1 (F1 : Fut w W1) => rthere_any (h.fut F1))
  have HR := Lib.hid h.list.rep
  obtain ⟨A, cap, rfl, hl, hm⟩ := h.list.rep.form
  have c2 : w.cell? ⟨b, 2, none⟩ = some (.slice A xs.length cap) := cell_at h.blk 2 _ rfl
  clear h
  go_enter Try.func45, Try.ntmps45
  go_wp2_with fail
  rw [zeros_eq]
  have hN := heap_alloc_new w (.cells (Rw.cells zeroRow).toArray 32)
  have F1 := Fut.alloc w (.cells (Rw.cells zeroRow).toArray 32)
  have hw : w.heap.size < (w.alloc (.cells (Rw.cells zeroRow).toArray 32)).heap.size := by simp
  obtain ⟨W1, hW⟩ : ∃ W1, w.alloc (.cells (Rw.cells zeroRow).toArray 32) = W1 := ⟨_, rfl⟩
  rw [hW] at hN F1 hw ⊢
  clear hW
  refine (HH.out W1 F1).mono ?_
  rintro e w1 ⟨rfl, hw1⟩
  have hw2 := hw1.symm
  subst hw2
  replace c2 := F1.cell c2
  have fin : ∀ y, Rw.ok y → Fut w (W1.putObj w.heap.size (.cells (Rw.cells y).toArray 32)) := fun y _ => ((Only.fut F1).trans (Only.put (S := fun k => k = w.heap.size) _ _ rfl)).toFut (fun k hk => Nat.le_of_eq hk.symm)
  by_cases hn : i < 0
  · go_wp2_with (first | (refine wpList_of_run (wanted_none rfl _) (exec_build0_R rfl) ?_) | (refine wpList_store_R rowTy (wanted_none rfl _) _ _ rfl rfl rfl hN rfl zeroRow_ok ?_))
    refine bodyPost_ret (results_row rfl rowTy rfl (RowAt.of_block zeroRow_ok (World.putObj_heap_same hw)) (by rfl)) rfl ?_
    exact ⟨rfl, fin _ zeroRow_ok⟩
  · have hge : (xs.length : Int) ≤ i := by omega
    go_wp2_with (first | (refine wpList_of_run (wanted_none rfl _) (exec_build0_R rfl) ?_) | (refine wpList_store_R rowTy (wanted_none rfl _) _ _ rfl rfl rfl hN rfl zeroRow_ok ?_))
    refine bodyPost_ret (results_row rfl rowTy rfl (RowAt.of_block zeroRow_ok (World.putObj_heap_same hw)) (by rfl)) rfl ?_
    exact ⟨rfl, fin _ zeroRow_ok⟩
set_option maxHeartbeats 400000 in
set_option maxRecDepth 100000 in
theorem rat_nil (i : Int) (w : World) : Calls Try.prog 45 #[.pointer none, .int .i64 i] w fun e w' => e = .returned (.tuple #[Rw.val zeroRow, .int .i64 2]) ∧ Fut w w' := by
  go_enter Try.func45, Try.ntmps45
  go_wp2_with fail
  rw [zeros_eq]
  have hN := heap_alloc_new w (.cells (Rw.cells zeroRow).toArray 32)
  have F1 := Fut.alloc w (.cells (Rw.cells zeroRow).toArray 32)
  have hw : w.heap.size < (w.alloc (.cells (Rw.cells zeroRow).toArray 32)).heap.size := by simp
  obtain ⟨W1, hW⟩ : ∃ W1, w.alloc (.cells (Rw.cells zeroRow).toArray 32) = W1 := ⟨_, rfl⟩
  rw [hW] at hN F1 hw ⊢
  clear hW
  refine (rthere_nil W1).mono ?_
  rintro e w1 ⟨rfl, hw1⟩
  have hw2 := hw1.symm
  subst hw2
  go_wp2_with (first | (refine wpList_of_run (wanted_none rfl _) (exec_build0_R rfl) ?_) | (refine wpList_store_R rowTy (wanted_none rfl _) _ _ rfl rfl rfl hN rfl zeroRow_ok ?_))
  refine bodyPost_ret (results_row rfl rowTy rfl (RowAt.of_block zeroRow_ok (World.putObj_heap_same hw)) (by rfl)) rfl ?_
  exact ⟨rfl, ((Only.fut F1).trans (Only.put (S := fun k => k = w.heap.size) _ _ rfl)).toFut (fun k hk => Nat.le_of_eq hk.symm)⟩
end Go.Proofs.Ytcekphjcmippoaa
/- The document's relation: Add, Remove. -/
namespace Go.Proofs.Ytcekphjcmippoaa
open Go.RowKit Go.WideMaps
set_option linter.unusedSimpArgs false
set_option linter.unusedVariables false

set_option maxHeartbeats 1600000 in
set_option maxRecDepth 100000 in
theorem radd_any {B : Nat} {w : World} {b : Nat} {v : Value} {ar gone : Nat} {xs : List Rw} (h : RefI B w b v ar gone xs) (hB : B ≤ w.heap.size) (x : Rw) (hx : Rw.ok x) (hl : xs.length < 1407374883512) :
    Calls Try.prog 43 #[.pointer (some ⟨b, 0, none⟩), Rw.val x] w fun e w' => e = .returned (.tuple #[.bool (rightP ar x && !decide (x ∈ xs)), .int .i64 (rowErr (rightP ar x))]) ∧
      ∃ v', RefI B w' b v' ar gone (addL ar xs x) ∧ Only (rfoot b v) w w' ∧ ∀ k, v'.ownBlock = some k → rfoot b v k ∨ w.heap.size ≤ k := by
  have H := Lib.hid h
  have X := Lib.hid hx
  clear h hx
  unfold Rw.val
  go_enter Try.func43, Try.ntmps43
  go_wp2_with fail
  have hr := RowAt.new w 32 X.out
  have F1 := Fut.alloc w (.cells (Rw.cells x).toArray 32)
  obtain ⟨W1, hW⟩ : ∃ W1, w.alloc (.cells (Rw.cells x).toArray 32) = W1 := ⟨_, rfl⟩
  rw [hW] at hr F1 ⊢
  clear hW
  refine (rthere_any (H.out.fut F1)).mono ?_
  rintro e w1 ⟨rfl, hw1⟩
  have hw2 := hw1.symm
  subst hw2
  have c1 : W1.cell? ⟨b, 1, none⟩ = some (.int .i64 ar) := F1.cell (cell_at H.out.blk 1 _ rfl)
  obtain ⟨rp, hR⟩ : ∃ r, rightP ar x = r := ⟨_, rfl⟩
  have HRA := Lib.hid (fun W => right10_any ar x X.out W)
  rw [hR] at HRA
  go_wp2_with fail
  refine wp_graph 7 [.d, .d, .d, .d, .d, .d, .d] (by kernel_rfl) (by kernel_rfl) (by kernel_rfl) ?_
  simp only [List.take_succ_cons, List.take_zero, List.drop_succ_cons, List.drop_zero, Exs]
  iterate 7 apply Exists.intro
  apply Run.valG (wanted_none rfl _)
  · intro w1 h1 hk
    have q1 := h1.cell c1; have hg := (Fut.drew _).trans h1
    have hcw := fun b o => Below.cell (p := ⟨b, o, none⟩) h1
    exact exec_load_R rowTy _ rfl rfl (hr.fut hg)
  simp only [Act.put, List.setIfInBounds_toArray, List.set_cons_succ, List.set_cons_zero, List.nil_append, List.cons_append]
  apply Run.valG (wanted_none rfl _)
  · intro w1 h1 hk
    have q1 := h1.cell c1; have hg := (Fut.drew _).trans h1
    have hcw := fun b o => Below.cell (p := ⟨b, o, none⟩) h1
    go_simp; rfl
  simp only [Act.put, List.setIfInBounds_toArray, List.set_cons_succ, List.set_cons_zero, List.nil_append, List.cons_append]
  apply Run.valG (wanted_none rfl _)
  · intro w1 h1 hk
    have q1 := h1.cell c1; have hg := (Fut.drew _).trans h1
    have hcw := fun b o => Below.cell (p := ⟨b, o, none⟩) h1
    go_simp; rfl
  simp only [Act.put, List.setIfInBounds_toArray, List.set_cons_succ, List.set_cons_zero, List.nil_append, List.cons_append]
  apply Run.valG (wanted_none rfl _)
  · intro w1 h1 hk
    have q1 := h1.cell c1; have hg := (Fut.drew _).trans h1
    have hcw := fun b o => Below.cell (p := ⟨b, o, none⟩) h1
    go_simp; rfl
  simp only [Act.put, List.setIfInBounds_toArray, List.set_cons_succ, List.set_cons_zero, List.nil_append, List.cons_append]
  apply Run.valG (wanted_none rfl _)
  · intro w1 h1 hk
    have q1 := h1.cell c1; have hg := (Fut.drew _).trans h1
    have hcw := fun b o => Below.cell (p := ⟨b, o, none⟩) h1
    go_simp; rfl
  simp only [Act.put, List.setIfInBounds_toArray, List.set_cons_succ, List.set_cons_zero, List.nil_append, List.cons_append]
  apply Run.call (wanted_none rfl _) (fun _ _ => by go_simp; exact ⟨rfl, rfl⟩)
  · intro w1 h1 hk
    have q1 := h1.cell c1; have hg := (Fut.drew _).trans h1
    exact HRA.out _
  simp only [Act.put, List.setIfInBounds_toArray, List.set_cons_succ, List.set_cons_zero, List.nil_append, List.cons_append]
  apply Run.valG (wanted_none rfl _)
  · intro w1 h1 hk
    have q1 := h1.cell c1; have hg := (Fut.drew _).trans h1
    have hcw := fun b o => Below.cell (p := ⟨b, o, none⟩) h1
    go_simp; rfl
  simp only [Act.put, List.setIfInBounds_toArray, List.set_cons_succ, List.set_cons_zero, List.nil_append, List.cons_append]
  apply Run.done
  intro w2 h2 hk
  clear hk
  have F2 := F1.trans ((Fut.drew _).trans h2)
  have hr2 := hr.fut ((Fut.drew _).trans h2)
  cases rp with
  | false =>
    go_wp2
    go_ret2
    have e1 : addL ar xs x = xs := by unfold addL; rw [hR]; rfl
    rw [e1]
    exact ⟨by rw [hR]; rfl, _, H.out.fut F2, Only.fut F2, fun k hk => .inl (.inr hk)⟩
  | true =>
    go_wp2_with (first | (refine wpList_load_R rowTy (wanted_none rfl _) _ rfl rfl hr2 ?_))
    refine (rhas_any (H.out.fut F2) (by omega) x X.out).mono ?_
    rintro e w3 ⟨rfl, f3⟩
    have F3 := F2.trans f3
    have hr3 := hr2.fut f3
    by_cases hin : x ∈ xs
    · rw [decide_eq_true hin]
      go_wp2
      go_ret2
      have e1 : addL ar xs x = xs := by unfold addL; rw [hR, decide_eq_true hin]; rfl
      rw [e1]
      exact ⟨by rw [hR, decide_eq_true hin]; rfl, _, H.out.fut F3, Only.fut F3, fun k hk => .inl (.inr hk)⟩
    · rw [decide_eq_false hin]
      have e1 : addL ar xs x = xs ++ [x] := by unfold addL; rw [hR, decide_eq_false hin]; rfl
      have HR3 := Lib.hid (H.out.fut F3)
      obtain ⟨A, cap, hv, hcl, hcm⟩ := HR3.out.list.rep.form
      subst hv
      have c2 : w3.cell? ⟨b, 2, none⟩ = some (.slice A xs.length cap) := cell_at HR3.out.blk 2 _ rfl
      have hX := X.out
      go_wp2_with fail
      refine wp_graph0 7 [.d, .d, .d, .d, .d, .d, .r (fun v w => SlRep 24 1 RR w v [x])] (by kernel_rfl) (by kernel_rfl) (by kernel_rfl) (by decide) (by intro c v w a o ho h; obtain rfl := Option.some.inj ho; exact h) (by kernel_rfl) ?_
      simp only [List.take_succ_cons, List.take_zero, List.drop_succ_cons, List.drop_zero, Exs]
      iterate 6 apply Exists.intro
      apply Run.valG (wanted_none rfl _)
      · intro w1 h1 hk
        have q2 := h1.cell c2; have hg := (Fut.drew _).trans h1
        have hcw := fun b o => Below.cell (p := ⟨b, o, none⟩) h1
        go_simp; rfl
      simp only [Act.put, List.setIfInBounds_toArray, List.set_cons_succ, List.set_cons_zero, List.nil_append, List.cons_append]
      apply Run.valG (wanted_none rfl _)
      · intro w1 h1 hk
        have q2 := h1.cell c2; have hg := (Fut.drew _).trans h1
        have hcw := fun b o => Below.cell (p := ⟨b, o, none⟩) h1
        go_simp; rfl
      simp only [Act.put, List.setIfInBounds_toArray, List.set_cons_succ, List.set_cons_zero, List.nil_append, List.cons_append]
      apply Run.valG (wanted_none rfl _)
      · intro w1 h1 hk
        have q2 := h1.cell c2; have hg := (Fut.drew _).trans h1
        have hcw := fun b o => Below.cell (p := ⟨b, o, none⟩) h1
        go_simp; rfl
      simp only [Act.put, List.setIfInBounds_toArray, List.set_cons_succ, List.set_cons_zero, List.nil_append, List.cons_append]
      apply Run.valG (wanted_none rfl _)
      · intro w1 h1 hk
        have q2 := h1.cell c2; have hg := (Fut.drew _).trans h1
        have hcw := fun b o => Below.cell (p := ⟨b, o, none⟩) h1
        go_simp; rfl
      simp only [Act.put, List.setIfInBounds_toArray, List.set_cons_succ, List.set_cons_zero, List.nil_append, List.cons_append]
      apply Run.valG (wanted_none rfl _)
      · intro w1 h1 hk
        have q2 := h1.cell c2; have hg := (Fut.drew _).trans h1
        have hcw := fun b o => Below.cell (p := ⟨b, o, none⟩) h1
        go_simp; rfl
      simp only [Act.put, List.setIfInBounds_toArray, List.set_cons_succ, List.set_cons_zero, List.nil_append, List.cons_append]
      apply Run.valG (wanted_none rfl _)
      · intro w1 h1 hk
        have q2 := h1.cell c2; have hg := (Fut.drew _).trans h1
        have hcw := fun b o => Below.cell (p := ⟨b, o, none⟩) h1
        exact exec_load_R rowTy _ rfl rfl (hr3.fut hg)
      simp only [Act.put, List.setIfInBounds_toArray, List.set_cons_succ, List.set_cons_zero, List.nil_append, List.cons_append]
      apply Run.valR (wanted_none rfl _) (by intro v w w' hf hs; exact hs.fut RR.stays hf)
      · intro w1 h1 hk
        have q2 := h1.cell c2; have hg := (Fut.drew _).trans h1
        exact ⟨_, _, exec_one_R rowTy zeroR Try.underlying25 _ rfl rfl hX, Fut.alloc _ _, rowOne _ _ hX⟩
      intro v6
      simp only [Act.put, List.setIfInBounds_toArray, List.set_cons_succ, List.set_cons_zero, List.nil_append, List.cons_append]
      apply Run.done
      intro w4 h4 hk
      obtain ⟨f6, _⟩ := hk
      have F4 := (Fut.drew w3).trans h4
      have L4 := (HR3.out.fut F4).list
      have b4 := F4.block HR3.out.blk
      have hB4 : B ≤ w4.heap.size := Nat.le_trans hB (F3.trans F4).size
      have hsep := HR3.out.sep
      go_wp2_with (first | (refine wpList_append_R (wanted_none rfl _) _ _ rfl Try.underlying25 infoR rfl rfl L4 f6 (by simp; omega) (by omega) ?_; intro v7 w7 hO7 hG7 hB7; obtain ⟨A7, cap7, hv7, hc7, _⟩ := hO7.rep.form; have O7 : Only (fun k => (Value.slice A xs.length cap).ownBlock = some k) w4 w7 := Only.grown hG7 (fun k hk => hk); have b7 := O7.keeps b4 (fun h => hsep b h rfl); have q7 : w7.cell? ⟨b, 2, none⟩ = some (.slice A xs.length cap) := cell_at b7 2 _ rfl; have z7 := free_at b7 2; subst hv7))
      go_ret2
      have el : (xs ++ [x]).length = xs.length + 1 := by simp
      rw [el] at hO7 hB7
      have hv8 : ∀ k, (Value.slice A7 (xs.length + 1) cap7).ownBlock = some k → (Value.slice A xs.length cap).ownBlock = some k ∨ w4.heap.size ≤ k := fun k hk => by
        rcases hB7 with h | h
        · exact .inl ((show (Value.slice A xs.length cap).ownBlock = _ from h.symm).trans hk)
        · have e := (show some _ = _ from h.symm).trans hk
          have := Option.some.inj e
          omega
      have hbl : b < w4.heap.size := (Array.getElem?_eq_some_iff.1 b4).1
      have hsep8 : ∀ k, (Value.slice A7 (xs.length + 1) cap7).ownBlock = some k → k ≠ b := fun k hk => by
        rcases hv8 k hk with h | h
        · exact hsep k h
        · omega
      have OS : Only (fun k => k = b) w7 (w7.setCell ⟨b, 2, none⟩ (Value.slice A7 (xs.length + 1) cap7)) := Only.set _ _ rfl
      have OT : Only (rfoot b (Value.slice A xs.length cap)) w (w7.setCell ⟨b, 2, none⟩ (Value.slice A7 (xs.length + 1) cap7)) :=
        ((Only.fut (F3.trans F4)).trans (O7.mono (S' := rfoot b (Value.slice A xs.length cap)) fun k _ hk => .inr hk)).trans (OS.mono (S' := rfoot b (Value.slice A xs.length cap)) fun k _ hk => .inl hk)
      have hs4 := (F3.trans F4).size
      rw [e1]
      refine ⟨by rw [hR, decide_eq_false hin]; rfl, _, ⟨set_blk b7, hO7.onlyR OS fun k hk e => hsep8 k hk e, hsep8, HR3.out.base⟩, OT, fun k hk => ?_⟩
      rcases hv8 k hk with h | h
      · exact .inl (.inr h)
      · exact .inr (by omega)
set_option maxHeartbeats 400000 in
set_option maxRecDepth 100000 in
theorem radd_nil (x : Rw) (w : World) : Calls Try.prog 43 #[.pointer none, Rw.val x] w fun e w' => e = .returned (.tuple #[.bool false, .int .i64 2]) ∧ Fut w w' := by
  have f1 := Fut.alloc w (.cells (Rw.cells x).toArray 32)
  unfold Rw.val
  go_enter Try.func43, Try.ntmps43
  go_wp2_with fail
  refine (rthere_nil _).mono ?_
  rintro e w1 ⟨rfl, hw1⟩
  have hw1' := hw1.symm
  subst hw1'
  go_wp2
  go_ret2
  exact ⟨rfl, f1⟩
set_option maxHeartbeats 400000 in
set_option maxRecDepth 100000 in
theorem rremove_nil (x : Rw) (hx : Rw.ok x) (w : World) : Calls Try.prog 46 #[.pointer none, Rw.val x] w fun e w' => e = .returned (.bool false) ∧ Fut w w' := by
  have f1 := Fut.alloc w (.cells (Rw.cells x).toArray 32)
  have hr := RowAt.new w 32 hx
  unfold Rw.val
  go_enter Try.func46, Try.ntmps46
  go_wp2_with (first | (refine wpList_load_R rowTy (wanted_none rfl _) _ rfl rfl hr ?_))
  refine (place_nil x _).mono ?_
  rintro e w1 ⟨rfl, hw1⟩
  go_wp2
  go_ret
  exact ⟨rfl, f1.trans hw1⟩
theorem erase_step {xs : List Rw} {k : Nat} (i : Nat) (hi : i < xs.length) : (xs.take (i + 1)).eraseIdx k = (xs.take i).eraseIdx k ++ if i = k then [] else [xs[i]] := by
  rw [List.take_succ_eq_append_getElem hi]
  rcases Nat.lt_trichotomy i k with h | h | h
  · rw [if_neg (by omega), List.eraseIdx_of_length_le (by simp; omega), List.eraseIdx_of_length_le (by simp; omega)]
  · subst h
    rw [if_pos rfl, List.append_nil, List.eraseIdx_append_of_length_le (by simp; omega), List.eraseIdx_of_length_le (l := xs.take i) (by simp; omega)]
    simp [show min i xs.length = i by omega]
  · rw [if_neg (by omega), List.eraseIdx_append_of_lt_length (by simp; omega)]
set_option maxHeartbeats 1600000 in
set_option maxRecDepth 100000 in
theorem rremove_any {B : Nat} {w : World} {b : Nat} {v : Value} {ar gone : Nat} {xs : List Rw} (h : RefI B w b v ar gone xs) (hB : B ≤ w.heap.size) (x : Rw) (hx : Rw.ok x) (hl : xs.length ≤ 1407374883512) (hgn : gone < 4611686018427387904) :
    Calls Try.prog 46 #[.pointer (some ⟨b, 0, none⟩), Rw.val x] w fun e w' => e = .returned (.bool (decide (x ∈ xs))) ∧
      ∃ v', RefI B w' b v' ar (gone + (decide (x ∈ xs)).toNat) (xs.erase x) ∧ Only (rfoot b v) w w' ∧ ∀ k, v'.ownBlock = some k → rfoot b v k ∨ w.heap.size ≤ k := by
  have H := Lib.hid h
  have X := Lib.hid hx
  have hr := RowAt.new w 32 hx
  have F1 := Fut.alloc w (.cells (Rw.cells x).toArray 32)
  clear h hx
  unfold Rw.val
  go_enter Try.func46, Try.ntmps46
  go_wp2_with (first | (refine wpList_load_R rowTy (wanted_none rfl _) _ rfl rfl hr ?_))
  refine (place_any (H.out.fut F1) hl x X.out).mono ?_
  rintro e w1 ⟨rfl, f2⟩
  have F2 := F1.trans f2
  by_cases hin : x ∈ xs
  · have hp : posL xs x = ((xs.idxOf x : Nat) : Int) := by unfold posL; rw [if_pos hin]
    have hil : xs.idxOf x < xs.length := List.idxOf_lt_length_iff.2 hin
    have her : xs.erase x = xs.eraseIdx (xs.idxOf x) := List.erase_eq_eraseIdx_of_idxOf rfl
    rw [hp]
    generalize xs.idxOf x = m at hil her
    have hm0 : ¬ (m : Int) < 0 := by omega
    have HR := Lib.hid (H.out.fut F2)
    have HF := Lib.hid F2
    obtain ⟨A, cap, hv, hcl, hcm⟩ := HR.out.list.rep.form
    subst hv
    have hlt1 := HR.out.lt
    have c2 : w1.cell? ⟨b, 2, none⟩ = some (.slice A xs.length cap) := cell_at HR.out.blk 2 _ rfl
    have hbl : b < w1.heap.size := hlt1 b (.inl rfl)
    clear hr F1 f2 F2 hp
    go_wp2
    go_loopw [6, 7] (fun u i wr => ∃ k : Nat, k ≤ xs.length ∧ i = .int .i64 k ∧ Hid (OwnL 24 w1.heap.size 32 RR wr u ((xs.take k).eraseIdx m)) ∧ Hid (Fut w1 wr)) (fun _ i _ => xs.length - (intOf i).toNat)
    case atStart => exact ⟨0, Nat.zero_le _, rfl, Lib.hid OwnL.nil, Lib.hid (Fut.refl _)⟩
    case round =>
      obtain ⟨k, hk, rfl, hO, hG⟩ := hrel
      have c2' := hG.out.cell c2
      by_cases hlt : k < xs.length
      · have hltI : (k : Int) < xs.length := by omega
        have e1 : (0 : Int) ≤ k ∧ (k : Int) < xs.length := by omega
        have hst := erase_step (k := m) k hlt
        by_cases hkm : k = m
        · have hkmI : (k : Int) = m := by omega
          rw [if_pos hkm, List.append_nil] at hst
          go_wp2
          go_roundw
          case rel => exact ⟨k + 1, by omega, by go_num, by rw [hst]; exact hO, hG⟩
          case measure => simp [intOf] <;> omega
        · have hkmI : ¬ (k : Int) = m := by omega
          rw [if_neg hkm] at hst
          obtain ⟨gb, off, rfl, hrk⟩ := rows_at (HR.out.fut hG.out).list.rep hlt
          generalize xs[k] = y at hrk hst
          have hy := hrk.1
          have hOa := hO.out.fut RR.stays (Fut.alloc wr (.cells (Rw.cells y).toArray 32))
          have hRo := rowOne wr 32 hy
          have hel : ((xs.take k).eraseIdx m).length ≤ k := by
            have := List.length_eraseIdx_le (xs.take k) m
            rw [List.length_take] at this
            omega
          have hLa : ((xs.take k).eraseIdx m).length + [y].length ≤ 1407374883512 := by simp only [List.length_cons, List.length_nil]; omega
          have hBa : w1.heap.size ≤ (wr.alloc (.cells (Rw.cells y).toArray 32)).heap.size := by have := hG.out.size; simp; omega
          go_wp2_with (first | (refine wpList_load_R rowTy (wanted_none rfl _) _ rfl rfl hrk ?_) | (refine wpList_of_run (wanted_none rfl _) (exec_one_R rowTy zeroR Try.underlying25 _ rfl rfl hy) ?_) | (refine wpList_append_R (wanted_none rfl _) _ _ rfl Try.underlying25 infoR rfl rfl hOa hRo hLa hBa ?_; intro v6 w6 hO6 hG6 hB6))
          go_roundw
          case rel => exact ⟨k + 1, by omega, by go_num, by rw [hst]; exact Lib.hid hO6, Lib.hid ((hG.out.trans (Fut.alloc _ _)).grown hG6 fun j hj => (hOa.block j hj).1)⟩
          case measure => simp [intOf] <;> omega
      · obtain rfl : k = xs.length := by omega
        rw [List.take_length, ← her] at hO
        have bG := hG.out.block HR.out.blk
        have z2 := free_at bG 2
        have z3 := free_at bG 3
        have c3' : wr.cell? ⟨b, 3, none⟩ = some (.int .i64 gone) := cell_at bG 3 _ rfl
        have e2 : IntKind.i64.wrap ((gone : Int) + 1) = ((gone + 1 : Nat) : Int) := by rw [IntKind.wrap_i64]; omega
        obtain ⟨Au, capu, rfl, hcu, _⟩ := hO.out.rep.form
        obtain ⟨ys, hys⟩ : ∃ ys, xs.erase x = ys := ⟨_, rfl⟩
        rw [hys] at hO
        clear her
        have b1 := set_blk bG (i := 2) (v := .slice Au ys.length capu)
        have c31 := cell_at b1 3 _ rfl
        have z31 := free_at b1 3
        have hun : ∀ k, (Value.slice Au ys.length capu).ownBlock = some k → w1.heap.size ≤ k := fun k hk => (hO.out.block k hk).1
        rw [hys]
        go_wp2
        go_ret
        have O1 : Only (fun k => k = b) wr (wr.setCell ⟨b, 2, none⟩ (.slice Au ys.length capu)) := Only.set _ _ rfl
        have O2 : Only (fun k => k = b) (wr.setCell ⟨b, 2, none⟩ (.slice Au ys.length capu)) ((wr.setCell ⟨b, 2, none⟩ (.slice Au ys.length capu)).setCell ⟨b, 3, none⟩ (.int .i64 ((gone : Int) + 1))) := Only.set _ _ rfl
        have hne : ∀ k, (Value.slice Au ys.length capu).ownBlock = some k → ¬ k = b := fun k hk e => by have := hun k hk; omega
        have OT := (Only.fut (HF.out.trans hG.out)).trans (((O1.trans O2).mono (S' := rfoot b (Value.slice A xs.length cap)) fun k _ hk => .inl hk))
        have hs1 := HF.out.size
        rw [hys, decide_eq_true hin]
        exact ⟨rfl, _, ⟨set_blk b1, (hO.out.onlyR (O1.trans O2) hne).base (Nat.le_trans hB hs1), hne, H.out.base⟩, OT, fun k hk => .inr (by have := hun k hk; omega)⟩
  · have hp : posL xs x = -1 := by unfold posL; rw [if_neg hin]
    rw [hp]
    go_wp2
    go_ret
    rw [decide_eq_false hin, List.erase_of_not_mem hin]
    exact ⟨rfl, _, H.out.fut F2, Only.fut F2, fun k hk => .inl (.inr hk)⟩
end Go.Proofs.Ytcekphjcmippoaa
/- Masks: one bit; a row with some columns cleared. No program. -/
namespace Go.Proofs.Ytcekphjcmippoaa
open Go.RowKit Go.WideMaps
set_option linter.unusedSimpArgs false
set_option linter.unusedVariables false

theorem u32_same (n : Int) (h0 : 0 ≤ n) (h1 : n < 2 ^ 32) : IntKind.u32.wrap n = n := by rw [IntKind.wrap_u32]; omega
theorem and_u32 {a b : Nat} (ha : a < 2 ^ 32) (hb : b < 2 ^ 32) : bits .and .u32 (a : Int) (b : Int) = ((a &&& b : Nat) : Int) := (bits_nat .u32 32 (by decide) u32_same a b ha hb).1
theorem or_u32 {a b : Nat} (ha : a < 2 ^ 32) (hb : b < 2 ^ 32) : bits .or .u32 (a : Int) (b : Int) = ((a ||| b : Nat) : Int) := (bits_nat .u32 32 (by decide) u32_same a b ha hb).2
theorem shl_u32 {k : Nat} (hk : k < 24) : IntKind.u32.wrap (2 ^ k) = ((2 ^ k : Nat) : Int) := by
  have h : (2 : Nat) ^ k < 2 ^ 32 := Nat.pow_lt_pow_right (by decide) (by omega)
  rw [u32_same _ (Int.pow_nonneg (by decide)) (by exact_mod_cast h)]
  simp
theorem and_bit {m k : Nat} (hm : m < 2 ^ 32) (hk : k < 24) : (bits .and .u32 (m : Int) ((2 ^ k : Nat) : Int) = 0) ↔ m.testBit k = false := by
  have h : (2 : Nat) ^ k < 2 ^ 32 := Nat.pow_lt_pow_right (by decide) (by omega)
  rw [and_u32 hm h]
  have e : m &&& 2 ^ k = 0 ↔ m.testBit k = false := by
    constructor
    · intro h0
      have := congrArg (Nat.testBit · k) h0
      simpa [Nat.testBit_and, Nat.testBit_two_pow] using this
    · intro h0
      refine Nat.eq_of_testBit_eq fun i => ?_
      simp only [Nat.testBit_and, Nat.testBit_two_pow, Nat.zero_testBit]
      by_cases hi : k = i
      · subst hi; simp [h0]
      · simp [hi]
  rw [← e]
  omega
theorem shr_bit {m k : Nat} (hm : m < 2 ^ 32) : (bits .and .u32 ((m / 2 ^ k : Nat) : Int) 1 = 0) ↔ m.testBit k = false := by
  have h1 : m / 2 ^ k < 2 ^ 32 := Nat.lt_of_le_of_lt (Nat.div_le_self _ _) hm
  have := and_u32 (a := m / 2 ^ k) (b := 1) h1 (by decide)
  rw [show ((1 : Nat) : Int) = 1 from rfl] at this
  rw [this, Nat.and_one_is_mod, Nat.testBit_eq_decide_div_mod_eq]
  have h2 := Nat.mod_two_eq_zero_or_one (m / 2 ^ k)
  rw [decide_eq_false_iff_not]
  omega

/-- Is the column off? -/
def offB (ar m i : Nat) : Bool := decide (ar ≤ i) || !m.testBit i
/-- The columns off, below k, cleared. -/
def cutK (ar m k : Nat) (x : Rw) : Rw := x.mapIdx fun i a => if i < k ∧ offB ar m i = true then 0 else a
def cutL (ar m : Nat) (x : Rw) : Rw := cutK ar m 24 x
theorem cutK_len (ar m k : Nat) (x : Rw) : (cutK ar m k x).length = x.length := by simp [cutK]
theorem cutK_at (ar m k : Nat) (x : Rw) (i : Nat) : (cutK ar m k x)[i]? = x[i]?.map fun a => if i < k ∧ offB ar m i = true then 0 else a := by simp [cutK]
theorem cutK_zero (ar m : Nat) (x : Rw) : cutK ar m 0 x = x := by
  refine List.ext_getElem? fun i => ?_
  rw [cutK_at]
  simp
theorem cutK_keep {ar m k : Nat} {x : Rw} (h : offB ar m k = false) : cutK ar m (k + 1) x = cutK ar m k x := by
  refine List.ext_getElem? fun i => ?_
  rw [cutK_at, cutK_at]
  congr 1
  funext a
  by_cases hi : i = k
  · subst hi; simp [h]
  · by_cases hik : i < k
    · simp [hik, show i < k + 1 by omega]
    · simp [hik, show ¬ i < k + 1 by omega]
theorem cutK_set {ar m k : Nat} {x : Rw} (h : offB ar m k = true) : cutK ar m (k + 1) x = (cutK ar m k x).set k 0 := by
  refine List.ext_getElem? fun i => ?_
  rw [cutK_at, List.getElem?_set, cutK_at, cutK_len]
  by_cases hi : k = i
  · subst hi
    by_cases hl : k < x.length
    · simp [h, hl]
    · simp [hl]
  · rw [if_neg hi]
    congr 1
    funext a
    by_cases hik : i < k
    · simp [hik, show i < k + 1 by omega]
    · simp [hik, show ¬ i < k + 1 by omega]
theorem cutK_ok {ar m k : Nat} {x : Rw} (hx : Rw.ok x) : Rw.ok (cutK ar m k x) := ⟨by rw [cutK_len]; exact hx.1, fun a ha => by
  obtain ⟨i, hi⟩ := List.getElem?_of_mem ha
  rw [cutK_at, Option.map_eq_some_iff] at hi
  obtain ⟨b, hb, rfl⟩ := hi
  split
  · decide
  · exact hx.2 b (List.mem_of_getElem? hb)⟩
/-- Which rows agree where the mask asks. -/
theorem cutL_eq {ar m : Nat} {x y : Rw} (hx : Rw.ok x) (hy : Rw.ok y) : cutL ar m x = cutL ar m y ↔ ∀ i, i < 24 → offB ar m i = false → x[i]? = y[i]? := by
  unfold cutL
  constructor
  · intro h i hi hb
    have := congrArg (·[i]?) h
    simp only [cutK_at, hb, and_false, Bool.false_eq_true, ↓reduceIte, Option.map_id'] at this
    exact this
  · intro h
    refine List.ext_getElem? fun i => ?_
    rw [cutK_at, cutK_at]
    by_cases hi : i < 24
    · cases hb : offB ar m i with
      | false => rw [h i hi hb]
      | true =>
        rw [List.getElem?_eq_getElem (by rw [hx.1]; exact hi), List.getElem?_eq_getElem (by rw [hy.1]; exact hi)]
        simp [hi]
    · rw [List.getElem?_eq_none (by rw [hx.1]; omega), List.getElem?_eq_none (by rw [hy.1]; omega)]
/-- One cell of a row's block is written. -/
theorem set_row {w : World} {g k : Nat} {t : TypeId} {x : Rw} (hb : w.heap[g]? = some (.cells (Rw.cells x).toArray t (0, 0))) (v : Int) :
    (w.setCell ⟨g, k, none⟩ (.int .i32 v)).heap[g]? = some (.cells (Rw.cells (x.set k v)).toArray t (0, 0)) := by
  simp [World.setCell, Array.getElem?_modify, hb, Rw.cells, List.map_set]
end Go.Proofs.Ytcekphjcmippoaa
/- Select's inner function: a row with the columns that are not asked cleared. -/
namespace Go.Proofs.Ytcekphjcmippoaa
open Go.RowKit Go.WideMaps
set_option linter.unusedSimpArgs false
set_option linter.unusedVariables false

theorem results_row1 {P : Program} {k e : TypeId} {fn : Func} {p : Tmp} {tmps : Array Value} {w : World} {g : Nat} {x : Rw} (h : fn.results = #[.cell p k]) (T : RowTy P k e)
    (hp : tmps.getD p undef = .pointer (some ⟨g, 0, none⟩)) (hr : RowAt w g 0 x) : (results fn tmps).run P w = .ok (Rw.val x) w := by
  have hp' : tmps[p]?.getD undef = .pointer (some ⟨g, 0, none⟩) := by simpa using hp
  simp [results, h, hp', asAddr, run_loadVar_R T hr]
set_option maxHeartbeats 1600000 in
set_option maxRecDepth 100000 in
theorem only_any {w : World} {b1 b2 : Nat} {p : Value} {ar m : Nat} (hm : m < 2 ^ 32) (c1 : w.cell? ⟨b1, 0, none⟩ = some p) (c2 : w.cell? ⟨b2, 0, none⟩ = some (.int .u32 m))
    (hA : ∀ W, Fut w W → Calls Try.prog 11 #[p] W fun e W' => e = .returned (.int .i64 ar) ∧ W' = W) (x : Rw) (hx : Rw.ok x) :
    Calls Try.prog 34 #[Rw.val x, .pointer (some ⟨b1, 0, none⟩), .pointer (some ⟨b2, 0, none⟩)] w fun e w' => e = .returned (Rw.val (cutL ar m x)) ∧ Fut w w' := by
  have X := Lib.hid hx
  have HA := Lib.hid hA
  have hxl := hx.1
  clear hx hA
  unfold Rw.val
  go_enter Try.func34, Try.ntmps34
  go_wp2
  rw [zeros_eq]
  have hb1 := heap_alloc_new w (.cells (Rw.cells x).toArray 32)
  have f1 := Fut.alloc w (.cells (Rw.cells x).toArray 32)
  have hs1 : (w.alloc (.cells (Rw.cells x).toArray 32)).heap.size = w.heap.size + 1 := by simp
  obtain ⟨W1, hW⟩ : ∃ W1, w.alloc (.cells (Rw.cells x).toArray 32) = W1 := ⟨_, rfl⟩
  rw [hW] at hb1 f1 hs1 ⊢
  clear hW
  have hb2 := heap_alloc_new W1 (.cells (Rw.cells zeroRow).toArray 32)
  have f2 := Fut.alloc W1 (.cells (Rw.cells zeroRow).toArray 32)
  rw [hs1] at hb2
  obtain ⟨W2, hW⟩ : ∃ W2, W1.alloc (.cells (Rw.cells zeroRow).toArray 32) = W2 := ⟨_, rfl⟩
  rw [hW] at hb2 f2 ⊢
  clear hW
  have hb1' := f2.block hb1
  have F2 := f1.trans f2
  go_loopw [6] (fun i wr => ∃ k : Nat, k ≤ 24 ∧ i = .int .i64 k ∧ Hid (wr.heap[w.heap.size]? = some (.cells (Rw.cells (cutK ar m k x)).toArray 32 (0, 0))) ∧ Hid (wr.heap[w.heap.size + 1]? = some (.cells (Rw.cells zeroRow).toArray 32 (0, 0))) ∧ Hid (Fut w wr)) (fun i _ => 24 - (intOf i).toNat)
  case atStart => exact ⟨0, Nat.zero_le _, rfl, Lib.hid (by rw [cutK_zero]; exact hb1'), Lib.hid hb2, Lib.hid F2⟩
  case round =>
    obtain ⟨k, hk, rfl, hB, hC, hF⟩ := hrel
    by_cases hlt : k < 24
    · have hlt' : (k : Int) < 24 := by omega
      have e1 : (0 : Int) ≤ k ∧ (k : Int) < 24 := by omega
      have q1 := hF.out.cell c1
      have q2 := hF.out.cell c2
      have HAr := Lib.hid (fun W (hW : Fut wr W) => HA.out W (hF.out.trans hW))
      by_cases h1 : ar ≤ k
      · have h1' : (ar : Int) ≤ k := by omega
        have ho : offB ar m k = true := by simp [offB, h1]
        go_wp2_with fail
        refine wp_graph 11 [.d, .d, .d, .d, .d, .d, .d, .d, .d, .d, .d] (by kernel_rfl) (by kernel_rfl) (by kernel_rfl) ?_
        simp only [List.take_succ_cons, List.take_zero, List.drop_succ_cons, List.drop_zero, Exs]
        iterate 11 apply Exists.intro
        apply Run.valG (wanted_none rfl _)
        · intro w1 h1 hk
          have r1 := h1.cell q1; have r2 := h1.cell q2; have hg := (Fut.drew _).trans h1
          have hcw := fun b o => Below.cell (p := ⟨b, o, none⟩) h1
          go_simp; rfl
        simp only [Act.put, List.setIfInBounds_toArray, List.set_cons_succ, List.set_cons_zero, List.nil_append, List.cons_append]
        apply Run.valG (wanted_none rfl _)
        · intro w1 h1 hk
          have r1 := h1.cell q1; have r2 := h1.cell q2; have hg := (Fut.drew _).trans h1
          have hcw := fun b o => Below.cell (p := ⟨b, o, none⟩) h1
          go_simp; rfl
        simp only [Act.put, List.setIfInBounds_toArray, List.set_cons_succ, List.set_cons_zero, List.nil_append, List.cons_append]
        apply Run.call (wanted_none rfl _) (fun _ _ => by go_simp; exact ⟨rfl, rfl⟩)
        · intro w1 h1 hk
          have r1 := h1.cell q1; have r2 := h1.cell q2; have hg := (Fut.drew _).trans h1
          refine (HAr.out _ hg).mono ?_; rintro e w' ⟨rfl, rfl⟩; exact ⟨rfl, Fut.refl _⟩
        simp only [Act.put, List.setIfInBounds_toArray, List.set_cons_succ, List.set_cons_zero, List.nil_append, List.cons_append]
        apply Run.valG (wanted_none rfl _)
        · intro w1 h1 hk
          have r1 := h1.cell q1; have r2 := h1.cell q2; have hg := (Fut.drew _).trans h1
          have hcw := fun b o => Below.cell (p := ⟨b, o, none⟩) h1
          go_simp; rfl
        simp only [Act.put, List.setIfInBounds_toArray, List.set_cons_succ, List.set_cons_zero, List.nil_append, List.cons_append]
        apply Run.valG (wanted_none rfl _)
        · intro w1 h1 hk
          have r1 := h1.cell q1; have r2 := h1.cell q2; have hg := (Fut.drew _).trans h1
          have hcw := fun b o => Below.cell (p := ⟨b, o, none⟩) h1
          go_simp; rfl
        simp only [Act.put, List.setIfInBounds_toArray, List.set_cons_succ, List.set_cons_zero, List.nil_append, List.cons_append]
        apply Run.skip (by go_simp)
        simp only [Act.put, List.setIfInBounds_toArray, List.set_cons_succ, List.set_cons_zero, List.nil_append, List.cons_append]
        apply Run.skip (by go_simp)
        simp only [Act.put, List.setIfInBounds_toArray, List.set_cons_succ, List.set_cons_zero, List.nil_append, List.cons_append]
        apply Run.skip (by go_simp)
        simp only [Act.put, List.setIfInBounds_toArray, List.set_cons_succ, List.set_cons_zero, List.nil_append, List.cons_append]
        apply Run.skip (by go_simp)
        simp only [Act.put, List.setIfInBounds_toArray, List.set_cons_succ, List.set_cons_zero, List.nil_append, List.cons_append]
        apply Run.skip (by go_simp)
        simp only [Act.put, List.setIfInBounds_toArray, List.set_cons_succ, List.set_cons_zero, List.nil_append, List.cons_append]
        apply Run.valG (wanted_none rfl _)
        · intro w1 h1 hk
          have r1 := h1.cell q1; have r2 := h1.cell q2; have hg := (Fut.drew _).trans h1
          have hcw := fun b o => Below.cell (p := ⟨b, o, none⟩) h1
          go_simp; rfl
        simp only [Act.put, List.setIfInBounds_toArray, List.set_cons_succ, List.set_cons_zero, List.nil_append, List.cons_append]
        apply Run.done
        intro w2 h2 hk
        clear hk
        have F3 := (Fut.drew _).trans h2
        have hB3 := F3.block hB.out
        have hC3 := F3.block hC.out
        have hlen : (cutK ar m k x).length = 24 := by rw [cutK_len]; exact hxl
        have ck := cell_at hB3 k _ (show _ = some (.int .i32 ((cutK ar m k x)[k]'(by omega))) by simp [Rw.cells, hlen, hlt])
        have fk := free_at hB3 k
        go_wp2
        go_roundw
        case rel =>
          refine ⟨k + 1, by omega, by go_num, Lib.hid ?_, Lib.hid ?_, Lib.hid ?_⟩
          · rw [cutK_set ho]; exact set_row hB3 0
          · rw [Below.heap_setCell _ _ _ _ (by simp)]; exact hC3
          · exact (hF.out.trans F3).set (by simp) _
        case measure => simp [intOf] <;> omega
      · have h1' : ¬ (ar : Int) ≤ k := by omega
        have s1 : IntKind.u32.wrap (2 ^ k) = ((2 ^ k : Nat) : Int) := shl_u32 hlt
        go_wp2_with fail
        refine wp_graph 11 [.d, .d, .d, .d, .d, .d, .d, .d, .d, .d, .d] (by kernel_rfl) (by kernel_rfl) (by kernel_rfl) ?_
        simp only [List.take_succ_cons, List.take_zero, List.drop_succ_cons, List.drop_zero, Exs]
        iterate 11 apply Exists.intro
        apply Run.valG (wanted_none rfl _)
        · intro w1 h1 hk
          have r1 := h1.cell q1; have r2 := h1.cell q2; have hg := (Fut.drew _).trans h1
          have hcw := fun b o => Below.cell (p := ⟨b, o, none⟩) h1
          go_simp; rfl
        simp only [Act.put, List.setIfInBounds_toArray, List.set_cons_succ, List.set_cons_zero, List.nil_append, List.cons_append]
        apply Run.valG (wanted_none rfl _)
        · intro w1 h1 hk
          have r1 := h1.cell q1; have r2 := h1.cell q2; have hg := (Fut.drew _).trans h1
          have hcw := fun b o => Below.cell (p := ⟨b, o, none⟩) h1
          go_simp; rfl
        simp only [Act.put, List.setIfInBounds_toArray, List.set_cons_succ, List.set_cons_zero, List.nil_append, List.cons_append]
        apply Run.call (wanted_none rfl _) (fun _ _ => by go_simp; exact ⟨rfl, rfl⟩)
        · intro w1 h1 hk
          have r1 := h1.cell q1; have r2 := h1.cell q2; have hg := (Fut.drew _).trans h1
          refine (HAr.out _ hg).mono ?_; rintro e w' ⟨rfl, rfl⟩; exact ⟨rfl, Fut.refl _⟩
        simp only [Act.put, List.setIfInBounds_toArray, List.set_cons_succ, List.set_cons_zero, List.nil_append, List.cons_append]
        apply Run.valG (wanted_none rfl _)
        · intro w1 h1 hk
          have r1 := h1.cell q1; have r2 := h1.cell q2; have hg := (Fut.drew _).trans h1
          have hcw := fun b o => Below.cell (p := ⟨b, o, none⟩) h1
          go_simp; rfl
        simp only [Act.put, List.setIfInBounds_toArray, List.set_cons_succ, List.set_cons_zero, List.nil_append, List.cons_append]
        apply Run.valG (wanted_none rfl _)
        · intro w1 h1 hk
          have r1 := h1.cell q1; have r2 := h1.cell q2; have hg := (Fut.drew _).trans h1
          have hcw := fun b o => Below.cell (p := ⟨b, o, none⟩) h1
          go_simp; rfl
        simp only [Act.put, List.setIfInBounds_toArray, List.set_cons_succ, List.set_cons_zero, List.nil_append, List.cons_append]
        apply Run.valG (by go_simp)
        · intro w1 h1 hk
          have r1 := h1.cell q1; have r2 := h1.cell q2; have hg := (Fut.drew _).trans h1
          have hcw := fun b o => Below.cell (p := ⟨b, o, none⟩) h1
          go_simp; rfl
        simp only [Act.put, List.setIfInBounds_toArray, List.set_cons_succ, List.set_cons_zero, List.nil_append, List.cons_append]
        apply Run.valG (by go_simp)
        · intro w1 h1 hk
          have r1 := h1.cell q1; have r2 := h1.cell q2; have hg := (Fut.drew _).trans h1
          have hcw := fun b o => Below.cell (p := ⟨b, o, none⟩) h1
          go_simp; rfl
        simp only [Act.put, List.setIfInBounds_toArray, List.set_cons_succ, List.set_cons_zero, List.nil_append, List.cons_append]
        apply Run.valG (by go_simp)
        · intro w1 h1 hk
          have r1 := h1.cell q1; have r2 := h1.cell q2; have hg := (Fut.drew _).trans h1
          have hcw := fun b o => Below.cell (p := ⟨b, o, none⟩) h1
          go_simp; rfl
        simp only [Act.put, List.setIfInBounds_toArray, List.set_cons_succ, List.set_cons_zero, List.nil_append, List.cons_append]
        apply Run.valG (by go_simp)
        · intro w1 h1 hk
          have r1 := h1.cell q1; have r2 := h1.cell q2; have hg := (Fut.drew _).trans h1
          have hcw := fun b o => Below.cell (p := ⟨b, o, none⟩) h1
          go_simp; rfl
        simp only [Act.put, List.setIfInBounds_toArray, List.set_cons_succ, List.set_cons_zero, List.nil_append, List.cons_append]
        apply Run.valG (by go_simp)
        · intro w1 h1 hk
          have r1 := h1.cell q1; have r2 := h1.cell q2; have hg := (Fut.drew _).trans h1
          have hcw := fun b o => Below.cell (p := ⟨b, o, none⟩) h1
          go_simp; rfl
        simp only [Act.put, List.setIfInBounds_toArray, List.set_cons_succ, List.set_cons_zero, List.nil_append, List.cons_append]
        apply Run.valG (wanted_none rfl _)
        · intro w1 h1 hk
          have r1 := h1.cell q1; have r2 := h1.cell q2; have hg := (Fut.drew _).trans h1
          have hcw := fun b o => Below.cell (p := ⟨b, o, none⟩) h1
          go_simp; rfl
        simp only [Act.put, List.setIfInBounds_toArray, List.set_cons_succ, List.set_cons_zero, List.nil_append, List.cons_append]
        apply Run.done
        intro w2 h2 hk
        clear hk
        have F3 := (Fut.drew _).trans h2
        have hB3 := F3.block hB.out
        have hC3 := F3.block hC.out
        have hlen : (cutK ar m k x).length = 24 := by rw [cutK_len]; exact hxl
        have ck := cell_at hB3 k _ (show _ = some (.int .i32 ((cutK ar m k x)[k]'(by omega))) by simp [Rw.cells, hlen, hlt])
        have fk := free_at hB3 k
        have hz : (bits .and .u32 (m : Int) (2 ^ k) == 0) = !m.testBit k := by
          have := and_bit hm hlt
          rw [show ((2 ^ k : Nat) : Int) = 2 ^ k by simp] at this
          rw [Bool.eq_iff_iff, beq_iff_eq, this]
          cases m.testBit k <;> simp
        rw [hz]
        obtain ⟨tb, htb⟩ : ∃ t, m.testBit k = t := ⟨_, rfl⟩
        rw [htb]
        cases tb with
        | true =>
          have ho : offB ar m k = false := by simp [offB, h1, htb]
          go_wp2
          go_roundw
          case rel => exact ⟨k + 1, by omega, by go_num, Lib.hid (by rw [cutK_keep ho]; exact hB3), Lib.hid hC3, Lib.hid (hF.out.trans F3)⟩
          case measure => simp [intOf] <;> omega
        | false =>
          have ho : offB ar m k = true := by simp [offB, htb]
          go_wp2
          go_roundw
          case rel =>
            refine ⟨k + 1, by omega, by go_num, Lib.hid ?_, Lib.hid ?_, Lib.hid ?_⟩
            · rw [cutK_set ho]; exact set_row hB3 0
            · rw [Below.heap_setCell _ _ _ _ (by simp)]; exact hC3
            · exact (hF.out.trans F3).set (by simp) _
          case measure => simp [intOf] <;> omega
    · obtain rfl : k = 24 := by omega
      have hB3 := hB.out
      have hC3 := hC.out
      have hrB := RowAt.of_block (cutK_ok X.out) hB3
      go_wp2_with (first | (refine wpList_load_R rowTy (wanted_none rfl _) _ rfl rfl hrB ?_) | (refine wpList_store_R rowTy (wanted_none rfl _) _ _ rfl rfl rfl hC3 rfl hrB.1 ?_))
      refine bodyPost_ret (results_row1 rfl rowTy rfl (RowAt.of_block hrB.1 (World.putObj_heap_same (by have := (Array.getElem?_eq_some_iff.1 hC3).1; exact this)))) rfl ?_
      exact ⟨rfl, ((Only.fut hF.out).trans (Only.put (S := fun k => k = w.heap.size + 1) _ _ rfl)).toFut (fun k hk => by omega)⟩
end Go.Proofs.Ytcekphjcmippoaa
/- slices.Clone of rows; Range: its iterator. -/
namespace Go.Proofs.Ytcekphjcmippoaa
open Go.RowKit Go.WideMaps
set_option linter.unusedSimpArgs false
set_option linter.unusedVariables false

theorem SlRep.empty0 {α : Type} {sz M : Nat} {R : World → List Value → α → Prop} {w : World} {n cap : Nat} {xs : List α} (h : SlRep sz M R w (.slice none n cap) xs) : xs = [] := by
  obtain ⟨A, cap', hv, _, _, hx⟩ := h
  cases xs with
  | nil => rfl
  | cons y r =>
    obtain ⟨_, _, _, hA, _⟩ := hx 0 y rfl
    injection hv with e1
    rw [← e1] at hA; cases hA
theorem own_made0 {B : Nat} {e : TypeId} (w : World) (hB : B ≤ w.heap.size) : OwnL 24 B e RR (w.alloc (.cells #[] e)) (.slice (some ⟨w.heap.size, 0, none⟩) 0 0) [] :=
  ⟨[], rfl, fun i cs x hi => by simp at hi, World.ownsRow_made w #[] 0 hB (Nat.zero_le _) (by simp)⟩
set_option maxHeartbeats 800000 in
set_option maxRecDepth 100000 in
theorem clone_R (v : Value) (xs : List Rw) (w : World) (h : Rws w v xs) (hl : xs.length ≤ 1407374883512) :
    Calls Try.prog 36 #[v] w fun e w' => ∃ u, e = .returned u ∧ OwnL 24 w.heap.size 32 RR w' u xs ∧ Fut w w' := by
  have H := Lib.hid h
  obtain ⟨A, cap, rfl, hc1, hc2⟩ := h.form
  clear h
  have q22 : ∀ (w : World) (a : Option Addr) (n c n' c' : Nat), (binOp .eql 25 (.slice a n c) (.slice none n' c')).run Try.prog w = .ok (.bool a.isNone) w := fun w a n c n' c' => Lib.run_eql_slice_nil w _ _ a n c n' c' Try.underlying25
  cases A with
  | none =>
    have hx := H.out.empty0
    subst hx
    go_enter Try.func36, Try.ntmps36
    go_wp2
    go_ret
    exact ⟨_, rfl, OwnL.nil, Fut.refl _⟩
  | some a =>
    go_enter Try.func36, Try.ntmps36
    have hO := own_made0 (e := 32) w (Nat.le_refl _)
    have hu := H.out.fut RR.stays (Fut.alloc w (.cells #[] 32))
    have hs : w.heap.size ≤ (w.alloc (.cells #[] 32)).heap.size := by simp
    go_wp2_with (first | (refine wpList_append_R (wanted_none rfl _) _ _ rfl Try.underlying25 infoR rfl rfl hO hu (by simpa using hl) hs ?_; intro v7 w7 hO7 hG7 hB7))
    go_ret
    refine ⟨_, rfl, hO7, (Fut.alloc w (.cells #[] 32)).grown hG7 fun j hj => ?_⟩
    cases hj; exact Nat.le_refl _
end Go.Proofs.Ytcekphjcmippoaa
/- Rows read, written, appended within a fence that lets everything in (an iterator's own body; a round). No program. -/
namespace Go.Proofs.Ytcekphjcmippoaa
open Go.RowKit Go.WideMaps
set_option linter.unusedSimpArgs false
set_option linter.unusedVariables false

section
variable {F : Fence} {n : Nat} {P : Program} {k e : TypeId} {w : World} {b off : Nat} {r : Rw} {o : Oper} {a : Act} {ops : Array Oper} {rest : List Oper} {Q : Exit → Act → World → Prop}
theorem semAt_plain (hnd : ∀ c, o.op ≠ .defer c) (ro : Option Nat) (ρ : Operand → Value) : Oper.semAt ro ρ o = execOp ρ o := by
  cases ro with
  | none => rfl
  | some l => exact Oper.semAt_some l ρ o hnd
theorem wpListIn_of_run (hF : ∀ f, F.fn f) {v : Value} {w' : World} (hnd : ∀ c, o.op ≠ .defer c) (hgd : Region.wanted o (yielded ops a.tmps) = true)
    (hrun : (execOp a.eval o).run P w = .ok (.value v) w') (h : wpListIn F n P ops Q rest (a.put o.dst v) w') : wpListIn F n P ops Q (o :: rest) a w := by
  refine wpListIn_step fun K hK => ?_
  rw [if_pos hgd]
  unfold Oper.wpIn
  refine ⟨fun f _ => hF f, ?_⟩
  rw [semAt_plain hnd, hrun]
  exact hK _ _ h
theorem wpListIn_of_skip (hF : ∀ f, F.fn f) {w' : World} (hnd : ∀ c, o.op ≠ .defer c) (hgd : Region.wanted o (yielded ops a.tmps) = true)
    (hrun : (execOp a.eval o).run P w = .ok .skip w') (h : wpListIn F n P ops Q rest (a.put o.dst undef) w') : wpListIn F n P ops Q (o :: rest) a w := by
  refine wpListIn_step fun K hK => ?_
  rw [if_pos hgd]
  unfold Oper.wpIn
  refine ⟨fun f _ => hF f, ?_⟩
  rw [semAt_plain hnd, hrun]
  exact hK _ _ h
theorem wpListIn_load_R (hF : ∀ f, F.fn f) (T : RowTy P k e) (hgd : Region.wanted o (yielded ops a.tmps) = true) (x : Operand) (ho : o.op = .load k x) (hx : a.eval x = .pointer (some ⟨b, off, none⟩)) (hr : RowAt w b off r)
    (h : wpListIn F n P ops Q rest (a.put o.dst (Rw.val r)) w) : wpListIn F n P ops Q (o :: rest) a w :=
  wpListIn_of_run hF (fun c h => by rw [ho] at h; cases h) hgd (exec_load_R T x ho hx hr) h
theorem wpListIn_store_new (hF : ∀ f, F.fn f) (T : RowTy P k e) (hgd : Region.wanted o (yielded ops a.tmps) = true) {t : TypeId} {arr : Array Value} (x y : Operand) (ho : o.op = .store k x y) (hx : a.eval x = .pointer (some ⟨w.heap.size, 0, none⟩)) (hy : a.eval y = Rw.val r) (hs : arr.size = 24) (hr : Rw.ok r)
    (h : wpListIn F n P ops Q rest (a.put o.dst undef) (w.alloc (.cells (Rw.cells r).toArray t))) : wpListIn F n P ops Q (o :: rest) a (w.alloc (.cells arr t)) := by
  refine wpListIn_of_skip hF (fun c h => by rw [ho] at h; cases h) hgd (exec_store_R T x y ho hx hy (heap_alloc_new w _) hs hr) ?_
  rw [putObj_alloc]; exact h
end
theorem wide_fn : ∀ f, Fence.wide.fn f := fun _ => trivial
theorem round_fn (l : Nat) : ∀ f, (Fence.wide.inRound l).fn f := fun _ => trivial
end Go.Proofs.Ytcekphjcmippoaa
