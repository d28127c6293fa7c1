/- width; At where no row is. -/
import Derived.Test.YtcekphjcmippoaaRelG
namespace Go.Proofs.Ytcekphjcmippoaa
open Go.RowKit Go.WideMaps
set_option linter.unusedSimpArgs false
set_option linter.unusedVariables false

def widN (n : Int) : Nat := (Int.tmod n 25).natAbs
theorem widN_le (n : Int) : widN n ≤ 24 := by
  unfold widN
  have h := Int.natAbs_tmod n 25
  rw [h]
  have := Nat.mod_lt n.natAbs (show 0 < (25 : Int).natAbs by decide)
  have e : (25 : Int).natAbs = 25 := rfl
  omega
set_option maxHeartbeats 400000 in
theorem width_any (n : Int) (w : World) : Calls Try.prog 18 #[.int .i64 n] w fun e w' => e = .returned (.int .i64 (widN n)) ∧ w' = w := by
  have hl := widN_le n
  have hb : -24 ≤ Int.tmod n 25 ∧ Int.tmod n 25 ≤ 24 := by unfold widN at hl; omega
  have e1 : wrap64 (Int.tmod n 25) = Int.tmod n 25 := by unfold wrap64; omega
  have e2 : IntKind.i64.wrap (Int.tmod n 25) = Int.tmod n 25 := by rw [IntKind.wrap_i64]; omega
  by_cases h0 : Int.tmod n 25 < 0
  · have e3 : IntKind.i64.wrap (-(Int.tmod n 25)) = -(Int.tmod n 25) := by rw [IntKind.wrap_i64]; omega
    have h := Lib.hid (show ((widN n : Nat) : Int) = -(Int.tmod n 25) by unfold widN; omega)
    go_enter Try.func18, Try.ntmps18
    go_wp2
    go_ret
    rw [h.out]
    exact ⟨rfl, rfl⟩
  · have h := Lib.hid (show ((widN n : Nat) : Int) = Int.tmod n 25 by unfold widN; omega)
    go_enter Try.func18, Try.ntmps18
    go_wp2
    go_ret
    rw [h.out]
    exact ⟨rfl, rfl⟩
theorem exec_build0_R {w : World} {o : Oper} {a : Act} (ho : o.op = .build 32 #[]) : (execOp a.eval o).run Try.prog w = .ok (.value (Rw.val zeroRow)) w := by
  unfold execOp
  rw [ho]
  kernel_rfl
set_option maxHeartbeats 800000 in
set_option maxRecDepth 100000 in
theorem at_bad {B : Nat} {w : World} {b pb mb : Nat} {lv : Value} {ar gone : Nat} {xs : List Rw} (h : RelI B w b pb mb lv ar gone xs) (i : Int) (hi : i < 0 ∨ (xs.length : Int) ≤ i) :
    Calls Try.prog 16 #[.pointer (some ⟨b, 0, none⟩), .int .i64 i] w fun e w' => e = .returned (.tuple #[Rw.val zeroRow, .int .i64 1]) ∧ Fut w w' := by
  have c2 := cell_at h.blk 2 _ rfl
  have p0 := cell_at h.pl.blk 0 _ rfl
  have HH := Lib.hid (fun W1 (F1 : Fut w W1) => there_any (h.fut F1))
  obtain ⟨A, cap, rfl, hl, hm⟩ := h.pl.form
  clear h
  go_enter Try.func16, Try.ntmps16
  go_wp2_with fail
  rw [zeros_eq]
  have hN := heap_alloc_new w (.cells (Rw.cells zeroRow).toArray 32)
  have F1 := Fut.alloc w (.cells (Rw.cells zeroRow).toArray 32)
  have hw : w.heap.size < (w.alloc (.cells (Rw.cells zeroRow).toArray 32)).heap.size := by simp
  obtain ⟨W1, hW⟩ : ∃ W1, w.alloc (.cells (Rw.cells zeroRow).toArray 32) = W1 := ⟨_, rfl⟩
  rw [hW] at hN F1 hw ⊢
  clear hW
  refine (HH.out W1 F1).mono ?_
  rintro e w1 ⟨rfl, hw1⟩
  have hw2 := hw1.symm
  subst hw2
  replace c2 := F1.cell c2
  replace p0 := F1.cell p0
  by_cases hn : i < 0
  · go_wp2_with (first | (refine wpList_of_run (wanted_none rfl _) (exec_build0_R rfl) ?_) | (refine wpList_store_R rowTy (wanted_none rfl _) _ _ rfl rfl rfl hN rfl zeroRow_ok ?_))
    refine bodyPost_ret (results_row rfl rowTy rfl (RowAt.of_block zeroRow_ok (World.putObj_heap_same hw)) (by rfl)) rfl ?_
    exact ⟨rfl, ((Only.fut F1).trans (Only.put (S := fun k => k = w.heap.size) _ _ rfl)).toFut (fun k hk => Nat.le_of_eq hk.symm)⟩
  · have hge : (xs.length : Int) ≤ i := by omega
    go_wp2_with (first | (refine wpList_of_run (wanted_none rfl _) (exec_build0_R rfl) ?_) | (refine wpList_store_R rowTy (wanted_none rfl _) _ _ rfl rfl rfl hN rfl zeroRow_ok ?_))
    refine bodyPost_ret (results_row rfl rowTy rfl (RowAt.of_block zeroRow_ok (World.putObj_heap_same hw)) (by rfl)) rfl ?_
    exact ⟨rfl, ((Only.fut F1).trans (Only.put (S := fun k => k = w.heap.size) _ _ rfl)).toFut (fun k hk => Nat.le_of_eq hk.symm)⟩
end Go.Proofs.Ytcekphjcmippoaa
