/- lives: a relation takes two rows, and tells them. -/
import Derived.Test.YtcekphjcmippoaaRelT
namespace Go.Proofs.Ytcekphjcmippoaa
open Go.RowKit Go.WideMaps
set_option linter.unusedSimpArgs false
set_option linter.unusedVariables false

def row31 : Rw := [3, 1, 0, 0, 0, 0, 0, 0, 0, 0, 0, 0, 0, 0, 0, 0, 0, 0, 0, 0, 0, 0, 0, 0]
def row12 : Rw := [1, 2, 0, 0, 0, 0, 0, 0, 0, 0, 0, 0, 0, 0, 0, 0, 0, 0, 0, 0, 0, 0, 0, 0]
theorem row31_ok : Rw.ok row31 := ⟨rfl, by decide⟩
theorem row12_ok : Rw.ok row12 := ⟨rfl, by decide⟩
set_option maxHeartbeats 1600000 in
set_option maxRecDepth 100000 in
theorem lives10 (w : World) : Calls Try.prog 8 #[] w fun e w' => e = .returned (.bool true) ∧ Fut w w' := by
  go_enter Try.func8, Try.ntmps8
  go_wp2_with fail
  refine (new_any 2 (by omega) _).mono ?_
  rintro e w1 ⟨b, pb, mb, rfl, hR, f1⟩
  have HR := Lib.hid hR
  have F1 := Lib.hid f1
  clear hR f1
  go_wp2_with fail
  refine (add_any HR.out (by exact F1.out.size) row31 row31_ok (by simp)).mono ?_
  rintro e w2 ⟨rfl, lv2, hR2, hO2, hV2⟩
  have e2 : (rightP 2 row31 && !decide (row31 ∈ ([] : List Rw))) = true := by decide
  have e2' : rowErr (rightP 2 row31) = 0 := by decide
  have e2'' : addL 2 [] row31 = [row31] := by decide
  rw [e2, e2']
  rw [e2''] at hR2
  have HR2 := Lib.hid hR2
  have F2 := Lib.hid (((Only.fut F1.out).trans (hO2.mono (S' := fun k => w.heap.size ≤ k) fun k _ hk => HR.out.pl.ge k hk)).toFut fun k hk => hk)
  clear hR2 hO2 hV2
  go_wp2_with fail
  refine (add_any HR2.out (by exact F2.out.size) row12 row12_ok (by simp)).mono ?_
  rintro e w3 ⟨rfl, lv3, hR3, hO3, hV3⟩
  have e3 : (rightP 2 row12 && !decide (row12 ∈ [row31])) = true := by decide
  have e3' : rowErr (rightP 2 row12) = 0 := by decide
  have e3'' : addL 2 [row31] row12 = [row31, row12] := by decide
  rw [e3, e3']
  rw [e3''] at hR3
  have HR3 := Lib.hid hR3
  have F3 := Lib.hid (((Only.fut F2.out).trans (hO3.mono (S' := fun k => w.heap.size ≤ k) fun k _ hk => HR2.out.pl.ge k hk)).toFut fun k hk => hk)
  clear hR3 hO3 hV3
  go_wp2_with fail
  refine (at_any HR3.out 1 (by simp)).mono ?_
  rintro e w4 ⟨rfl, f4⟩
  have HR4 := Lib.hid (HR3.out.fut f4)
  have F4 := Lib.hid (F3.out.trans f4)
  clear f4 HR3 F3
  have hr := RowAt.new w4 32 row12_ok
  have F5 := Lib.hid (F4.out.trans (Fut.alloc w4 (.cells (Rw.cells row12).toArray 32)))
  have HR5 := Lib.hid (HR4.out.fut (Fut.alloc w4 (.cells (Rw.cells row12).toArray 32)))
  go_wp2_with (first | (refine wpList_store_new rowTy (wanted_none rfl _) _ _ rfl rfl rfl rfl row12_ok ?_) | (refine wpList_load_R rowTy (by go_simp) _ rfl rfl hr ?_) | (refine wpList_of_run (by go_simp) (exec_eql_R rowTy noGuard _ _ _ rfl rfl (show _ = Rw.val row12 from rfl) row12_ok row12_ok) ?_))
  refine (len_any HR5.out).mono ?_
  rintro e w6 ⟨rfl, hw6⟩
  have hw6' := hw6.symm
  subst hw6'
  go_wp2_with fail
  refine (arity_any HR5.out).mono ?_
  rintro e w6 ⟨rfl, hw6⟩
  have hw6' := hw6.symm
  subst hw6'
  go_wp2_with fail
  refine (has_any HR5.out row31 row31_ok).mono ?_
  rintro e w6 ⟨rfl, f6⟩
  rw [show decide (row31 ∈ [row31, row12]) = true from by decide]
  go_wp2
  go_ret
  exact ⟨rfl, F5.out.trans f6⟩
end Go.Proofs.Ytcekphjcmippoaa
