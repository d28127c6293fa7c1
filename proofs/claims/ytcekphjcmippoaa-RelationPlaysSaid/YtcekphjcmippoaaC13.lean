/- RelNil, RefG, RBlk -/
import Derived.Test.YtcekphjcmippoaaC12
/- A relation that is not there: a nil pointer, a zero struct: what every call answers. -/
namespace Go.Proofs.Ytcekphjcmippoaa
open Go.RowKit Go.WideMaps Go.Shelf
set_option linter.unusedSimpArgs false
set_option linter.unusedVariables false
attribute [local go_sem] Oper.semAt_some

/-- A relation that is not there. -/
def TNone (w : World) (p : Option Addr) : Prop := p = none ∨ ∃ b, p = some ⟨b, 0, none⟩ ∧ w.heap[b]? = some (.cells #[.int .i64 0, .int .i64 0, .pointer none] 73 (0, 0))
theorem TNone.fut {w w' : World} {p : Option Addr} (h : TNone w p) (hf : Fut w w') : TNone w' p := by
  rcases h with rfl | ⟨b, rfl, h⟩
  · exact .inl rfl
  · exact .inr ⟨b, rfl, hf.block h⟩
set_option maxHeartbeats 400000 in
theorem there_none {w : World} {p : Option Addr} (h : TNone w p) : Calls Try.prog 30 #[.pointer p] w fun e w' => e = .returned (.bool false) ∧ w' = w := by
  rcases h with rfl | ⟨b, rfl, h⟩
  · go_enter Try.func30, Try.ntmps30
    go_wp2
    go_ret
    exact ⟨rfl, rfl⟩
  · have c2 := cell_at h 2 _ rfl
    go_enter Try.func30, Try.ntmps30
    go_wp2
    go_ret
    exact ⟨rfl, rfl⟩
set_option maxHeartbeats 400000 in
theorem arity_none {w : World} {p : Option Addr} (h : TNone w p) : Calls Try.prog 11 #[.pointer p] w fun e w' => e = .returned (.int .i64 0) ∧ w' = w := by
  have H := Lib.hid h
  clear h
  go_enter Try.func11, Try.ntmps11
  go_wp2_with fail
  refine (there_none H.out).mono ?_
  rintro e w1 ⟨rfl, hw1⟩
  have hw1' := hw1.symm
  subst hw1'
  go_wp2
  go_ret
  exact ⟨rfl, rfl⟩
set_option maxHeartbeats 400000 in
theorem len_none {w : World} {p : Option Addr} (h : TNone w p) : Calls Try.prog 13 #[.pointer p] w fun e w' => e = .returned (.int .i64 0) ∧ w' = w := by
  have H := Lib.hid h
  clear h
  go_enter Try.func13, Try.ntmps13
  go_wp2_with fail
  refine (there_none H.out).mono ?_
  rintro e w1 ⟨rfl, hw1⟩
  have hw1' := hw1.symm
  subst hw1'
  go_wp2
  go_ret
  exact ⟨rfl, rfl⟩
set_option maxHeartbeats 400000 in
theorem gone_none {w : World} {p : Option Addr} (h : TNone w p) : Calls Try.prog 12 #[.pointer p] w fun e w' => e = .returned (.int .i64 0) ∧ w' = w := by
  have H := Lib.hid h
  clear h
  go_enter Try.func12, Try.ntmps12
  go_wp2_with fail
  refine (there_none H.out).mono ?_
  rintro e w1 ⟨rfl, hw1⟩
  have hw1' := hw1.symm
  subst hw1'
  go_wp2
  go_ret
  exact ⟨rfl, rfl⟩
set_option maxHeartbeats 400000 in
set_option maxRecDepth 100000 in
theorem has_none {w : World} {p : Option Addr} (h : TNone w p) (x : Rw) (hx : Rw.ok x) : Calls Try.prog 19 #[.pointer p, Rw.val x] w fun e w' => e = .returned (.bool false) ∧ Fut w w' := by
  have H := Lib.hid h
  have f1 := Fut.alloc w (.cells (Rw.cells x).toArray 32)
  clear h
  unfold Rw.val
  go_enter Try.func19, Try.ntmps19
  go_wp2_with fail
  refine (there_none (H.out.fut f1)).mono ?_
  rintro e w1 ⟨rfl, hw1⟩
  have hw1' := hw1.symm
  subst hw1'
  go_wp2
  go_ret
  exact ⟨rfl, f1⟩
set_option maxHeartbeats 400000 in
set_option maxRecDepth 100000 in
theorem add_none {w : World} {p : Option Addr} (h : TNone w p) (x : Rw) (hx : Rw.ok x) : Calls Try.prog 15 #[.pointer p, Rw.val x] w fun e w' => e = .returned (.tuple #[.bool false, .int .i64 2]) ∧ Fut w w' := by
  have H := Lib.hid h
  have f1 := Fut.alloc w (.cells (Rw.cells x).toArray 32)
  clear h
  unfold Rw.val
  go_enter Try.func15, Try.ntmps15
  go_wp2_with fail
  refine (there_none (H.out.fut f1)).mono ?_
  rintro e w1 ⟨rfl, hw1⟩
  have hw1' := hw1.symm
  subst hw1'
  go_wp2
  go_ret2
  exact ⟨rfl, f1⟩
set_option maxHeartbeats 400000 in
set_option maxRecDepth 100000 in
theorem remove_none {w : World} {p : Option Addr} (h : TNone w p) (x : Rw) (hx : Rw.ok x) : Calls Try.prog 14 #[.pointer p, Rw.val x] w fun e w' => e = .returned (.bool false) ∧ Fut w w' := by
  have f1 := Fut.alloc w (.cells (Rw.cells x).toArray 32)
  have H := Lib.hid (h.fut f1)
  clear h
  unfold Rw.val
  go_enter Try.func14, Try.ntmps14
  go_wp2_with fail
  obtain ⟨W1, hW⟩ : ∃ W1, w.alloc (.cells (Rw.cells x).toArray 32) = W1 := ⟨_, rfl⟩
  rw [hW] at H f1 ⊢
  clear hW
  refine wp_graph 12 [.d, .d, .d, .d, .d, .d, .d, .d, .d, .d, .d, .d] (by kernel_rfl) (by kernel_rfl) (by kernel_rfl) ?_
  simp only [List.take_succ_cons, List.take_zero, List.drop_succ_cons, List.drop_zero, Exs]
  iterate 12 apply Exists.intro
  apply Run.valG (wanted_none rfl _)
  · intro w1 h1 hk
    have hg := (Fut.drew _).trans h1
    have hcw := fun b o => Below.cell (p := ⟨b, o, none⟩) h1
    go_simp; rfl
  simp only [Act.put, List.setIfInBounds_toArray, List.set_cons_succ, List.set_cons_zero, List.nil_append, List.cons_append]
  apply Run.call (wanted_none rfl _) (fun _ _ => by go_simp; exact ⟨rfl, rfl⟩)
  · intro w1 h1 hk
    have hg := (Fut.drew _).trans h1
    refine (there_none (H.out.fut hg)).mono ?_; rintro e w' ⟨rfl, rfl⟩; exact ⟨rfl, Fut.refl _⟩
  simp only [Act.put, List.setIfInBounds_toArray, List.set_cons_succ, List.set_cons_zero, List.nil_append, List.cons_append]
  apply Run.valG (wanted_none rfl _)
  · intro w1 h1 hk
    have hg := (Fut.drew _).trans h1
    have hcw := fun b o => Below.cell (p := ⟨b, o, none⟩) h1
    go_simp; rfl
  simp only [Act.put, List.setIfInBounds_toArray, List.set_cons_succ, List.set_cons_zero, List.nil_append, List.cons_append]
  apply Run.valG (wanted_none rfl _)
  · intro w1 h1 hk
    have hg := (Fut.drew _).trans h1
    have hcw := fun b o => Below.cell (p := ⟨b, o, none⟩) h1
    go_simp; rfl
  simp only [Act.put, List.setIfInBounds_toArray, List.set_cons_succ, List.set_cons_zero, List.nil_append, List.cons_append]
  apply Run.skip (by go_simp)
  simp only [Act.put, List.setIfInBounds_toArray, List.set_cons_succ, List.set_cons_zero, List.nil_append, List.cons_append]
  apply Run.skip (by go_simp)
  simp only [Act.put, List.setIfInBounds_toArray, List.set_cons_succ, List.set_cons_zero, List.nil_append, List.cons_append]
  apply Run.skip (by go_simp)
  simp only [Act.put, List.setIfInBounds_toArray, List.set_cons_succ, List.set_cons_zero, List.nil_append, List.cons_append]
  apply Run.skip (by go_simp)
  simp only [Act.put, List.setIfInBounds_toArray, List.set_cons_succ, List.set_cons_zero, List.nil_append, List.cons_append]
  apply Run.skip (by go_simp)
  simp only [Act.put, List.setIfInBounds_toArray, List.set_cons_succ, List.set_cons_zero, List.nil_append, List.cons_append]
  apply Run.skip (by go_simp)
  simp only [Act.put, List.setIfInBounds_toArray, List.set_cons_succ, List.set_cons_zero, List.nil_append, List.cons_append]
  apply Run.skip (by go_simp)
  simp only [Act.put, List.setIfInBounds_toArray, List.set_cons_succ, List.set_cons_zero, List.nil_append, List.cons_append]
  apply Run.valG (wanted_none rfl _)
  · intro w1 h1 hk
    have hg := (Fut.drew _).trans h1
    have hcw := fun b o => Below.cell (p := ⟨b, o, none⟩) h1
    go_simp; rfl
  simp only [Act.put, List.setIfInBounds_toArray, List.set_cons_succ, List.set_cons_zero, List.nil_append, List.cons_append]
  apply Run.done
  intro w2 h2 hk
  clear hk
  go_wp2
  go_ret
  exact ⟨rfl, f1.trans ((Fut.drew _).trans h2)⟩
set_option maxHeartbeats 400000 in
set_option maxRecDepth 100000 in
theorem sorted_none {w : World} {p : Option Addr} (h : TNone w p) : Calls Try.prog 21 #[.pointer p] w fun e w' => e = .returned (.slice none 0 0) ∧ w' = w := by
  have H := Lib.hid h
  clear h
  go_enter Try.func21, Try.ntmps21
  go_wp2_with fail
  refine (there_none H.out).mono ?_
  rintro e w1 ⟨rfl, hw1⟩
  have hw1' := hw1.symm
  subst hw1'
  go_wp2
  go_ret
  exact ⟨rfl, rfl⟩
set_option maxHeartbeats 400000 in
set_option maxRecDepth 100000 in
theorem clone_none {w : World} {p : Option Addr} (h : TNone w p) : Calls Try.prog 10 #[.pointer p] w fun e w' => e = .returned (.pointer none) ∧ w' = w := by
  have H := Lib.hid h
  clear h
  refine (callsIn_wide (n := 3)).1 ?_
  refine callsIn_of_wp_marks Try.func10 rfl trivial ?_ rfl
  refine wpIn_wide.2 ?_
  simp only [Try.ntmps10, List.size_toArray, List.length_cons, List.length_nil, Nat.reduceAdd, Nat.reduceSub, Array.replicate_succ, Array.replicate_zero, List.push_toArray, List.append_toArray, List.nil_append, List.cons_append]
  go_wp2_with fail
  refine (there_none H.out).mono ?_
  rintro e w1 ⟨rfl, hw1⟩
  have hw1' := hw1.symm
  subst hw1'
  go_wp2
  exact ⟨_, results_tmp rfl _ _ _, rfl, rfl⟩
set_option maxHeartbeats 800000 in
set_option maxRecDepth 100000 in
theorem at_none {w : World} {p : Option Addr} (h : TNone w p) (i : Int) :
    Calls Try.prog 16 #[.pointer p, .int .i64 i] w fun e w' => e = .returned (.tuple #[Rw.val zeroRow, .int .i64 2]) ∧ Fut w w' := by
  have HH := Lib.hid (fun W1 (F1 : Fut w W1) => there_none (h.fut F1))
  clear h
  go_enter Try.func16, Try.ntmps16
  go_wp2_with fail
  rw [zeros_eq]
  have hN := heap_alloc_new w (.cells (Rw.cells zeroRow).toArray 32)
  have F1 := Fut.alloc w (.cells (Rw.cells zeroRow).toArray 32)
  have hw : w.heap.size < (w.alloc (.cells (Rw.cells zeroRow).toArray 32)).heap.size := by simp
  obtain ⟨W1, hW⟩ : ∃ W1, w.alloc (.cells (Rw.cells zeroRow).toArray 32) = W1 := ⟨_, rfl⟩
  rw [hW] at hN F1 hw ⊢
  clear hW
  refine (HH.out W1 F1).mono ?_
  rintro e w1 ⟨rfl, hw1⟩
  have hw2 := hw1.symm
  subst hw2
  go_wp2_with (first | (refine wpList_of_run (wanted_none rfl _) (exec_build0_R rfl) ?_) | (refine wpList_store_R rowTy (wanted_none rfl _) _ _ rfl rfl rfl hN rfl zeroRow_ok ?_))
  refine bodyPost_ret (results_row rfl rowTy rfl (RowAt.of_block zeroRow_ok (World.putObj_heap_same hw)) (by rfl)) rfl ?_
  exact ⟨rfl, ((Only.fut F1).trans (Only.put (S := fun k => k = w.heap.size) _ _ rfl)).toFut (fun k hk => Nat.le_of_eq hk.symm)⟩
set_option maxHeartbeats 1600000 in
set_option maxRecDepth 100000 in
theorem range_iter_none {w : World} {p : Option Addr} (h : TNone w p) (f t : Int) (lb : Array Value) (hs : SeqAt w lb (.pointer p) f t) :
    IterAt Try.prog 35 lb (hiS [] t - loS f) (spanArgs [] f) w := by
  intro l J Jx h0 hst hY
  obtain ⟨b1, b2, b3, rfl, c1, c2, c3⟩ := hs
  have HN := Lib.hid h
  have H0 := Lib.hid h0
  have hN : hiS [] t - loS f = 0 := by simp [hiS]
  clear h h0 hst hY
  refine (callsIn_wide (n := 3)).1 ?_
  refine callsIn_of_wp Try.func35 rfl trivial ?_ rfl
  simp only [Try.ntmps35, List.size_toArray, List.length_cons, List.length_nil, Nat.reduceAdd, Nat.reduceSub, Array.replicate_succ, Array.replicate_zero, List.push_toArray, List.append_toArray, List.nil_append, List.cons_append]
  gi_wp2_with fail
  refine ⟨trivial, (callsIn_wide.2 (len_none HN.out)).mono ?_⟩
  rintro e w1 ⟨rfl, hw1⟩
  have hw2 := hw1.symm
  subst hw2
  gi_wp2_with fail
  refine wpIn_wide.2 ?_
  refine wp_graph 7 [.d, .d, .d, .d, .d, .d, .d] (by kernel_rfl) (by kernel_rfl) (by kernel_rfl) ?_
  simp only [List.take_succ_cons, List.take_zero, List.drop_succ_cons, List.drop_zero, Exs]
  iterate 7 apply Exists.intro
  apply Run.valG (wanted_none rfl _)
  · intro w1 h1 hk
    have q2 := h1.cell c2; have q3 := h1.cell c3
    have hcw := fun b o => Below.cell (p := ⟨b, o, none⟩) h1
    go_simp; rfl
  simp only [Act.put, List.setIfInBounds_toArray, List.set_cons_succ, List.set_cons_zero, List.nil_append, List.cons_append]
  apply Run.valG (wanted_none rfl _)
  · intro w1 h1 hk
    have q2 := h1.cell c2; have q3 := h1.cell c3
    have hcw := fun b o => Below.cell (p := ⟨b, o, none⟩) h1
    go_simp; rfl
  simp only [Act.put, List.setIfInBounds_toArray, List.set_cons_succ, List.set_cons_zero, List.nil_append, List.cons_append]
  apply Run.valG (wanted_none rfl _)
  · intro w1 h1 hk
    have q2 := h1.cell c2; have q3 := h1.cell c3
    have hcw := fun b o => Below.cell (p := ⟨b, o, none⟩) h1
    go_simp; rfl
  simp only [Act.put, List.setIfInBounds_toArray, List.set_cons_succ, List.set_cons_zero, List.nil_append, List.cons_append]
  apply Run.valG (wanted_none rfl _)
  · intro w1 h1 hk
    have q2 := h1.cell c2; have q3 := h1.cell c3
    have hcw := fun b o => Below.cell (p := ⟨b, o, none⟩) h1
    go_simp; rfl
  simp only [Act.put, List.setIfInBounds_toArray, List.set_cons_succ, List.set_cons_zero, List.nil_append, List.cons_append]
  apply Run.valG (wanted_none rfl _)
  · intro w1 h1 hk
    have q2 := h1.cell c2; have q3 := h1.cell c3
    have hcw := fun b o => Below.cell (p := ⟨b, o, none⟩) h1
    go_simp; rfl
  simp only [Act.put, List.setIfInBounds_toArray, List.set_cons_succ, List.set_cons_zero, List.nil_append, List.cons_append]
  apply Run.valG (wanted_none rfl _)
  · intro w1 h1 hk
    have q2 := h1.cell c2; have q3 := h1.cell c3
    have hcw := fun b o => Below.cell (p := ⟨b, o, none⟩) h1
    go_simp; rfl
  simp only [Act.put, List.setIfInBounds_toArray, List.set_cons_succ, List.set_cons_zero, List.nil_append, List.cons_append]
  apply Run.valG (wanted_none rfl _)
  · intro w1 h1 hk
    have q2 := h1.cell c2; have q3 := h1.cell c3
    have hcw := fun b o => Below.cell (p := ⟨b, o, none⟩) h1
    go_simp; rfl
  simp only [Act.put, List.setIfInBounds_toArray, List.set_cons_succ, List.set_cons_zero, List.nil_append, List.cons_append]
  apply Run.done
  intro w2 h2 hk
  clear hk
  have F2 := (Fut.drew w).trans h2
  have d1 : min t 0 ≤ max f 0 := by omega
  have hJ := H0.out w2 F2
  rw [← hN] at hJ
  go_wp2_with fail
  gi_wp2
  refine bodyPost_ret (results_none rfl _ _ _) rfl ?_
  exact ⟨⟨_, rfl⟩, .inl ⟨_, hJ⟩⟩
theorem select_none {w : World} {p : Option Addr} {m : Nat} (hm : m < 2 ^ 32) (h : TNone w p) (x : Rw) (hx : Rw.ok x) :
    Calls Try.prog 17 #[.pointer p, .int .u32 m, Rw.val x] w fun e w' => ∃ v, e = .returned v ∧ OwnL 1 w.heap.size 3 RI w' v [] ∧ Fut w w' :=
  select_core (ar := 0) (xs := []) hm (fun W hW => arity_none (h.fut hW)) (fun W hW => len_none (h.fut hW)) (fun W lb hW hs => range_iter_none (h.fut hW) 0 _ lb hs) (fun x hx => by cases hx) (by simp) x hx
end Go.Proofs.Ytcekphjcmippoaa
/- sameInts, sameRows, tells. -/
namespace Go.Proofs.Ytcekphjcmippoaa
open Go.RowKit Go.WideMaps Go.Shelf
set_option linter.unusedSimpArgs false
set_option linter.unusedVariables false
attribute [local go_sem] Oper.semAt_some

set_option maxHeartbeats 400000 in
set_option maxRecDepth 100000 in
theorem sameInts_any {w : World} {u v : Value} {xs : List Int} {M N : Nat} (ha : SlRep 1 M RI w u xs) (hb : SlRep 1 N RI w v xs) (hl : xs.length ≤ 17592186044416) :
    Calls Try.prog 47 #[u, v] w fun e w' => e = .returned (.bool true) ∧ Fut w w' := by
  have HA := Lib.hid ha
  have HB := Lib.hid hb
  obtain ⟨A, cap, rfl, hc1, _⟩ := ha.form
  obtain ⟨B, cap', rfl, hc2, _⟩ := hb.form
  clear ha hb
  go_enter Try.func47, Try.ntmps47
  go_wp2_with fail
  go_loopw [5] (fun i wr => ∃ k : Nat, k ≤ xs.length ∧ i = .int .i64 k ∧ Hid (Fut w wr)) (fun i _ => xs.length - (intOf i).toNat)
  case atStart => exact ⟨0, Nat.zero_le _, rfl, Lib.hid (Fut.refl _)⟩
  case round =>
    obtain ⟨k, hk, rfl, hG⟩ := hrel
    by_cases hlt : k < xs.length
    · have hltI : (k : Int) < xs.length := by omega
      have e1 : (0 : Int) ≤ k ∧ (k : Int) < xs.length := by omega
      obtain ⟨ga, oa, rfl, ca⟩ := int_at (HA.out.fut RI.stays hG.out) (List.getElem?_eq_getElem hlt)
      obtain ⟨gb, ob, rfl, cb⟩ := int_at (HB.out.fut RI.stays hG.out) (List.getElem?_eq_getElem hlt)
      generalize xs[k] = y at ca cb
      go_wp2_with fail
      refine wp_graph 9 [.d, .d, .d, .d, .d, .d, .d, .d, .d] (by kernel_rfl) (by kernel_rfl) (by kernel_rfl) ?_
      simp only [List.take_succ_cons, List.take_zero, List.drop_succ_cons, List.drop_zero, Exs]
      iterate 9 apply Exists.intro
      apply Run.valG (wanted_none rfl _)
      · intro w1 h1 hk
        have q1 := h1.cell ca; have q2 := h1.cell cb
        have hcw := fun b o => Below.cell (p := ⟨b, o, none⟩) h1
        go_simp; rfl
      simp only [Act.put, List.setIfInBounds_toArray, List.set_cons_succ, List.set_cons_zero, List.nil_append, List.cons_append]
      apply Run.valG (wanted_none rfl _)
      · intro w1 h1 hk
        have q1 := h1.cell ca; have q2 := h1.cell cb
        have hcw := fun b o => Below.cell (p := ⟨b, o, none⟩) h1
        go_simp; rfl
      simp only [Act.put, List.setIfInBounds_toArray, List.set_cons_succ, List.set_cons_zero, List.nil_append, List.cons_append]
      apply Run.valG (wanted_none rfl _)
      · intro w1 h1 hk
        have q1 := h1.cell ca; have q2 := h1.cell cb
        have hcw := fun b o => Below.cell (p := ⟨b, o, none⟩) h1
        go_simp; rfl
      simp only [Act.put, List.setIfInBounds_toArray, List.set_cons_succ, List.set_cons_zero, List.nil_append, List.cons_append]
      apply Run.valG (wanted_none rfl _)
      · intro w1 h1 hk
        have q1 := h1.cell ca; have q2 := h1.cell cb
        have hcw := fun b o => Below.cell (p := ⟨b, o, none⟩) h1
        go_simp; rfl
      simp only [Act.put, List.setIfInBounds_toArray, List.set_cons_succ, List.set_cons_zero, List.nil_append, List.cons_append]
      apply Run.valG (wanted_none rfl _)
      · intro w1 h1 hk
        have q1 := h1.cell ca; have q2 := h1.cell cb
        have hcw := fun b o => Below.cell (p := ⟨b, o, none⟩) h1
        go_simp; rfl
      simp only [Act.put, List.setIfInBounds_toArray, List.set_cons_succ, List.set_cons_zero, List.nil_append, List.cons_append]
      apply Run.valG (wanted_none rfl _)
      · intro w1 h1 hk
        have q1 := h1.cell ca; have q2 := h1.cell cb
        have hcw := fun b o => Below.cell (p := ⟨b, o, none⟩) h1
        go_simp; rfl
      simp only [Act.put, List.setIfInBounds_toArray, List.set_cons_succ, List.set_cons_zero, List.nil_append, List.cons_append]
      apply Run.valG (wanted_none rfl _)
      · intro w1 h1 hk
        have q1 := h1.cell ca; have q2 := h1.cell cb
        have hcw := fun b o => Below.cell (p := ⟨b, o, none⟩) h1
        go_simp; rfl
      simp only [Act.put, List.setIfInBounds_toArray, List.set_cons_succ, List.set_cons_zero, List.nil_append, List.cons_append]
      apply Run.valG (wanted_none rfl _)
      · intro w1 h1 hk
        have q1 := h1.cell ca; have q2 := h1.cell cb
        have hcw := fun b o => Below.cell (p := ⟨b, o, none⟩) h1
        go_simp; rfl
      simp only [Act.put, List.setIfInBounds_toArray, List.set_cons_succ, List.set_cons_zero, List.nil_append, List.cons_append]
      apply Run.valG (wanted_none rfl _)
      · intro w1 h1 hk
        have q1 := h1.cell ca; have q2 := h1.cell cb
        have hcw := fun b o => Below.cell (p := ⟨b, o, none⟩) h1
        go_simp; rfl
      simp only [Act.put, List.setIfInBounds_toArray, List.set_cons_succ, List.set_cons_zero, List.nil_append, List.cons_append]
      apply Run.done
      intro w2 h2 hk
      clear hk
      go_wp2
      go_roundw
      case rel => exact ⟨k + 1, by omega, by go_num, Lib.hid (hG.out.trans ((Fut.drew _).trans h2))⟩
      case measure => simp [intOf] <;> omega
    · obtain rfl : k = xs.length := by omega
      go_wp2
      go_ret
      exact ⟨rfl, hG.out⟩
set_option maxHeartbeats 400000 in
set_option maxRecDepth 100000 in
theorem sameRows_any {w : World} {u v : Value} {xs : List Rw} {M N : Nat} (ha : SlRep 24 M RR w u xs) (hb : SlRep 24 N RR w v xs) (hl : xs.length ≤ 1407374883512) :
    Calls Try.prog 54 #[u, v] w fun e w' => e = .returned (.bool true) ∧ Fut w w' := by
  have HA := Lib.hid ha
  have HB := Lib.hid hb
  obtain ⟨A, cap, rfl, hc1, _⟩ := ha.form
  obtain ⟨B, cap', rfl, hc2, _⟩ := hb.form
  clear ha hb
  go_enter Try.func54, Try.ntmps54
  go_wp2_with fail
  go_loopw [5] (fun i wr => ∃ k : Nat, k ≤ xs.length ∧ i = .int .i64 k ∧ Hid (Fut w wr)) (fun i _ => xs.length - (intOf i).toNat)
  case atStart => exact ⟨0, Nat.zero_le _, rfl, Lib.hid (Fut.refl _)⟩
  case round =>
    obtain ⟨k, hk, rfl, hG⟩ := hrel
    by_cases hlt : k < xs.length
    · have hltI : (k : Int) < xs.length := by omega
      have e1 : (0 : Int) ≤ k ∧ (k : Int) < xs.length := by omega
      obtain ⟨ga, oa, rfl, ra⟩ := rows_at (HA.out.fut RR.stays hG.out) hlt
      obtain ⟨gb, ob, rfl, rb⟩ := rows_at (HB.out.fut RR.stays hG.out) hlt
      generalize xs[k] = y at ra rb
      have hy := ra.1
      go_wp2_with fail
      refine wp_graph 9 [.d, .d, .d, .d, .d, .d, .d, .d, .d] (by kernel_rfl) (by kernel_rfl) (by kernel_rfl) ?_
      simp only [List.take_succ_cons, List.take_zero, List.drop_succ_cons, List.drop_zero, Exs]
      iterate 9 apply Exists.intro
      apply Run.valG (wanted_none rfl _)
      · intro w1 h1 hk
        have hg := (Fut.drew _).trans h1
        have hcw := fun b o => Below.cell (p := ⟨b, o, none⟩) h1
        go_simp; rfl
      simp only [Act.put, List.setIfInBounds_toArray, List.set_cons_succ, List.set_cons_zero, List.nil_append, List.cons_append]
      apply Run.valG (wanted_none rfl _)
      · intro w1 h1 hk
        have hg := (Fut.drew _).trans h1
        have hcw := fun b o => Below.cell (p := ⟨b, o, none⟩) h1
        go_simp; rfl
      simp only [Act.put, List.setIfInBounds_toArray, List.set_cons_succ, List.set_cons_zero, List.nil_append, List.cons_append]
      apply Run.valG (wanted_none rfl _)
      · intro w1 h1 hk
        have hg := (Fut.drew _).trans h1
        have hcw := fun b o => Below.cell (p := ⟨b, o, none⟩) h1
        go_simp; rfl
      simp only [Act.put, List.setIfInBounds_toArray, List.set_cons_succ, List.set_cons_zero, List.nil_append, List.cons_append]
      apply Run.valG (wanted_none rfl _)
      · intro w1 h1 hk
        have hg := (Fut.drew _).trans h1
        have hcw := fun b o => Below.cell (p := ⟨b, o, none⟩) h1
        exact exec_load_R rowTy _ rfl rfl (ra.fut hg)
      simp only [Act.put, List.setIfInBounds_toArray, List.set_cons_succ, List.set_cons_zero, List.nil_append, List.cons_append]
      apply Run.valG (wanted_none rfl _)
      · intro w1 h1 hk
        have hg := (Fut.drew _).trans h1
        have hcw := fun b o => Below.cell (p := ⟨b, o, none⟩) h1
        go_simp; rfl
      simp only [Act.put, List.setIfInBounds_toArray, List.set_cons_succ, List.set_cons_zero, List.nil_append, List.cons_append]
      apply Run.valG (wanted_none rfl _)
      · intro w1 h1 hk
        have hg := (Fut.drew _).trans h1
        have hcw := fun b o => Below.cell (p := ⟨b, o, none⟩) h1
        go_simp; rfl
      simp only [Act.put, List.setIfInBounds_toArray, List.set_cons_succ, List.set_cons_zero, List.nil_append, List.cons_append]
      apply Run.valG (wanted_none rfl _)
      · intro w1 h1 hk
        have hg := (Fut.drew _).trans h1
        have hcw := fun b o => Below.cell (p := ⟨b, o, none⟩) h1
        go_simp; rfl
      simp only [Act.put, List.setIfInBounds_toArray, List.set_cons_succ, List.set_cons_zero, List.nil_append, List.cons_append]
      apply Run.valG (wanted_none rfl _)
      · intro w1 h1 hk
        have hg := (Fut.drew _).trans h1
        have hcw := fun b o => Below.cell (p := ⟨b, o, none⟩) h1
        exact exec_load_R rowTy _ rfl rfl (rb.fut hg)
      simp only [Act.put, List.setIfInBounds_toArray, List.set_cons_succ, List.set_cons_zero, List.nil_append, List.cons_append]
      apply Run.valG (wanted_none rfl _)
      · intro w1 h1 hk
        have hg := (Fut.drew _).trans h1
        have hcw := fun b o => Below.cell (p := ⟨b, o, none⟩) h1
        exact exec_neq_R rowTy noGuard _ _ _ rfl rfl rfl hy hy
      simp only [Act.put, List.setIfInBounds_toArray, List.set_cons_succ, List.set_cons_zero, List.nil_append, List.cons_append]
      apply Run.done
      intro w2 h2 hk
      clear hk
      go_wp2
      go_roundw
      case rel => exact ⟨k + 1, by omega, by go_num, Lib.hid (hG.out.trans ((Fut.drew _).trans h2))⟩
      case measure => simp [intOf] <;> omega
    · obtain rfl : k = xs.length := by omega
      go_wp2
      go_ret
      exact ⟨rfl, hG.out⟩
theorem run_eql_fn (fv : Fn) (cap lb : Array Value) (w : World) : (binOp .eql 51 (.func fv cap lb) .nilFunc).run Try.prog w = .ok (.bool false) w := by kernel_rfl
theorem run_neq_fn (fv : Fn) (cap lb : Array Value) (w : World) : (binOp .neq 51 (.func fv cap lb) .nilFunc).run Try.prog w = .ok (.bool true) w := by kernel_rfl
theorem run_eql_nn (w : World) : (binOp .eql 51 .nilFunc .nilFunc).run Try.prog w = .ok (.bool true) w := by kernel_rfl
set_option maxHeartbeats 1600000 in
set_option maxRecDepth 100000 in
theorem tells_any {w : World} {lb : Array Value} {xs : List Rw} {f t : Int} {u : Value} {M : Nat} (hok : ∀ x ∈ xs, Rw.ok x)
    (hit : ∀ W, Fut w W → IterAt Try.prog 35 lb (hiS xs t - loS f) (spanArgs xs f) W) (hu : SlRep 25 M RNb w u (nbL xs f t)) (hl : xs.length ≤ 1407374883512) (n : Int) (hn : n = 2 ∨ n = -1) :
    Calls Try.prog 52 #[.func (.func 35) #[] lb, u, .int .i64 n] w fun e w' => e = .returned (.bool true) ∧ Fut w w' := by
  have HIt := Lib.hid hit
  have HU := Lib.hid hu
  have HOk := Lib.hid hok
  have hnl := nbL_len xs f t
  obtain ⟨A, cap, rfl, hc1, _⟩ := hu.form
  clear hit hu hok
  rw [hnl] at hc1 HU ⊢
  have hNx : hiS xs t - loS f ≤ xs.length := by unfold hiS; omega
  obtain ⟨N, hN⟩ : ∃ N, hiS xs t - loS f = N := ⟨_, rfl⟩
  have HNb := Lib.hid (fun k (hk : k < N) => nbL_at xs f t (k := k) (by omega))
  have HNl : (nbL xs f t).length = N := by omega
  rw [hN] at hNx HIt HU hc1 ⊢
  clear hnl hN
  refine (callsIn_wide (n := 3)).1 ?_
  refine callsIn_of_wp_marks Try.func52 rfl trivial ?_ rfl
  refine wpIn_wide.2 ?_
  simp only [Try.ntmps52, List.size_toArray, List.length_cons, List.length_nil, Nat.reduceAdd, Nat.reduceSub, Array.replicate_succ, Array.replicate_zero, List.push_toArray, List.append_toArray, List.nil_append, List.cons_append]
  have hef := run_eql_fn (.func 35) #[] lb
  go_wp2_with fail
  have f1 := Fut.alloc w (.cells #[Value.slice A N cap] 95)
  have k1 := cell_at (heap_alloc_new w (.cells #[Value.slice A N cap] 95)) 0 _ rfl
  obtain ⟨u1, hW1⟩ : ∃ W, w.alloc (.cells #[Value.slice A N cap] 95) = W := ⟨_, rfl⟩
  have hs1 : u1.heap.size = w.heap.size + 1 := by rw [← hW1]; simp
  rw [hW1] at f1 k1 ⊢
  have f2 := Fut.alloc u1 (.cells #[Value.int .i64 n] 3)
  have k2 := cell_at (heap_alloc_new u1 (.cells #[Value.int .i64 n] 3)) 0 _ rfl
  rw [hs1] at k2
  obtain ⟨u2, hW2⟩ : ∃ W, u1.alloc (.cells #[Value.int .i64 n] 3) = W := ⟨_, rfl⟩
  have hs2 : u2.heap.size = w.heap.size + 1 + 1 := by rw [← hW2, World.size_alloc, hs1]
  rw [hW2] at f2 k2 ⊢
  have f3 := Fut.alloc u2 (.cells #[Value.bool false] 4)
  have b3 := heap_alloc_new u2 (.cells #[Value.bool false] 4)
  rw [hs2] at b3
  obtain ⟨u3, hW3⟩ : ∃ W, u2.alloc (.cells #[Value.bool false] 4) = W := ⟨_, rfl⟩
  have hs3 : u3.heap.size = w.heap.size + 1 + 1 + 1 := by rw [← hW3, World.size_alloc, hs2]
  rw [hW3] at f3 b3 ⊢
  have f4 := Fut.alloc u3 (.cells #[Value.int .i64 0] 3)
  have b4 := heap_alloc_new u3 (.cells #[Value.int .i64 0] 3)
  rw [hs3] at b4
  obtain ⟨wl, hW4⟩ : ∃ W, u3.alloc (.cells #[Value.int .i64 0] 3) = W := ⟨_, rfl⟩
  have hs4 : wl.heap.size = w.heap.size + 1 + 1 + 1 + 1 := by rw [← hW4, World.size_alloc, hs3]
  rw [hW4] at f4 b4 ⊢
  have c4 := f4.cell (f3.cell (f2.cell k1))
  have c5 := f4.cell (f3.cell k2)
  have B6 := f4.block b3
  have FL := Lib.hid (((f1.trans f2).trans f3).trans f4)
  clear hW1 hW2 hW3 hW4 k1 k2 b3 f1 f2 f3 f4 hs1 hs2 hs3 hef
  have HUl := Lib.hid (HU.out.fut RNb.stays FL.out)
  refine wp_range (N := N) (args := spanArgs xs f) rfl (enters_of Try.func35 (by kernel_rfl) rfl) (fun W hf => HIt.out W (FL.out.trans hf)) (fun k hk => rfl)
    (fun s k W => W.heap[w.heap.size + 1 + 1 + 1]? = some (.cells #[.int .i64 (k : Int)] 3 (0, 0)) ∧ Only (fun j => j = w.heap.size + 1 + 1 + 1) wl W ∧ (n = 2 → k ≤ 2))
    (fun c s W => c = Code.exit 0 ∧ n = 2 ∧ W.heap[w.heap.size + 1 + 1 + 1]? = some (.cells #[.int .i64 2] 3 (0, 0)) ∧ Only (fun j => j = w.heap.size + 1 + 1 + 1) wl W) ?hIf ?hI ?hIx ?h0 ?hbody ?hdone ?hstop
  case hIf => rintro s k W W' hf ⟨h3, h4, h5⟩; exact ⟨hf.block h3, h4.trans (Only.fut hf), h5⟩
  case hI =>
    rintro s k W l o hl1 hl2 hs ⟨h3, h4, h5⟩
    have OP : Only (fun j => j = l) W (W.putObj l o) := Only.put _ _ rfl
    exact ⟨OP.keeps h3 (by show ¬ w.heap.size + 1 + 1 + 1 = l; omega), h4.then OP fun j hj hlt => by omega, h5⟩
  case hIx =>
    rintro c s W l o hl1 hl2 hs ⟨h1, h2, h3, h4⟩
    have OP : Only (fun j => j = l) W (W.putObj l o) := Only.put _ _ rfl
    exact ⟨h1, h2, OP.keeps h3 (by show ¬ w.heap.size + 1 + 1 + 1 = l; omega), h4.then OP fun j hj hlt => by omega⟩
  case h0 =>
    intro w12 hf hs
    exact ⟨hf.block b4, Only.fut hf, fun _ => Nat.zero_le _⟩
  case hbody =>
    rintro l s k W hl1 hl2 hs hsW hk ⟨h3, h4, h5⟩ hrec
    have hnb := HNb.out k hk
    have hgd : Rw.ok (xs.getD (loS f + k) zeroRow) := by
      by_cases h : loS f + k < xs.length
      · rw [show xs.getD (loS f + k) zeroRow = xs[loS f + k] by simp [List.getD, h]]
        exact HOk.out _ (List.getElem_mem h)
      · rw [show xs.getD (loS f + k) zeroRow = zeroRow by simp [List.getD, h]]
        exact zeroRow_ok
    unfold spanArgs
    obtain ⟨gn, on, rfl, cn, rn⟩ := numb_at HUl.out (k := k) (by rw [HNl]; exact hk)
    have hgn : gn < w.heap.size := by
      obtain ⟨gn', on', e, cn', _⟩ := numb_at HU.out (k := k) (by rw [HNl]; exact hk)
      injection e with e
      injection e with e1 e2
      subst e1
      exact lt_of_cell cn'
    have hgn2 := (List.getElem?_eq_some_iff.1 hnb).2
    rw [hgn2] at cn rn
    generalize xs.getD (loS f + k) zeroRow = y at hgd rn
    have hyo := hgd
    rw [show ((loS f + k : Nat) : Int) = (loS f : Int) + (k : Int) by simp] at cn
    generalize (loS f : Int) + (k : Int) = X at cn
    clear hgn2 hnb
    obtain ⟨rr, hrr⟩ := hrec
    have e1 : (0 : Int) ≤ k ∧ (k : Int) < N := by omega
    have e2 : ¬ (N : Int) ≤ k := by omega
    have e3 : IntKind.i64.wrap ((k : Int) + 1) = ((k + 1 : Nat) : Int) := by rw [IntKind.wrap_i64]; omega
    gi_wp2_with (first | (refine wpListIn_store_new (round_fn l) rowTy (wanted_none rfl _) _ _ rfl rfl rfl rfl hyo ?_))
    refine ⟨Mid.of_fut (Fut.alloc _ _) hsW, fun o => ?_⟩
    have OP : Only (fun j => j = l) W ((W.alloc (.cells (Rw.cells y).toArray 32)).putObj l o) := (Only.fut (Fut.alloc _ _)).trans (Only.put _ _ rfl)
    have hr5 : RowAt ((W.alloc (.cells (Rw.cells y).toArray 32)).putObj l o) W.heap.size 0 y := (RowAt.new W 32 hyo).only (Only.put (S := fun j => j = l) l o rfl) (by omega)
    have hsP : W.heap.size < ((W.alloc (.cells (Rw.cells y).toArray 32)).putObj l o).heap.size := by rw [World.putObj_size]; simp
    obtain ⟨Wp, hWp⟩ : ∃ x, (W.alloc (.cells (Rw.cells y).toArray 32)).putObj l o = x := ⟨_, rfl⟩
    rw [hWp] at OP hr5 hsP ⊢
    clear hWp hrr
    replace h3 := OP.keeps h3 (by show ¬ w.heap.size + 1 + 1 + 1 = l; omega)
    replace h4 := h4.then OP fun j hj hlt => by omega
    have ck := cell_at h3 0 _ rfl
    have d4 := h4.cell c4 (by show ¬ w.heap.size = w.heap.size + 1 + 1 + 1; omega)
    have d5 := h4.cell c5 (by show ¬ w.heap.size + 1 = w.heap.size + 1 + 1 + 1; omega)
    have dn := h4.cell cn (by show ¬ gn = w.heap.size + 1 + 1 + 1; omega)
    replace rn := rn.only h4 (by omega)
    by_cases hbr : (k : Int) = n
    · have hn2 : n = 2 := by omega
      have hk2 : k = 2 := by omega
      subst hk2
      subst hn2
      gi_wp2
      exact ⟨Mid.refl _ _ _, rfl, h3, h4⟩
    · gi_wp2_with fail
      refine wpIn_graph 22 [.d, .d, .d, .d, .d, .d, .d, .d, .d, .d, .d, .d, .d, .d, .d, .d, .d, .d, .d, .d, .d, .d] (by kernel_rfl) (by kernel_rfl) (by kernel_rfl) (by kernel_rfl) ?_
      simp only [List.take_succ_cons, List.take_zero, List.drop_succ_cons, List.drop_zero, Exs]
      iterate 22 apply Exists.intro
      apply Run.valG (wanted_none rfl _)
      · intro w1 h1 hk
        have q1 := h1.cell ck; have q2 := h1.cell d4; have q3 := h1.cell dn; have hg := (Fut.drew _).trans h1
        have hcw := fun b o => Below.cell (p := ⟨b, o, none⟩) h1
        go_simp; rfl
      simp only [Act.put, List.setIfInBounds_toArray, List.set_cons_succ, List.set_cons_zero, List.nil_append, List.cons_append]
      apply Run.valG (wanted_none rfl _)
      · intro w1 h1 hk
        have q1 := h1.cell ck; have q2 := h1.cell d4; have q3 := h1.cell dn; have hg := (Fut.drew _).trans h1
        have hcw := fun b o => Below.cell (p := ⟨b, o, none⟩) h1
        go_simp; rfl
      simp only [Act.put, List.setIfInBounds_toArray, List.set_cons_succ, List.set_cons_zero, List.nil_append, List.cons_append]
      apply Run.valG (wanted_none rfl _)
      · intro w1 h1 hk
        have q1 := h1.cell ck; have q2 := h1.cell d4; have q3 := h1.cell dn; have hg := (Fut.drew _).trans h1
        have hcw := fun b o => Below.cell (p := ⟨b, o, none⟩) h1
        go_simp; rfl
      simp only [Act.put, List.setIfInBounds_toArray, List.set_cons_succ, List.set_cons_zero, List.nil_append, List.cons_append]
      apply Run.valG (wanted_none rfl _)
      · intro w1 h1 hk
        have q1 := h1.cell ck; have q2 := h1.cell d4; have q3 := h1.cell dn; have hg := (Fut.drew _).trans h1
        have hcw := fun b o => Below.cell (p := ⟨b, o, none⟩) h1
        go_simp; rfl
      simp only [Act.put, List.setIfInBounds_toArray, List.set_cons_succ, List.set_cons_zero, List.nil_append, List.cons_append]
      apply Run.valG (wanted_none rfl _)
      · intro w1 h1 hk
        have q1 := h1.cell ck; have q2 := h1.cell d4; have q3 := h1.cell dn; have hg := (Fut.drew _).trans h1
        have hcw := fun b o => Below.cell (p := ⟨b, o, none⟩) h1
        go_simp; rfl
      simp only [Act.put, List.setIfInBounds_toArray, List.set_cons_succ, List.set_cons_zero, List.nil_append, List.cons_append]
      apply Run.valG (by go_simp)
      · intro w1 h1 hk
        have q1 := h1.cell ck; have q2 := h1.cell d4; have q3 := h1.cell dn; have hg := (Fut.drew _).trans h1
        have hcw := fun b o => Below.cell (p := ⟨b, o, none⟩) h1
        go_simp; rfl
      simp only [Act.put, List.setIfInBounds_toArray, List.set_cons_succ, List.set_cons_zero, List.nil_append, List.cons_append]
      apply Run.valG (by go_simp)
      · intro w1 h1 hk
        have q1 := h1.cell ck; have q2 := h1.cell d4; have q3 := h1.cell dn; have hg := (Fut.drew _).trans h1
        have hcw := fun b o => Below.cell (p := ⟨b, o, none⟩) h1
        go_simp; rfl
      simp only [Act.put, List.setIfInBounds_toArray, List.set_cons_succ, List.set_cons_zero, List.nil_append, List.cons_append]
      apply Run.valG (by go_simp)
      · intro w1 h1 hk
        have q1 := h1.cell ck; have q2 := h1.cell d4; have q3 := h1.cell dn; have hg := (Fut.drew _).trans h1
        have hcw := fun b o => Below.cell (p := ⟨b, o, none⟩) h1
        go_simp; rfl
      simp only [Act.put, List.setIfInBounds_toArray, List.set_cons_succ, List.set_cons_zero, List.nil_append, List.cons_append]
      apply Run.valG (by go_simp)
      · intro w1 h1 hk
        have q1 := h1.cell ck; have q2 := h1.cell d4; have q3 := h1.cell dn; have hg := (Fut.drew _).trans h1
        have hcw := fun b o => Below.cell (p := ⟨b, o, none⟩) h1
        go_simp; rfl
      simp only [Act.put, List.setIfInBounds_toArray, List.set_cons_succ, List.set_cons_zero, List.nil_append, List.cons_append]
      apply Run.valG (by go_simp)
      · intro w1 h1 hk
        have q1 := h1.cell ck; have q2 := h1.cell d4; have q3 := h1.cell dn; have hg := (Fut.drew _).trans h1
        have hcw := fun b o => Below.cell (p := ⟨b, o, none⟩) h1
        go_simp; rfl
      simp only [Act.put, List.setIfInBounds_toArray, List.set_cons_succ, List.set_cons_zero, List.nil_append, List.cons_append]
      apply Run.valG (by go_simp)
      · intro w1 h1 hk
        have q1 := h1.cell ck; have q2 := h1.cell d4; have q3 := h1.cell dn; have hg := (Fut.drew _).trans h1
        have hcw := fun b o => Below.cell (p := ⟨b, o, none⟩) h1
        go_simp; rfl
      simp only [Act.put, List.setIfInBounds_toArray, List.set_cons_succ, List.set_cons_zero, List.nil_append, List.cons_append]
      apply Run.valG (by go_simp)
      · intro w1 h1 hk
        have q1 := h1.cell ck; have q2 := h1.cell d4; have q3 := h1.cell dn; have hg := (Fut.drew _).trans h1
        have hcw := fun b o => Below.cell (p := ⟨b, o, none⟩) h1
        go_simp; rfl
      simp only [Act.put, List.setIfInBounds_toArray, List.set_cons_succ, List.set_cons_zero, List.nil_append, List.cons_append]
      apply Run.valG (wanted_none rfl _)
      · intro w1 h1 hk
        have q1 := h1.cell ck; have q2 := h1.cell d4; have q3 := h1.cell dn; have hg := (Fut.drew _).trans h1
        have hcw := fun b o => Below.cell (p := ⟨b, o, none⟩) h1
        go_simp; rfl
      simp only [Act.put, List.setIfInBounds_toArray, List.set_cons_succ, List.set_cons_zero, List.nil_append, List.cons_append]
      apply Run.valG (wanted_none rfl _)
      · intro w1 h1 hk
        have q1 := h1.cell ck; have q2 := h1.cell d4; have q3 := h1.cell dn; have hg := (Fut.drew _).trans h1
        have hcw := fun b o => Below.cell (p := ⟨b, o, none⟩) h1
        go_simp; rfl
      simp only [Act.put, List.setIfInBounds_toArray, List.set_cons_succ, List.set_cons_zero, List.nil_append, List.cons_append]
      apply Run.valG (by go_simp)
      · intro w1 h1 hk
        have q1 := h1.cell ck; have q2 := h1.cell d4; have q3 := h1.cell dn; have hg := (Fut.drew _).trans h1
        have hcw := fun b o => Below.cell (p := ⟨b, o, none⟩) h1
        go_simp; rfl
      simp only [Act.put, List.setIfInBounds_toArray, List.set_cons_succ, List.set_cons_zero, List.nil_append, List.cons_append]
      apply Run.valG (by go_simp)
      · intro w1 h1 hk
        have q1 := h1.cell ck; have q2 := h1.cell d4; have q3 := h1.cell dn; have hg := (Fut.drew _).trans h1
        have hcw := fun b o => Below.cell (p := ⟨b, o, none⟩) h1
        go_simp; rfl
      simp only [Act.put, List.setIfInBounds_toArray, List.set_cons_succ, List.set_cons_zero, List.nil_append, List.cons_append]
      apply Run.valG (by go_simp)
      · intro w1 h1 hk
        have q1 := h1.cell ck; have q2 := h1.cell d4; have q3 := h1.cell dn; have hg := (Fut.drew _).trans h1
        have hcw := fun b o => Below.cell (p := ⟨b, o, none⟩) h1
        go_simp; rfl
      simp only [Act.put, List.setIfInBounds_toArray, List.set_cons_succ, List.set_cons_zero, List.nil_append, List.cons_append]
      apply Run.valG (by go_simp)
      · intro w1 h1 hk
        have q1 := h1.cell ck; have q2 := h1.cell d4; have q3 := h1.cell dn; have hg := (Fut.drew _).trans h1
        have hcw := fun b o => Below.cell (p := ⟨b, o, none⟩) h1
        go_simp; rfl
      simp only [Act.put, List.setIfInBounds_toArray, List.set_cons_succ, List.set_cons_zero, List.nil_append, List.cons_append]
      apply Run.valG (by go_simp)
      · intro w1 h1 hk
        have q1 := h1.cell ck; have q2 := h1.cell d4; have q3 := h1.cell dn; have hg := (Fut.drew _).trans h1
        have hcw := fun b o => Below.cell (p := ⟨b, o, none⟩) h1
        exact exec_load_R rowTy _ rfl rfl (rn.fut hg)
      simp only [Act.put, List.setIfInBounds_toArray, List.set_cons_succ, List.set_cons_zero, List.nil_append, List.cons_append]
      apply Run.valG (by go_simp)
      · intro w1 h1 hk
        have q1 := h1.cell ck; have q2 := h1.cell d4; have q3 := h1.cell dn; have hg := (Fut.drew _).trans h1
        have hcw := fun b o => Below.cell (p := ⟨b, o, none⟩) h1
        exact exec_load_R rowTy _ rfl rfl (hr5.fut hg)
      simp only [Act.put, List.setIfInBounds_toArray, List.set_cons_succ, List.set_cons_zero, List.nil_append, List.cons_append]
      apply Run.valG (by go_simp)
      · intro w1 h1 hk
        have q1 := h1.cell ck; have q2 := h1.cell d4; have q3 := h1.cell dn; have hg := (Fut.drew _).trans h1
        have hcw := fun b o => Below.cell (p := ⟨b, o, none⟩) h1
        exact exec_neq_R rowTy noGuard _ _ _ rfl rfl rfl hyo hyo
      simp only [Act.put, List.setIfInBounds_toArray, List.set_cons_succ, List.set_cons_zero, List.nil_append, List.cons_append]
      apply Run.valG (wanted_none rfl _)
      · intro w1 h1 hk
        have q1 := h1.cell ck; have q2 := h1.cell d4; have q3 := h1.cell dn; have hg := (Fut.drew _).trans h1
        have hcw := fun b o => Below.cell (p := ⟨b, o, none⟩) h1
        go_simp; rfl
      simp only [Act.put, List.setIfInBounds_toArray, List.set_cons_succ, List.set_cons_zero, List.nil_append, List.cons_append]
      apply Run.done
      intro wa ha hk
      clear hk
      have Fa := (Fut.drew _).trans ha
      have ba := Fa.block h3
      have ca := cell_at ba 0 _ rfl
      have za := free_at ba 0
      have hs3 := Fa.size
      gi_wp2
      have OS : Only (fun j => j = w.heap.size + 1 + 1 + 1) wa (wa.setCell ⟨w.heap.size + 1 + 1 + 1, 0, none⟩ (.int .i64 ((k + 1 : Nat) : Int))) := Only.set _ _ rfl
      refine ⟨⟨Nat.le_trans hs3 OS.size, fun j hj1 hj2 => ?_⟩, set_blk ba, (h4.trans (Only.fut Fa)).trans OS, fun h => by have := h5 h; omega⟩
      exact (OS.block j (by omega) (by omega)).trans (Below.block Fa j (by omega))
  case hdone =>
    rintro s W hs ⟨h3, h4, h5⟩ hK
    have ck := cell_at h3 0 _ rfl
    have d4 := h4.cell c4 (by show ¬ w.heap.size = w.heap.size + 1 + 1 + 1; omega)
    have B6' := h4.keeps B6 (by show ¬ w.heap.size + 1 + 1 = w.heap.size + 1 + 1 + 1; omega)
    have d6 := cell_at B6' 0 _ rfl
    have z6 := free_at B6' 0
    go_wp2
    have OS : Only (fun k => k = w.heap.size + 1 + 1) W (W.setCell ⟨w.heap.size + 1 + 1, 0, none⟩ (Value.bool true)) := Only.set _ _ rfl
    have OP : Only (fun k => k = wl.heap.size) (W.setCell ⟨w.heap.size + 1 + 1, 0, none⟩ (Value.bool true)) ((W.setCell ⟨w.heap.size + 1 + 1, 0, none⟩ (Value.bool true)).putObj wl.heap.size (.deferred none)) := Only.put _ _ rfl
    have hKf := OS.keeps hK (by show ¬ wl.heap.size = w.heap.size + 1 + 1; omega)
    have hBf := OP.keeps (set_blk B6' (i := 0) (v := Value.bool true)) (by show ¬ w.heap.size + 1 + 1 = wl.heap.size; omega)
    refine ⟨by simp, .inl ⟨_, _, rfl, run_takeDeferred hKf, ?_⟩⟩
    exact ⟨_, results_cellB rfl rfl (cell_at hBf 0 _ rfl), rfl, ((((Only.fut FL.out).trans (h4.mono (S' := fun j => w.heap.size ≤ j) fun j _ hj => by omega)).trans (OS.mono (S' := fun j => w.heap.size ≤ j) fun j _ hj => by omega)).trans (OP.mono (S' := fun j => w.heap.size ≤ j) fun j _ hj => by omega)).toFut fun j hj => hj⟩
  case hstop =>
    rintro s c W hs ⟨rfl, hn2, h3, h4⟩ hK
    subst hn2
    have ck := cell_at h3 0 _ rfl
    have d4 := h4.cell c4 (by show ¬ w.heap.size = w.heap.size + 1 + 1 + 1; omega)
    have d5 := h4.cell c5 (by show ¬ w.heap.size + 1 = w.heap.size + 1 + 1 + 1; omega)
    have B6' := h4.keeps B6 (by show ¬ w.heap.size + 1 + 1 = w.heap.size + 1 + 1 + 1; omega)
    have d6 := cell_at B6' 0 _ rfl
    have z6 := free_at B6' 0
    have HS4 := Lib.hid hs4
    clear hs4
    by_cases h2N : (2 : Int) = N
    · go_wp2
      have hs4 := HS4.out
      have OS : Only (fun k => k = w.heap.size + 1 + 1) W (W.setCell ⟨w.heap.size + 1 + 1, 0, none⟩ (Value.bool true)) := Only.set _ _ rfl
      have OP : Only (fun k => k = wl.heap.size) (W.setCell ⟨w.heap.size + 1 + 1, 0, none⟩ (Value.bool true)) ((W.setCell ⟨w.heap.size + 1 + 1, 0, none⟩ (Value.bool true)).putObj wl.heap.size (.deferred none)) := Only.put _ _ rfl
      have hKf := OS.keeps hK (by show ¬ wl.heap.size = w.heap.size + 1 + 1; omega)
      have hBf := OP.keeps (set_blk B6' (i := 0) (v := Value.bool true)) (by show ¬ w.heap.size + 1 + 1 = wl.heap.size; omega)
      refine ⟨by simp, .inl ⟨_, _, rfl, run_takeDeferred hKf, ?_⟩⟩
      exact ⟨_, results_cellB rfl rfl (cell_at hBf 0 _ rfl), rfl, ((((Only.fut FL.out).trans (h4.mono (S' := fun j => w.heap.size ≤ j) fun j _ hj => by omega)).trans (OS.mono (S' := fun j => w.heap.size ≤ j) fun j _ hj => by omega)).trans (OP.mono (S' := fun j => w.heap.size ≤ j) fun j _ hj => by omega)).toFut fun j hj => hj⟩
    · go_wp2
      have hs4 := HS4.out
      have OS : Only (fun k => k = w.heap.size + 1 + 1) W (W.setCell ⟨w.heap.size + 1 + 1, 0, none⟩ (Value.bool true)) := Only.set _ _ rfl
      have OP : Only (fun k => k = wl.heap.size) (W.setCell ⟨w.heap.size + 1 + 1, 0, none⟩ (Value.bool true)) ((W.setCell ⟨w.heap.size + 1 + 1, 0, none⟩ (Value.bool true)).putObj wl.heap.size (.deferred none)) := Only.put _ _ rfl
      have hKf := OS.keeps hK (by show ¬ wl.heap.size = w.heap.size + 1 + 1; omega)
      have hBf := OP.keeps (set_blk B6' (i := 0) (v := Value.bool true)) (by show ¬ w.heap.size + 1 + 1 = wl.heap.size; omega)
      refine ⟨by simp, .inl ⟨_, _, rfl, run_takeDeferred hKf, ?_⟩⟩
      exact ⟨_, results_cellB rfl rfl (cell_at hBf 0 _ rfl), rfl, ((((Only.fut FL.out).trans (h4.mono (S' := fun j => w.heap.size ≤ j) fun j _ hj => by omega)).trans (OS.mono (S' := fun j => w.heap.size ≤ j) fun j _ hj => by omega)).trans (OP.mono (S' := fun j => w.heap.size ≤ j) fun j _ hj => by omega)).toFut fun j hj => hj⟩
end Go.Proofs.Ytcekphjcmippoaa
/- A block of rows, written over row by row; ranks. No program. -/
namespace Go.Proofs.Ytcekphjcmippoaa
open Go.RowKit Go.WideMaps
set_option linter.unusedSimpArgs false
set_option linter.unusedVariables false

def RBlk (w : World) (g : Nat) (e : TypeId) (zs : List Rw) : Prop :=
  ∃ arr : Array Value, w.heap[g]? = some (.cells arr e (0, 0)) ∧ arr.size = zs.length * 24 ∧ (∀ x ∈ zs, Rw.ok x) ∧ ∀ p (h : p < zs.length) j, j < 24 → arr[p * 24 + j]? = (Rw.cells zs[p])[j]?
theorem RBlk.fut {w w' : World} {g : Nat} {e : TypeId} {zs : List Rw} (h : RBlk w g e zs) (hf : Fut w w') : RBlk w' g e zs := by
  obtain ⟨arr, h1, h2⟩ := h
  exact ⟨arr, hf.block h1, h2⟩
theorem RBlk.lt {w : World} {g : Nat} {e : TypeId} {zs : List Rw} (h : RBlk w g e zs) : g < w.heap.size := by
  obtain ⟨arr, h1, h2⟩ := h
  exact (Array.getElem?_eq_some_iff.1 h1).1
theorem RBlk.rep {w : World} {g : Nat} {e : TypeId} {zs : List Rw} (h : RBlk w g e zs) (hl : zs.length ≤ maxLen) : SlRep 24 maxLen RR w (.slice (some ⟨g, 0, none⟩) zs.length zs.length) zs := by
  obtain ⟨arr, h1, h2, h3, h4⟩ := h
  refine ⟨_, _, rfl, Nat.le_refl _, hl, fun i x hx => ?_⟩
  obtain ⟨hi, rfl⟩ := List.getElem?_eq_some_iff.1 hx
  have hok := h3 _ (List.getElem_mem hi)
  refine ⟨g, 0, Rw.cells zs[i], rfl, Rw.cells_len hok, fun j c hj => ?_, rfl, hok⟩
  have hj24 : j < 24 := by rw [← Rw.cells_len hok]; exact (List.getElem?_eq_some_iff.1 hj).1
  have := h4 i hi j hj24
  rw [hj] at this
  simp [World.cell?, h1, this]
theorem RBlk.made (w : World) (e : TypeId) (n : Nat) : RBlk (w.alloc (.cells (madeCells (Rw.val zeroRow).cells (n * 24)) e)) w.heap.size e (List.replicate n zeroRow) := by
  refine ⟨_, heap_alloc_new w _, by simp [madeCells], fun x hx => by rw [List.eq_of_mem_replicate hx]; exact zeroRow_ok, fun p h j hj => ?_⟩
  have hp : p < n := by simpa using h
  have hz : (Rw.val zeroRow).cells.size = 24 := rfl
  have hlt : p * 24 + j < n * 24 := by omega
  rw [List.getElem_replicate]
  have e1 : (madeCells (Rw.val zeroRow).cells (n * 24))[p * 24 + j]? = some ((Rw.val zeroRow).cells[(p * 24 + j) % 24]!) := by
    simp [madeCells, hlt, hz]
    rw [show (Rw.cells zeroRow).length = 24 from rfl, show (p * 24 + j) % 24 = j % 24 by omega]
  rw [e1, show (p * 24 + j) % 24 = j by omega]
  have hs : j < (Rw.cells zeroRow).length := by rw [Rw.cells_len zeroRow_ok]; exact hj
  rw [List.getElem?_eq_getElem hs, getElem!_pos (Rw.val zeroRow).cells j (by rw [hz]; exact hj)]
  rfl
section
variable {P : Program} {k e : TypeId} {w : World} {o : Oper} {a : Act}
/-- One row of the block is written over. -/
theorem exec_store_at (T : RowTy P k e) {g p : Nat} {t : TypeId} {zs : List Rw} {y : Rw} (x z : Operand) (ho : o.op = .store k x z) (hx : a.eval x = .pointer (some ⟨g, p * 24, none⟩)) (hz : a.eval z = Rw.val y) (hb : RBlk w g t zs) (hp : p < zs.length) (hy : Rw.ok y) :
    ∃ w', (execOp a.eval o).run P w = .ok .skip w' ∧ RBlk w' g t (zs.set p y) ∧ Only (fun k => k = g) w w' := by
  obtain ⟨arr, b1, b2, b3, b4⟩ := hb
  have hl := Rw.cells_len hy
  have hsz : (Rw.cells y).toArray.size = 24 := by simpa using hl
  have h1 := run_storeVar_mid (P := P) w g (p * 24) k (Rw.cells y).toArray (fun j hj => by
    rw [hsz] at hj
    refine ⟨?_, ?_⟩
    · simp [World.cell?, b1]; omega
    · simp [World.frozen?, b1]) (by rw [T.hi, hsz]) (all_oneCell_toArray fun v hv => RR.one w _ y ⟨rfl, hy⟩ v hv)
  obtain ⟨arr', h2, h3, h4⟩ := setCells_put (Rw.cells y) (p * 24) w arr b1
  simp only at h1
  rw [h2] at h1
  have hgl := (Array.getElem?_eq_some_iff.1 b1).1
  refine ⟨_, ?_, ⟨arr', World.putObj_heap_same hgl, by rw [h3, b2]; simp, fun u hu => ?_, fun q hq j hj => ?_⟩, Only.put _ _ rfl⟩
  · unfold execOp
    simp only [ho, hx, hz, Rw.val, Instr.storeAt, Instr.sureAddr, Sem.run_bind, Sem.run_pure, Result.andThen_ok, h1]
  · rcases List.mem_or_eq_of_mem_set hu with hu | rfl
    · exact b3 u hu
    · exact hy
  · have hq' : q < zs.length := by simpa using hq
    rw [h4, hl]
    by_cases hqp : q = p
    · subst hqp
      rw [if_pos (by omega), List.getElem_set_self]
      congr 1
      omega
    · rw [if_neg (by omega), List.getElem_set_ne (by omega)]
      exact b4 q hq' j hj
theorem wpList_store_at {ops : Array Oper} {rest : List Oper} {Q : Exit → Act → World → Prop} (T : RowTy P k e) {g p : Nat} {t : TypeId} {zs : List Rw} {y : Rw} (hgd : Region.wanted o (yielded ops a.tmps) = true) (x z : Operand) (ho : o.op = .store k x z) (hx : a.eval x = .pointer (some ⟨g, p * 24, none⟩)) (hz : a.eval z = Rw.val y) (hb : RBlk w g t zs) (hp : p < zs.length) (hy : Rw.ok y)
    (h : ∀ w', RBlk w' g t (zs.set p y) → Only (fun k => k = g) w w' → wpList P ops Q rest (a.put o.dst undef) w') : wpList P ops Q (o :: rest) a w := by
  obtain ⟨w', hr, h1, h2⟩ := exec_store_at T x z ho hx hz hb hp hy
  exact wpList_of_skip hgd hr (h w' h1 h2)
end
/-- How many lie below. -/
def rankR (xs : List Rw) (y : Rw) : Nat := xs.countP fun z => decide (cmpR z y < 0)
theorem rank_lt {xs : List Rw} {y : Rw} (h : y ∈ xs) : rankR xs y < xs.length := by
  have h1 := List.countP_le_length (p := fun z => decide (cmpR z y < 0)) (l := xs)
  have h2 : ¬ rankR xs y = xs.length := fun e => by
    have := List.countP_eq_length.1 e y h
    have h0 := ordR.refl y
    simp [h0] at this
  unfold rankR at h2 ⊢
  omega
theorem up_of_sorted {ys : List Rw} (hs : Sorted cmpR ys) (hn : ys.Nodup) : Up cmpR ys := by
  unfold Up
  rw [List.pairwise_iff_getElem]
  intro i j hi hj hij
  have h1 := List.pairwise_iff_getElem.1 hs i j hi hj hij
  have h2 := List.pairwise_iff_getElem.1 hn i j hi hj hij
  have h3 := ordR.swap ys[i] ys[j]
  have h4 : ¬ cmpR ys[i] ys[j] = 0 := fun h => h2 ((ordR.zero _ _).1 h)
  omega
theorem rank_at {ys : List Rw} (hu : Up cmpR ys) {p : Nat} (hp : p < ys.length) : rankR ys ys[p] = p := by
  have h := List.pairwise_iff_getElem.1 hu
  obtain ⟨y, hy⟩ : ∃ y, ys[p] = y := ⟨_, rfl⟩
  rw [hy]
  have h1 : rankR (ys.take p) y = p := by
    have hl : (ys.take p).length = p := by simp; omega
    conv => rhs; rw [← hl]
    refine List.countP_eq_length.2 fun z hz => ?_
    obtain ⟨i, hi, rfl⟩ := List.getElem_of_mem hz
    rw [List.getElem_take, ← hy]
    exact decide_eq_true (h i p (by simp at hi; omega) hp (by simp at hi; omega))
  have h2 : rankR (ys.drop p) y = 0 := by
    refine List.countP_eq_zero.2 fun z hz => ?_
    obtain ⟨i, hi, rfl⟩ := List.getElem_of_mem hz
    rw [List.getElem_drop, ← hy]
    simp only [List.length_drop] at hi
    by_cases h0 : i = 0
    · subst h0
      have := ordR.refl ys[p]
      simp [this]
    · have h3 := h p (p + i) hp (by omega) (by omega)
      have h4 := ordR.swap ys[p] ys[p + i]
      simp only [decide_eq_true_eq]
      omega
  have h3 : rankR (ys.take p ++ ys.drop p) y = rankR (ys.take p) y + rankR (ys.drop p) y := by unfold rankR; exact List.countP_append
  rw [List.take_append_drop, h1, h2] at h3
  exact h3
theorem rank_perm {xs ys : List Rw} (hp : ys.Perm xs) (y : Rw) : rankR ys y = rankR xs y := hp.countP_eq _
/-- Where each row stands where as many are as lie below it, the list rises. -/
theorem ranked {xs ys zs : List Rw} (hp : ys.Perm xs) (hs : Sorted cmpR ys) (hn : xs.Nodup) (hl : zs.length = xs.length) (hz : ∀ j (h : j < xs.length), zs[rankR xs xs[j]]? = some xs[j]) : zs = ys := by
  have hu := up_of_sorted hs (hp.nodup_iff.2 hn)
  refine List.ext_getElem (by rw [hl, hp.length_eq]) fun p h1 h2 => ?_
  have hm : ys[p] ∈ xs := hp.mem_iff.1 (List.getElem_mem h2)
  obtain ⟨j, hj, he⟩ := List.getElem_of_mem hm
  have h3 := hz j hj
  rw [he, ← rank_perm hp, rank_at hu h2] at h3
  exact (List.getElem?_eq_some_iff.1 h3).2
end Go.Proofs.Ytcekphjcmippoaa
