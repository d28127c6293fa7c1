/- SameSz -/
import Derived.Test.YtkdnplebgmmclaaDoorC19
/- SameSizes of two lists of the same sizes. -/
namespace Go.Proofs.YtkdnplebgmmclaaDoor
open Go.RowKit
set_option linter.unusedSimpArgs false
set_option linter.unusedVariables false

set_option maxHeartbeats 1000000 in
theorem sameI_any {M : Nat} (a b : Value) (xs : List Int) (w : World) (ha : SlRep 1 M RI w a xs) (hb : SlRep 1 M RI w b xs) (hM : M ≤ 9223372036854775807) :
    Calls Tryd.prog 31 #[a, b] w fun e w' => e = .returned (.bool true) ∧ Fut w w' := by
  have HA := Lib.hid ha
  have HB := Lib.hid hb
  obtain ⟨A, ca, rfl, hl1, hl2⟩ := ha.form
  obtain ⟨A', cb, rfl, _, _⟩ := hb.form
  clear ha hb
  go_enter Tryd.func31, Tryd.ntmps31
  go_wp2_with fail
  go_loopw [5] (fun i wr => ∃ k : Nat, k ≤ xs.length ∧ i = .int .i64 k ∧ Hid (Fut w wr)) (fun i _ => xs.length - (intOf i).toNat)
  case atStart => exact ⟨0, Nat.zero_le _, rfl, Lib.hid (Fut.refl _)⟩
  case round =>
    obtain ⟨k, hk, rfl, hG⟩ := hrel
    by_cases hlt : k < xs.length
    · obtain ⟨b1, o1, rfl, x0⟩ := in_at (HA.out.fut RI.stays hG.out) hlt
      obtain ⟨b2, o2, rfl, y0⟩ := in_at (HB.out.fut RI.stays hG.out) hlt
      generalize xs[k] = z at *
      have hltI : (k : Int) < xs.length := by omega
      have e0 : (0 : Int) ≤ k ∧ (k : Int) < xs.length := by omega
      go_wp2_with fail
      refine wp_graph 9 [.d, .d, .d, .d, .d, .d, .d, .d, .d] (by kernel_rfl) (by kernel_rfl) (by kernel_rfl) ?_
      simp only [List.take_succ_cons, List.take_zero, List.drop_succ_cons, List.drop_zero, Exs]
      iterate 9 apply Exists.intro
      apply Run.valG (wanted_none rfl _)
      · intro w1 h1 hk
        have q1 := h1.cell x0; have q2 := h1.cell y0
        have hcw := fun b o => Below.cell (p := ⟨b, o, none⟩) h1
        go_simp; rfl
      simp only [Act.put, List.setIfInBounds_toArray, List.set_cons_succ, List.set_cons_zero, List.nil_append, List.cons_append]
      apply Run.valG (wanted_none rfl _)
      · intro w1 h1 hk
        have q1 := h1.cell x0; have q2 := h1.cell y0
        have hcw := fun b o => Below.cell (p := ⟨b, o, none⟩) h1
        go_simp; rfl
      simp only [Act.put, List.setIfInBounds_toArray, List.set_cons_succ, List.set_cons_zero, List.nil_append, List.cons_append]
      apply Run.valG (wanted_none rfl _)
      · intro w1 h1 hk
        have q1 := h1.cell x0; have q2 := h1.cell y0
        have hcw := fun b o => Below.cell (p := ⟨b, o, none⟩) h1
        go_simp; rfl
      simp only [Act.put, List.setIfInBounds_toArray, List.set_cons_succ, List.set_cons_zero, List.nil_append, List.cons_append]
      apply Run.valG (wanted_none rfl _)
      · intro w1 h1 hk
        have q1 := h1.cell x0; have q2 := h1.cell y0
        have hcw := fun b o => Below.cell (p := ⟨b, o, none⟩) h1
        go_simp; rfl
      simp only [Act.put, List.setIfInBounds_toArray, List.set_cons_succ, List.set_cons_zero, List.nil_append, List.cons_append]
      apply Run.valG (wanted_none rfl _)
      · intro w1 h1 hk
        have q1 := h1.cell x0; have q2 := h1.cell y0
        have hcw := fun b o => Below.cell (p := ⟨b, o, none⟩) h1
        go_simp; rfl
      simp only [Act.put, List.setIfInBounds_toArray, List.set_cons_succ, List.set_cons_zero, List.nil_append, List.cons_append]
      apply Run.valG (wanted_none rfl _)
      · intro w1 h1 hk
        have q1 := h1.cell x0; have q2 := h1.cell y0
        have hcw := fun b o => Below.cell (p := ⟨b, o, none⟩) h1
        go_simp; rfl
      simp only [Act.put, List.setIfInBounds_toArray, List.set_cons_succ, List.set_cons_zero, List.nil_append, List.cons_append]
      apply Run.valG (wanted_none rfl _)
      · intro w1 h1 hk
        have q1 := h1.cell x0; have q2 := h1.cell y0
        have hcw := fun b o => Below.cell (p := ⟨b, o, none⟩) h1
        go_simp; rfl
      simp only [Act.put, List.setIfInBounds_toArray, List.set_cons_succ, List.set_cons_zero, List.nil_append, List.cons_append]
      apply Run.valG (wanted_none rfl _)
      · intro w1 h1 hk
        have q1 := h1.cell x0; have q2 := h1.cell y0
        have hcw := fun b o => Below.cell (p := ⟨b, o, none⟩) h1
        go_simp; rfl
      simp only [Act.put, List.setIfInBounds_toArray, List.set_cons_succ, List.set_cons_zero, List.nil_append, List.cons_append]
      apply Run.valG (wanted_none rfl _)
      · intro w1 h1 hk
        have q1 := h1.cell x0; have q2 := h1.cell y0
        have hcw := fun b o => Below.cell (p := ⟨b, o, none⟩) h1
        go_simp; rfl
      simp only [Act.put, List.setIfInBounds_toArray, List.set_cons_succ, List.set_cons_zero, List.nil_append, List.cons_append]
      apply Run.done
      intro w2 h2 hk
      clear hk
      have hGn := Lib.hid (hG.out.trans ((Fut.drew _).trans h2))
      clear h2
      go_wp2
      go_roundw
      case rel => exact ⟨k + 1, by omega, by go_num, hGn⟩
      case measure => simp [intOf] <;> omega
    · obtain rfl : k = xs.length := by omega
      go_wp2
      go_ret
      exact ⟨rfl, hG.out⟩
set_option maxHeartbeats 1000000 in
theorem sameSz_any {M : Nat} (p : ByteArray) (n : Int) (xs : List Int) (u v : Value) (w : World) (ha : SlRep 1 M RI w u xs) (hb : SlRep 1 M RI w v xs) (hM : M ≤ 9223372036854775807) :
    Calls Tryd.prog 18 #[.agg #[.string p, .int .i64 n, u], .agg #[.string p, .int .i64 n, v]] w fun e w' => e = .returned (.bool true) ∧ Fut w w' := by
  have HA := Lib.hid ha
  have HB := Lib.hid hb
  obtain ⟨A, ca, rfl, hl1, hl2⟩ := ha.form
  obtain ⟨A', cb, rfl, _, _⟩ := hb.form
  clear ha hb
  go_enter Tryd.func18, Tryd.ntmps18
  go_wp2_with fail
  refine (sameI_any _ _ xs _ (HA.out.fut RI.stays ((Fut.alloc _ _).trans (Fut.alloc _ _))) (HB.out.fut RI.stays ((Fut.alloc _ _).trans (Fut.alloc _ _))) hM).mono ?_
  rintro e w1 ⟨rfl, h1⟩
  go_wp2
  go_ret
  exact ⟨rfl, ((Fut.alloc _ _).trans (Fut.alloc _ _)).trans h1⟩
set_option maxHeartbeats 1000000 in
theorem sameSzs_any {B B' C C' : Nat} {e e' : TypeId} (a b : Value) (xs : List Sz) (w : World) (ha : OwnL 3 B e (RSz B') w a xs) (hb : OwnL 3 C e' (RSz C') w b xs) :
    Calls Tryd.prog 8 #[a, b] w fun e w' => e = .returned (.bool true) ∧ Fut w w' := by
  have HA := Lib.hid ha
  have HB := Lib.hid hb
  obtain ⟨A, ca, rfl, hl1, hl2⟩ := ha.rep.form
  unfold maxLen at hl2
  obtain ⟨A', cb, rfl, _, _⟩ := hb.rep.form
  clear ha hb
  go_enter Tryd.func8, Tryd.ntmps8
  go_wp2_with fail
  go_loopw [5] (fun i wr => ∃ k : Nat, k ≤ xs.length ∧ i = .int .i64 k ∧ Hid (Fut w wr)) (fun i _ => xs.length - (intOf i).toNat)
  case atStart => exact ⟨0, Nat.zero_le _, rfl, Lib.hid (Fut.refl _)⟩
  case round =>
    obtain ⟨k, hk, rfl, hG⟩ := hrel
    by_cases hlt : k < xs.length
    · obtain ⟨b1, o1, A1, c1, rfl, x0, x1, x2, hu⟩ := sz_at (HA.out.fut RSz.stays hG.out) hlt
      obtain ⟨b2, o2, A2, c2, rfl, y0, y1, y2, hv⟩ := sz_at (HB.out.fut RSz.stays hG.out) hlt
      generalize xs[k] = z at *
      have hltI : (k : Int) < xs.length := by omega
      have e0 : (0 : Int) ≤ k ∧ (k : Int) < xs.length := by omega
      have hU := Lib.hid hu
      have hV := Lib.hid hv
      clear hu hv
      go_wp2_with fail
      refine wp_graph 10 [.d, .d, .d, .d, .d, .d, .d, .d, .d, .d] (by kernel_rfl) (by kernel_rfl) (by kernel_rfl) ?_
      simp only [List.take_succ_cons, List.take_zero, List.drop_succ_cons, List.drop_zero, Exs]
      iterate 10 apply Exists.intro
      apply Run.valG (wanted_none rfl _)
      · intro w1 h1 hk
        have q0 := h1.cell x0; have q1 := h1.cell x1; have q2 := h1.cell x2; have q3 := h1.cell y0; have q4 := h1.cell y1; have q5 := h1.cell y2; have hg := (Fut.drew _).trans h1
        have hcw := fun b o => Below.cell (p := ⟨b, o, none⟩) h1
        go_simp; rfl
      simp only [Act.put, List.setIfInBounds_toArray, List.set_cons_succ, List.set_cons_zero, List.nil_append, List.cons_append]
      apply Run.valG (wanted_none rfl _)
      · intro w1 h1 hk
        have q0 := h1.cell x0; have q1 := h1.cell x1; have q2 := h1.cell x2; have q3 := h1.cell y0; have q4 := h1.cell y1; have q5 := h1.cell y2; have hg := (Fut.drew _).trans h1
        have hcw := fun b o => Below.cell (p := ⟨b, o, none⟩) h1
        go_simp; rfl
      simp only [Act.put, List.setIfInBounds_toArray, List.set_cons_succ, List.set_cons_zero, List.nil_append, List.cons_append]
      apply Run.valG (wanted_none rfl _)
      · intro w1 h1 hk
        have q0 := h1.cell x0; have q1 := h1.cell x1; have q2 := h1.cell x2; have q3 := h1.cell y0; have q4 := h1.cell y1; have q5 := h1.cell y2; have hg := (Fut.drew _).trans h1
        have hcw := fun b o => Below.cell (p := ⟨b, o, none⟩) h1
        go_simp; rfl
      simp only [Act.put, List.setIfInBounds_toArray, List.set_cons_succ, List.set_cons_zero, List.nil_append, List.cons_append]
      apply Run.valG (wanted_none rfl _)
      · intro w1 h1 hk
        have q0 := h1.cell x0; have q1 := h1.cell x1; have q2 := h1.cell x2; have q3 := h1.cell y0; have q4 := h1.cell y1; have q5 := h1.cell y2; have hg := (Fut.drew _).trans h1
        have hcw := fun b o => Below.cell (p := ⟨b, o, none⟩) h1
        go_simp; rfl
      simp only [Act.put, List.setIfInBounds_toArray, List.set_cons_succ, List.set_cons_zero, List.nil_append, List.cons_append]
      apply Run.valG (wanted_none rfl _)
      · intro w1 h1 hk
        have q0 := h1.cell x0; have q1 := h1.cell x1; have q2 := h1.cell x2; have q3 := h1.cell y0; have q4 := h1.cell y1; have q5 := h1.cell y2; have hg := (Fut.drew _).trans h1
        have hcw := fun b o => Below.cell (p := ⟨b, o, none⟩) h1
        go_simp; rfl
      simp only [Act.put, List.setIfInBounds_toArray, List.set_cons_succ, List.set_cons_zero, List.nil_append, List.cons_append]
      apply Run.valG (wanted_none rfl _)
      · intro w1 h1 hk
        have q0 := h1.cell x0; have q1 := h1.cell x1; have q2 := h1.cell x2; have q3 := h1.cell y0; have q4 := h1.cell y1; have q5 := h1.cell y2; have hg := (Fut.drew _).trans h1
        have hcw := fun b o => Below.cell (p := ⟨b, o, none⟩) h1
        go_simp; rfl
      simp only [Act.put, List.setIfInBounds_toArray, List.set_cons_succ, List.set_cons_zero, List.nil_append, List.cons_append]
      apply Run.valG (wanted_none rfl _)
      · intro w1 h1 hk
        have q0 := h1.cell x0; have q1 := h1.cell x1; have q2 := h1.cell x2; have q3 := h1.cell y0; have q4 := h1.cell y1; have q5 := h1.cell y2; have hg := (Fut.drew _).trans h1
        have hcw := fun b o => Below.cell (p := ⟨b, o, none⟩) h1
        go_simp; rfl
      simp only [Act.put, List.setIfInBounds_toArray, List.set_cons_succ, List.set_cons_zero, List.nil_append, List.cons_append]
      apply Run.valG (wanted_none rfl _)
      · intro w1 h1 hk
        have q0 := h1.cell x0; have q1 := h1.cell x1; have q2 := h1.cell x2; have q3 := h1.cell y0; have q4 := h1.cell y1; have q5 := h1.cell y2; have hg := (Fut.drew _).trans h1
        have hcw := fun b o => Below.cell (p := ⟨b, o, none⟩) h1
        go_simp; rfl
      simp only [Act.put, List.setIfInBounds_toArray, List.set_cons_succ, List.set_cons_zero, List.nil_append, List.cons_append]
      apply Run.call (wanted_none rfl _) (fun _ _ => by go_simp; exact ⟨rfl, rfl⟩)
      · intro w1 h1 hk
        have q0 := h1.cell x0; have q1 := h1.cell x1; have q2 := h1.cell x2; have q3 := h1.cell y0; have q4 := h1.cell y1; have q5 := h1.cell y2; have hg := (Fut.drew _).trans h1
        refine (sameSz_any _ _ _ _ _ _ (hU.out.fut RI.stays hg).rep (hV.out.fut RI.stays hg).rep (by unfold maxLen; omega)).mono ?_; rintro e w' ⟨rfl, hf⟩; exact ⟨rfl, hf⟩
      simp only [Act.put, List.setIfInBounds_toArray, List.set_cons_succ, List.set_cons_zero, List.nil_append, List.cons_append]
      apply Run.valG (wanted_none rfl _)
      · intro w1 h1 hk
        have q0 := h1.cell x0; have q1 := h1.cell x1; have q2 := h1.cell x2; have q3 := h1.cell y0; have q4 := h1.cell y1; have q5 := h1.cell y2; have hg := (Fut.drew _).trans h1
        have hcw := fun b o => Below.cell (p := ⟨b, o, none⟩) h1
        go_simp; rfl
      simp only [Act.put, List.setIfInBounds_toArray, List.set_cons_succ, List.set_cons_zero, List.nil_append, List.cons_append]
      apply Run.done
      intro w2 h2 hk
      clear hk
      have hGn := Lib.hid (hG.out.trans ((Fut.drew _).trans h2))
      clear h2
      go_wp2
      go_roundw
      case rel => exact ⟨k + 1, by omega, by go_num, hGn⟩
      case measure => simp [intOf] <;> omega
    · obtain rfl : k = xs.length := by omega
      go_wp2
      go_ret
      exact ⟨rfl, hG.out⟩
end Go.Proofs.YtkdnplebgmmclaaDoor
