/- RelX, RefD, Numb, RefE -/
import Derived.Test.YtcekphjcmippoaaC10
/- The order of rows: cmp.Compare, slices.CompareFunc, Sorted's comparison (they make blocks of their own and turn nothing); the document's Below. -/
namespace Go.Proofs.Ytcekphjcmippoaa
open Go.RowKit Go.WideMaps
set_option linter.unusedSimpArgs false
set_option linter.unusedVariables false

/-- The order of rows. -/
def cmpR (x y : Rw) : Int := lcmp cmpI x y
theorem ordR : Ord3 cmpR := lcmp_ord ordI
theorem lcmp_step {c : Int → Int → Int} : ∀ (x y : List Int) (k : Nat), k < x.length → k < y.length → (∀ i, i < k → c (x.getD i 0) (y.getD i 0) = 0) → c (x.getD k 0) (y.getD k 0) ≠ 0 → lcmp c x y = c (x.getD k 0) (y.getD k 0)
  | [], _, _, h, _, _, _ => by simp at h
  | _ :: _, [], _, _, h, _, _ => by simp at h
  | a :: x, b :: y, 0, _, _, _, hn => by
    simp only [List.getD_cons_zero] at hn ⊢
    rw [lcmp, if_pos hn]
  | a :: x, b :: y, k + 1, h1, h2, hz, hn => by
    have h0 := hz 0 (by omega)
    simp only [List.getD_cons_zero] at h0
    rw [lcmp, if_neg (by simpa using h0)]
    simp only [List.getD_cons_succ] at hn ⊢
    exact lcmp_step x y k (by simpa using h1) (by simpa using h2) (fun i hi => by simpa using hz (i + 1) (by omega)) hn
theorem cmpI_zero {a b : Int} : cmpI a b = 0 ↔ a = b := ordI.zero a b
theorem cmpI_lt {a b : Int} : cmpI a b < 0 ↔ a < b := by
  unfold cmpI
  by_cases h : a < b
  · simp [h]
  · by_cases h2 : b < a <;> simp [h, h2]
theorem cmpR_step {x y : Rw} (hx : Rw.ok x) (hy : Rw.ok y) {k : Nat} (hk : k < 24) (hz : ∀ i, i < k → x.getD i 0 = y.getD i 0) (hn : x.getD k 0 ≠ y.getD k 0) : cmpR x y = cmpI (x.getD k 0) (y.getD k 0) :=
  lcmp_step x y k (by rw [hx.1]; exact hk) (by rw [hy.1]; exact hk) (fun i hi => cmpI_zero.2 (hz i hi)) (fun h => hn (cmpI_zero.1 h))
theorem cmpR_same {x y : Rw} (hx : Rw.ok x) (hy : Rw.ok y) (hz : ∀ i, i < 24 → x.getD i 0 = y.getD i 0) : cmpR x y = 0 := (ordR.zero x y).2 (by
  refine List.ext_getElem (by rw [hx.1, hy.1]) fun i h1 h2 => ?_
  have := hz i (by rw [← hx.1]; exact h1)
  simpa [List.getD, h1, h2] using this)
theorem RowAt.get {w : World} {b off : Nat} {x : Rw} (h : RowAt w b off x) {k : Nat} (hk : k < 24) : w.cell? ⟨b, off + k, none⟩ = some (.int .i32 (x.getD k 0)) := by
  have hl : k < x.length := by rw [h.1.1]; exact hk
  exact h.2 k _ (by simp [Rw.cells, List.getD, hl])
theorem RowAt.get0 {w : World} {b : Nat} {x : Rw} (h : RowAt w b 0 x) {k : Nat} (hk : k < 24) : w.cell? ⟨b, k, none⟩ = some (.int .i32 (x.getD k 0)) := by
  have := h.get hk
  rwa [Nat.zero_add] at this

namespace Gr
set_option maxHeartbeats 400000 in
theorem cmpSym_any (a b : Int) (w : World) : Calls Try.prog 41 #[.int .i32 a, .int .i32 b] w fun e w' => e = .returned (.int .i64 (cmpI a b)) ∧ w' = w := by
  rcases Int.lt_trichotomy a b with h | h | h
  · go_enter Try.func41, Try.ntmps41
    go_wp2
    go_ret
    exact ⟨by unfold cmpI; rw [if_pos h]; rfl, rfl⟩
  · subst h
    go_enter Try.func41, Try.ntmps41
    go_wp2
    go_ret
    exact ⟨by unfold cmpI; rw [if_neg (by omega), if_neg (by omega)]; rfl, rfl⟩
  · go_enter Try.func41, Try.ntmps41
    go_wp2
    go_ret
    exact ⟨by unfold cmpI; rw [if_neg (by omega), if_pos h]; rfl, rfl⟩
set_option maxHeartbeats 800000 in
theorem rowFunc_gr (b b' : Nat) (x y : Rw) (w : World) (ha : RowAt w b 0 x) (hb : RowAt w b' 0 y) :
    Calls Try.prog 40 #[.slice (some ⟨b, 0, none⟩) 24 24, .slice (some ⟨b', 0, none⟩) 24 24, .func (.func 41) #[] #[]] w fun e w' => e = .returned (.int .i64 (cmpR x y)) ∧ Fut w w' := by
  have hx := ha.1
  have hy := hb.1
  go_enter Try.func40, Try.ntmps40
  go_wp2
  go_loopw [13] (fun i wr => ∃ k : Nat, k ≤ 24 ∧ i = .int .i64 k ∧ Hid (∀ i, i < k → x.getD i 0 = y.getD i 0) ∧ Hid (Fut w wr)) (fun i _ => 24 - (intOf i).toNat)
  case atStart => exact ⟨0, Nat.zero_le _, rfl, fun i hi => absurd hi (by omega), Fut.refl w⟩
  case round =>
    obtain ⟨k, hk, rfl, hz, hf⟩ := hrel
    by_cases hlt : k < 24
    · have x0 := (ha.fut hf.out.below).get0 hlt
      have y0 := (hb.fut hf.out.below).get0 hlt
      have e1 : (0 : Int) ≤ k ∧ (k : Int) < 24 := by omega
      have e2 : ¬ (24 : Int) ≤ k := by omega
      by_cases he : x.getD k 0 = y.getD k 0
      · have hc : cmpI (x.getD k 0) (y.getD k 0) = 0 := cmpI_zero.2 he
        have HE := Lib.hid he
        clear he
        generalize x.getD k 0 = a at x0 hc
        generalize y.getD k 0 = a' at y0 hc
        go_wp2_with fail
        refine (cmpSym_any a a' _).mono ?_
        rintro e w1 ⟨rfl, hw1⟩
        have hw1' := hw1.symm
        subst hw1'
        rw [hc]
        go_wp2
        go_roundw
        case rel => exact ⟨k + 1, by omega, by go_num, fun i hi => by
          rcases Nat.lt_or_ge i k with h' | h'
          · exact hz.out i h'
          · obtain rfl : i = k := by omega
            exact HE.out, hf⟩
        case measure => simp [intOf]; omega
      · have hc : (cmpI (x.getD k 0) (y.getD k 0) != 0) = true := by
          have := fun h => he (cmpI_zero.1 h)
          simpa using this
        have hs := Lib.hid (cmpR_step hx hy hlt hz.out he)
        clear he
        generalize x.getD k 0 = a at x0 hc hs
        generalize y.getD k 0 = a' at y0 hc hs
        go_wp2_with fail
        refine (cmpSym_any a a' _).mono ?_
        rintro e w1 ⟨rfl, hw1⟩
        have hw1' := hw1.symm
        subst hw1'
        go_wp2
        go_ret
        rw [hs.out]
        exact ⟨rfl, hf.out⟩
    · obtain rfl : k = 24 := by omega
      have hs := Lib.hid (cmpR_same hx hy hz.out)
      go_wp2
      go_ret
      rw [hs.out]
      exact ⟨rfl, hf.out⟩
set_option maxHeartbeats 800000 in
set_option maxRecDepth 100000 in
theorem sorted1_gr (x y : Rw) (w : World) (hx : Rw.ok x) (hy : Rw.ok y) :
    Calls Try.prog 39 #[Rw.val x, Rw.val y] w fun e w' => e = .returned (.int .i64 (cmpR x y)) ∧ Fut w w' := by
  unfold Rw.val
  go_enter Try.func39, Try.ntmps39
  go_wp2_with fail
  have ra := (RowAt.new w 32 hx).fut (Fut.alloc (w.alloc (.cells (Rw.cells x).toArray 32)) (.cells (Rw.cells y).toArray 32)).below
  have rb := RowAt.new (w.alloc (.cells (Rw.cells x).toArray 32)) 32 hy
  rw [World.size_alloc] at rb
  have hF := (Fut.alloc w (.cells (Rw.cells x).toArray 32)).trans (Fut.alloc _ (.cells (Rw.cells y).toArray 32))
  obtain ⟨W, hW⟩ : ∃ W, (w.alloc (.cells (Rw.cells x).toArray 32)).alloc (.cells (Rw.cells y).toArray 32) = W := ⟨_, rfl⟩
  rw [hW] at ra rb hF ⊢
  clear hW
  refine wp_graph 4 [.d, .d, .d, .d] (by kernel_rfl) (by kernel_rfl) (by kernel_rfl) ?_
  simp only [List.take_succ_cons, List.take_zero, List.drop_succ_cons, List.drop_zero, Exs]
  iterate 4 apply Exists.intro
  apply Run.valG (wanted_none rfl _)
  · intro w1 h1 hk
    have hg := (Fut.drew _).trans h1
    go_simp; rfl
  simp only [Act.put, List.setIfInBounds_toArray, List.set_cons_succ, List.set_cons_zero, List.nil_append, List.cons_append]
  apply Run.valG (wanted_none rfl _)
  · intro w1 h1 hk
    have hg := (Fut.drew _).trans h1
    go_simp; rfl
  simp only [Act.put, List.setIfInBounds_toArray, List.set_cons_succ, List.set_cons_zero, List.nil_append, List.cons_append]
  apply Run.call (wanted_none rfl _) (fun _ _ => by go_simp; exact ⟨rfl, rfl⟩)
  · intro w1 h1 hk
    have hg := (Fut.drew _).trans h1
    exact rowFunc_gr _ _ x y _ (ra.fut hg.below) (rb.fut hg.below)
  simp only [Act.put, List.setIfInBounds_toArray, List.set_cons_succ, List.set_cons_zero, List.nil_append, List.cons_append]
  apply Run.valG (wanted_none rfl _)
  · intro w1 h1 hk
    have hg := (Fut.drew _).trans h1
    go_simp; rfl
  simp only [Act.put, List.setIfInBounds_toArray, List.set_cons_succ, List.set_cons_zero, List.nil_append, List.cons_append]
  apply Run.done
  intro w2 h2 hk
  clear hk
  go_wp2
  go_ret
  exact ⟨rfl, hF.trans ((Fut.drew _).trans h2)⟩
end Gr

set_option maxHeartbeats 800000 in
set_option maxRecDepth 100000 in
theorem below_any (x y : Rw) (w : World) (hx : Rw.ok x) (hy : Rw.ok y) :
    Calls Try.prog 22 #[Rw.val x, Rw.val y] w fun e w' => e = .returned (.bool (decide (cmpR x y < 0))) ∧ Fut w w' := by
  unfold Rw.val
  go_enter Try.func22, Try.ntmps22
  go_wp2_with fail
  have ra := (RowAt.new w 32 hx).fut (Fut.alloc (w.alloc (.cells (Rw.cells x).toArray 32)) (.cells (Rw.cells y).toArray 32))
  have rb := RowAt.new (w.alloc (.cells (Rw.cells x).toArray 32)) 32 hy
  rw [World.size_alloc] at rb
  have hF := (Fut.alloc w (.cells (Rw.cells x).toArray 32)).trans (Fut.alloc _ (.cells (Rw.cells y).toArray 32))
  obtain ⟨W, hW⟩ : ∃ W, (w.alloc (.cells (Rw.cells x).toArray 32)).alloc (.cells (Rw.cells y).toArray 32) = W := ⟨_, rfl⟩
  rw [hW] at ra rb hF ⊢
  clear hW
  go_loopw [5] (fun i wr => ∃ k : Nat, k ≤ 24 ∧ i = .int .i64 k ∧ Hid (∀ i, i < k → x.getD i 0 = y.getD i 0) ∧ Hid (Fut W wr)) (fun i _ => 24 - (intOf i).toNat)
  case atStart => exact ⟨0, Nat.zero_le _, rfl, fun i hi => absurd hi (by omega), Fut.refl W⟩
  case round =>
    obtain ⟨k, hk, rfl, hz, hf⟩ := hrel
    by_cases hlt : k < 24
    · have x0 := (ra.fut hf.out).get0 hlt
      have y0 := (rb.fut hf.out).get0 hlt
      have e1 : (0 : Int) ≤ k ∧ (k : Int) < 24 := by omega
      by_cases he : x.getD k 0 = y.getD k 0
      · have hc : (x.getD k 0 != y.getD k 0) = false := by simpa using he
        have HE := Lib.hid he
        clear he
        generalize x.getD k 0 = a at x0 hc
        generalize y.getD k 0 = a' at y0 hc
        go_wp2_with fail
        refine wp_graph 7 [.d, .d, .d, .d, .d, .d, .d] (by kernel_rfl) (by kernel_rfl) (by kernel_rfl) ?_
        simp only [List.take_succ_cons, List.take_zero, List.drop_succ_cons, List.drop_zero, Exs]
        iterate 7 apply Exists.intro
        apply Run.valG (wanted_none rfl _)
        · intro w1 h1 hk
          have q1 := h1.cell x0; have q2 := h1.cell y0
          have hcw := fun b o => Below.cell (p := ⟨b, o, none⟩) h1
          go_simp; rfl
        simp only [Act.put, List.setIfInBounds_toArray, List.set_cons_succ, List.set_cons_zero, List.nil_append, List.cons_append]
        apply Run.valG (wanted_none rfl _)
        · intro w1 h1 hk
          have q1 := h1.cell x0; have q2 := h1.cell y0
          have hcw := fun b o => Below.cell (p := ⟨b, o, none⟩) h1
          go_simp; rfl
        simp only [Act.put, List.setIfInBounds_toArray, List.set_cons_succ, List.set_cons_zero, List.nil_append, List.cons_append]
        apply Run.valG (wanted_none rfl _)
        · intro w1 h1 hk
          have q1 := h1.cell x0; have q2 := h1.cell y0
          have hcw := fun b o => Below.cell (p := ⟨b, o, none⟩) h1
          go_simp; rfl
        simp only [Act.put, List.setIfInBounds_toArray, List.set_cons_succ, List.set_cons_zero, List.nil_append, List.cons_append]
        apply Run.valG (wanted_none rfl _)
        · intro w1 h1 hk
          have q1 := h1.cell x0; have q2 := h1.cell y0
          have hcw := fun b o => Below.cell (p := ⟨b, o, none⟩) h1
          go_simp; rfl
        simp only [Act.put, List.setIfInBounds_toArray, List.set_cons_succ, List.set_cons_zero, List.nil_append, List.cons_append]
        apply Run.valG (wanted_none rfl _)
        · intro w1 h1 hk
          have q1 := h1.cell x0; have q2 := h1.cell y0
          have hcw := fun b o => Below.cell (p := ⟨b, o, none⟩) h1
          go_simp; rfl
        simp only [Act.put, List.setIfInBounds_toArray, List.set_cons_succ, List.set_cons_zero, List.nil_append, List.cons_append]
        apply Run.valG (wanted_none rfl _)
        · intro w1 h1 hk
          have q1 := h1.cell x0; have q2 := h1.cell y0
          have hcw := fun b o => Below.cell (p := ⟨b, o, none⟩) h1
          go_simp; rfl
        simp only [Act.put, List.setIfInBounds_toArray, List.set_cons_succ, List.set_cons_zero, List.nil_append, List.cons_append]
        apply Run.valG (wanted_none rfl _)
        · intro w1 h1 hk
          have q1 := h1.cell x0; have q2 := h1.cell y0
          have hcw := fun b o => Below.cell (p := ⟨b, o, none⟩) h1
          go_simp; rfl
        simp only [Act.put, List.setIfInBounds_toArray, List.set_cons_succ, List.set_cons_zero, List.nil_append, List.cons_append]
        apply Run.done
        intro w2 h2 hk
        clear hk
        have hf2 := Lib.hid (hf.out.trans ((Fut.drew _).trans h2))
        go_wp2
        go_roundw
        case rel => exact ⟨k + 1, by omega, by go_num, fun i hi => by
          rcases Nat.lt_or_ge i k with h' | h'
          · exact hz.out i h'
          · obtain rfl : i = k := by omega
            exact HE.out, hf2⟩
        case measure => simp [intOf]; omega
      · have hc : (x.getD k 0 != y.getD k 0) = true := by simpa using he
        have hs := Lib.hid (cmpR_step hx hy hlt hz.out he)
        have hlt' : decide (cmpI (x.getD k 0) (y.getD k 0) < 0) = decide (x.getD k 0 < y.getD k 0) := by
          rw [Bool.eq_iff_iff, decide_eq_true_iff, decide_eq_true_iff, cmpI_lt]
        clear he
        generalize x.getD k 0 = a at x0 hc hs hlt'
        generalize y.getD k 0 = a' at y0 hc hs hlt'
        go_wp2_with fail
        refine wp_graph 7 [.d, .d, .d, .d, .d, .d, .d] (by kernel_rfl) (by kernel_rfl) (by kernel_rfl) ?_
        simp only [List.take_succ_cons, List.take_zero, List.drop_succ_cons, List.drop_zero, Exs]
        iterate 7 apply Exists.intro
        apply Run.valG (wanted_none rfl _)
        · intro w1 h1 hk
          have q1 := h1.cell x0; have q2 := h1.cell y0
          have hcw := fun b o => Below.cell (p := ⟨b, o, none⟩) h1
          go_simp; rfl
        simp only [Act.put, List.setIfInBounds_toArray, List.set_cons_succ, List.set_cons_zero, List.nil_append, List.cons_append]
        apply Run.valG (wanted_none rfl _)
        · intro w1 h1 hk
          have q1 := h1.cell x0; have q2 := h1.cell y0
          have hcw := fun b o => Below.cell (p := ⟨b, o, none⟩) h1
          go_simp; rfl
        simp only [Act.put, List.setIfInBounds_toArray, List.set_cons_succ, List.set_cons_zero, List.nil_append, List.cons_append]
        apply Run.valG (wanted_none rfl _)
        · intro w1 h1 hk
          have q1 := h1.cell x0; have q2 := h1.cell y0
          have hcw := fun b o => Below.cell (p := ⟨b, o, none⟩) h1
          go_simp; rfl
        simp only [Act.put, List.setIfInBounds_toArray, List.set_cons_succ, List.set_cons_zero, List.nil_append, List.cons_append]
        apply Run.valG (wanted_none rfl _)
        · intro w1 h1 hk
          have q1 := h1.cell x0; have q2 := h1.cell y0
          have hcw := fun b o => Below.cell (p := ⟨b, o, none⟩) h1
          go_simp; rfl
        simp only [Act.put, List.setIfInBounds_toArray, List.set_cons_succ, List.set_cons_zero, List.nil_append, List.cons_append]
        apply Run.valG (wanted_none rfl _)
        · intro w1 h1 hk
          have q1 := h1.cell x0; have q2 := h1.cell y0
          have hcw := fun b o => Below.cell (p := ⟨b, o, none⟩) h1
          go_simp; rfl
        simp only [Act.put, List.setIfInBounds_toArray, List.set_cons_succ, List.set_cons_zero, List.nil_append, List.cons_append]
        apply Run.valG (wanted_none rfl _)
        · intro w1 h1 hk
          have q1 := h1.cell x0; have q2 := h1.cell y0
          have hcw := fun b o => Below.cell (p := ⟨b, o, none⟩) h1
          go_simp; rfl
        simp only [Act.put, List.setIfInBounds_toArray, List.set_cons_succ, List.set_cons_zero, List.nil_append, List.cons_append]
        apply Run.valG (wanted_none rfl _)
        · intro w1 h1 hk
          have q1 := h1.cell x0; have q2 := h1.cell y0
          have hcw := fun b o => Below.cell (p := ⟨b, o, none⟩) h1
          go_simp; rfl
        simp only [Act.put, List.setIfInBounds_toArray, List.set_cons_succ, List.set_cons_zero, List.nil_append, List.cons_append]
        apply Run.done
        intro w2 h2 hk
        clear hk
        have x1 := h2.cell x0
        have y1 := h2.cell y0
        have hf2 := hf.out.trans ((Fut.drew _).trans h2)
        go_wp2_with fail
        refine wp_graph 8 [.d, .d, .d, .d, .d, .d, .d, .d] (by kernel_rfl) (by kernel_rfl) (by kernel_rfl) ?_
        simp only [List.take_succ_cons, List.take_zero, List.drop_succ_cons, List.drop_zero, Exs]
        iterate 8 apply Exists.intro
        apply Run.valG (wanted_none rfl _)
        · intro w1 h1 hk
          have q1 := h1.cell x1; have q2 := h1.cell y1
          have hcw := fun b o => Below.cell (p := ⟨b, o, none⟩) h1
          go_simp; rfl
        simp only [Act.put, List.setIfInBounds_toArray, List.set_cons_succ, List.set_cons_zero, List.nil_append, List.cons_append]
        apply Run.valG (wanted_none rfl _)
        · intro w1 h1 hk
          have q1 := h1.cell x1; have q2 := h1.cell y1
          have hcw := fun b o => Below.cell (p := ⟨b, o, none⟩) h1
          go_simp; rfl
        simp only [Act.put, List.setIfInBounds_toArray, List.set_cons_succ, List.set_cons_zero, List.nil_append, List.cons_append]
        apply Run.valG (wanted_none rfl _)
        · intro w1 h1 hk
          have q1 := h1.cell x1; have q2 := h1.cell y1
          have hcw := fun b o => Below.cell (p := ⟨b, o, none⟩) h1
          go_simp; rfl
        simp only [Act.put, List.setIfInBounds_toArray, List.set_cons_succ, List.set_cons_zero, List.nil_append, List.cons_append]
        apply Run.valG (wanted_none rfl _)
        · intro w1 h1 hk
          have q1 := h1.cell x1; have q2 := h1.cell y1
          have hcw := fun b o => Below.cell (p := ⟨b, o, none⟩) h1
          go_simp; rfl
        simp only [Act.put, List.setIfInBounds_toArray, List.set_cons_succ, List.set_cons_zero, List.nil_append, List.cons_append]
        apply Run.valG (wanted_none rfl _)
        · intro w1 h1 hk
          have q1 := h1.cell x1; have q2 := h1.cell y1
          have hcw := fun b o => Below.cell (p := ⟨b, o, none⟩) h1
          go_simp; rfl
        simp only [Act.put, List.setIfInBounds_toArray, List.set_cons_succ, List.set_cons_zero, List.nil_append, List.cons_append]
        apply Run.valG (wanted_none rfl _)
        · intro w1 h1 hk
          have q1 := h1.cell x1; have q2 := h1.cell y1
          have hcw := fun b o => Below.cell (p := ⟨b, o, none⟩) h1
          go_simp; rfl
        simp only [Act.put, List.setIfInBounds_toArray, List.set_cons_succ, List.set_cons_zero, List.nil_append, List.cons_append]
        apply Run.valG (wanted_none rfl _)
        · intro w1 h1 hk
          have q1 := h1.cell x1; have q2 := h1.cell y1
          have hcw := fun b o => Below.cell (p := ⟨b, o, none⟩) h1
          go_simp; rfl
        simp only [Act.put, List.setIfInBounds_toArray, List.set_cons_succ, List.set_cons_zero, List.nil_append, List.cons_append]
        apply Run.valG (wanted_none rfl _)
        · intro w1 h1 hk
          have q1 := h1.cell x1; have q2 := h1.cell y1
          have hcw := fun b o => Below.cell (p := ⟨b, o, none⟩) h1
          go_simp; rfl
        simp only [Act.put, List.setIfInBounds_toArray, List.set_cons_succ, List.set_cons_zero, List.nil_append, List.cons_append]
        apply Run.done
        intro w3 h3 hk
        clear hk
        go_wp2
        go_ret
        rw [hs.out, hlt']
        exact ⟨rfl, hF.trans (hf2.trans ((Fut.drew _).trans h3))⟩
    · obtain rfl : k = 24 := by omega
      have hs := Lib.hid (cmpR_same hx hy hz.out)
      go_wp2
      go_ret
      rw [hs.out]
      exact ⟨rfl, hF.trans hf.out⟩
end Go.Proofs.Ytcekphjcmippoaa
/- The document's relation: Fits, Select. -/
namespace Go.Proofs.Ytcekphjcmippoaa
open Go.RowKit Go.WideMaps
set_option linter.unusedSimpArgs false
set_option linter.unusedVariables false

theorem fitB_step' (m : Nat) (y x : Rw) (q : Nat) : fitB m y x (q + 1) = (fitB m y x q && ((y.getD q 0 == x.getD q 0) || !m.testBit q)) := by
  rw [fitB_step]
  simp [List.getD]
theorem fitB_mono {m : Nat} {y x : Rw} {k : Nat} (h : fitB m y x k = false) : ∀ {n : Nat}, k ≤ n → fitB m y x n = false := by
  intro n hn
  induction hn with
  | refl => exact h
  | step _ ih => rw [fitB_step', ih]; rfl
set_option maxHeartbeats 1600000 in
set_option maxRecDepth 100000 in
theorem fits_any (y x : Rw) (hy : Rw.ok y) (hx : Rw.ok x) (m : Nat) (hm : m < 2 ^ 32) (ar : Nat) (har : ar ≤ 24) (w : World) :
    Calls Try.prog 63 #[Rw.val y, Rw.val x, .int .u32 m, .int .i64 ar] w fun e w' => e = .returned (.bool (fitB m y x ar)) ∧ Fut w w' := by
  unfold Rw.val
  go_enter Try.func63, Try.ntmps63
  go_wp2_with fail
  have ra := (RowAt.new w 32 hy).fut (Fut.alloc (w.alloc (.cells (Rw.cells y).toArray 32)) (.cells (Rw.cells x).toArray 32))
  have rb := RowAt.new (w.alloc (.cells (Rw.cells y).toArray 32)) 32 hx
  rw [World.size_alloc] at rb
  have hF := (Fut.alloc w (.cells (Rw.cells y).toArray 32)).trans (Fut.alloc _ (.cells (Rw.cells x).toArray 32))
  obtain ⟨W, hW⟩ : ∃ W, (w.alloc (.cells (Rw.cells y).toArray 32)).alloc (.cells (Rw.cells x).toArray 32) = W := ⟨_, rfl⟩
  rw [hW] at ra rb hF ⊢
  clear hW
  go_loopw [9, 10] (fun q i wr => ∃ k : Nat, k ≤ ar ∧ i = .int .i64 k ∧ q = .int .u32 ((2 ^ k : Nat) : Int) ∧ Hid (fitB m y x k = true) ∧ Hid (Fut W wr)) (fun _ i _ => ar - (intOf i).toNat)
  case atStart => exact ⟨0, Nat.zero_le _, rfl, rfl, Lib.hid rfl, Lib.hid (Fut.refl W)⟩
  case round =>
    obtain ⟨k, hk, rfl, rfl, hz, hf⟩ := hrel
    by_cases hlt : k < ar
    · have x0 := (ra.fut hf.out).get0 (k := k) (by omega)
      have y0 := (rb.fut hf.out).get0 (k := k) (by omega)
      have e1 : (0 : Int) ≤ k ∧ (k : Int) < 24 := by omega
      have hp32 : 2 ^ (k + 1) < 4294967296 := Nat.lt_of_lt_of_eq (Nat.pow_lt_pow_right (a := 2) (m := k + 1) (n := 32) (by decide) (by omega)) (by decide)
      have hp0 : 0 < 2 ^ k := Nat.pos_of_ne_zero (by simp)
      have hst := fitB_step' m y x k
      have hps : 2 ^ (k + 1) = 2 * 2 ^ k := by rw [Nat.pow_succ]; omega
      have hbit : m.testBit k = decide (m / 2 ^ k % 2 = 1) := by rw [Nat.testBit_eq_decide_div_mod_eq]
      rw [hz.out, hbit] at hst
      rw [hps] at hp32
      generalize 2 ^ k = p at hst hp0 hps hp32 ⊢
      have hpi : ¬ p = 0 := by omega
      have hdm : m / p ≤ m := Nat.div_le_self _ _
      have hd : (m : Int) / (p : Int) = ((m / p : Nat) : Int) := by simp
      generalize m / p = d at hd hdm hst
      have w1 : IntKind.u32.wrap ((m : Int) / (p : Int)) = (m : Int) / (p : Int) := by rw [hd, IntKind.wrap_u32]; omega
      have w2 : ((m : Int) / (p : Int)).tmod 2 = ((d % 2 : Nat) : Int) := by rw [hd]; rfl
      have w3 : (((m : Int) / (p : Int)).tmod 2 == 1) = decide (d % 2 = 1) := by
        rw [w2, Bool.eq_iff_iff, beq_iff_eq, decide_eq_true_iff]; omega
      have w5 : IntKind.u32.wrap (((m : Int) / (p : Int)).tmod 2) = ((m : Int) / (p : Int)).tmod 2 := by rw [w2, IntKind.wrap_u32]; omega
      clear hd
      clear w2
      generalize decide (d % 2 = 1) = tb at w3 hst
      generalize y.getD k 0 = a at x0 hst
      generalize x.getD k 0 = a' at y0 hst
      have w4 : IntKind.u32.wrap (2 * (p : Int)) = ((2 * p : Nat) : Int) := by rw [IntKind.wrap_u32]; omega
      cases tb with
      | false =>
        go_wp2_with fail
        refine wp_graph 14 [.d, .d, .d, .d, .d, .d, .d, .d, .d, .d, .d, .d, .d, .d] (by kernel_rfl) (by kernel_rfl) (by kernel_rfl) ?_
        simp only [List.take_succ_cons, List.take_zero, List.drop_succ_cons, List.drop_zero, Exs]
        iterate 14 apply Exists.intro
        apply Run.valG (wanted_none rfl _)
        · intro w1 h1 hk
          have hcw := fun b o => Below.cell (p := ⟨b, o, none⟩) h1
          go_simp; rfl
        simp only [Act.put, List.setIfInBounds_toArray, List.set_cons_succ, List.set_cons_zero, List.nil_append, List.cons_append]
        apply Run.valG (wanted_none rfl _)
        · intro w1 h1 hk
          have hcw := fun b o => Below.cell (p := ⟨b, o, none⟩) h1
          go_simp; rfl
        simp only [Act.put, List.setIfInBounds_toArray, List.set_cons_succ, List.set_cons_zero, List.nil_append, List.cons_append]
        apply Run.valG (wanted_none rfl _)
        · intro w1 h1 hk
          have hcw := fun b o => Below.cell (p := ⟨b, o, none⟩) h1
          go_simp; rfl
        simp only [Act.put, List.setIfInBounds_toArray, List.set_cons_succ, List.set_cons_zero, List.nil_append, List.cons_append]
        apply Run.valG (wanted_none rfl _)
        · intro w1 h1 hk
          have hcw := fun b o => Below.cell (p := ⟨b, o, none⟩) h1
          go_simp; rfl
        simp only [Act.put, List.setIfInBounds_toArray, List.set_cons_succ, List.set_cons_zero, List.nil_append, List.cons_append]
        apply Run.valG (wanted_none rfl _)
        · intro w1 h1 hk
          have hcw := fun b o => Below.cell (p := ⟨b, o, none⟩) h1
          go_simp; rfl
        simp only [Act.put, List.setIfInBounds_toArray, List.set_cons_succ, List.set_cons_zero, List.nil_append, List.cons_append]
        apply Run.valG (wanted_none rfl _)
        · intro w1 h1 hk
          have hcw := fun b o => Below.cell (p := ⟨b, o, none⟩) h1
          go_simp; rfl
        simp only [Act.put, List.setIfInBounds_toArray, List.set_cons_succ, List.set_cons_zero, List.nil_append, List.cons_append]
        apply Run.skip (by go_simp)
        simp only [Act.put, List.setIfInBounds_toArray, List.set_cons_succ, List.set_cons_zero, List.nil_append, List.cons_append]
        apply Run.skip (by go_simp)
        simp only [Act.put, List.setIfInBounds_toArray, List.set_cons_succ, List.set_cons_zero, List.nil_append, List.cons_append]
        apply Run.skip (by go_simp)
        simp only [Act.put, List.setIfInBounds_toArray, List.set_cons_succ, List.set_cons_zero, List.nil_append, List.cons_append]
        apply Run.skip (by go_simp)
        simp only [Act.put, List.setIfInBounds_toArray, List.set_cons_succ, List.set_cons_zero, List.nil_append, List.cons_append]
        apply Run.skip (by go_simp)
        simp only [Act.put, List.setIfInBounds_toArray, List.set_cons_succ, List.set_cons_zero, List.nil_append, List.cons_append]
        apply Run.skip (by go_simp)
        simp only [Act.put, List.setIfInBounds_toArray, List.set_cons_succ, List.set_cons_zero, List.nil_append, List.cons_append]
        apply Run.skip (by go_simp)
        simp only [Act.put, List.setIfInBounds_toArray, List.set_cons_succ, List.set_cons_zero, List.nil_append, List.cons_append]
        apply Run.valG (wanted_none rfl _)
        · intro w1 h1 hk
          have hcw := fun b o => Below.cell (p := ⟨b, o, none⟩) h1
          go_simp; rfl
        simp only [Act.put, List.setIfInBounds_toArray, List.set_cons_succ, List.set_cons_zero, List.nil_append, List.cons_append]
        apply Run.done
        intro w2 h2 hk
        clear hk
        have hf2 := Lib.hid (hf.out.trans ((Fut.drew _).trans h2))
        go_wp2
        go_roundw
        case rel => exact ⟨k + 1, by omega, by go_num, by rw [hps] <;> rfl, Lib.hid (by rw [hst]; simp), hf2⟩
        case measure => simp [intOf] <;> omega
      | true =>
        by_cases he : a = a'
        · have hne : (a != a') = false := by simpa using he
          have hst' : fitB m y x (k + 1) = true := by rw [hst, he]; simp
          clear he hst
          go_wp2_with fail
          refine wp_graph 14 [.d, .d, .d, .d, .d, .d, .d, .d, .d, .d, .d, .d, .d, .d] (by kernel_rfl) (by kernel_rfl) (by kernel_rfl) ?_
          simp only [List.take_succ_cons, List.take_zero, List.drop_succ_cons, List.drop_zero, Exs]
          iterate 14 apply Exists.intro
          apply Run.valG (wanted_none rfl _)
          · intro w1 h1 hk
            have q1 := h1.cell x0; have q2 := h1.cell y0
            have hcw := fun b o => Below.cell (p := ⟨b, o, none⟩) h1
            go_simp; rfl
          simp only [Act.put, List.setIfInBounds_toArray, List.set_cons_succ, List.set_cons_zero, List.nil_append, List.cons_append]
          apply Run.valG (wanted_none rfl _)
          · intro w1 h1 hk
            have q1 := h1.cell x0; have q2 := h1.cell y0
            have hcw := fun b o => Below.cell (p := ⟨b, o, none⟩) h1
            go_simp; rfl
          simp only [Act.put, List.setIfInBounds_toArray, List.set_cons_succ, List.set_cons_zero, List.nil_append, List.cons_append]
          apply Run.valG (wanted_none rfl _)
          · intro w1 h1 hk
            have q1 := h1.cell x0; have q2 := h1.cell y0
            have hcw := fun b o => Below.cell (p := ⟨b, o, none⟩) h1
            go_simp; rfl
          simp only [Act.put, List.setIfInBounds_toArray, List.set_cons_succ, List.set_cons_zero, List.nil_append, List.cons_append]
          apply Run.valG (wanted_none rfl _)
          · intro w1 h1 hk
            have q1 := h1.cell x0; have q2 := h1.cell y0
            have hcw := fun b o => Below.cell (p := ⟨b, o, none⟩) h1
            go_simp; rfl
          simp only [Act.put, List.setIfInBounds_toArray, List.set_cons_succ, List.set_cons_zero, List.nil_append, List.cons_append]
          apply Run.valG (wanted_none rfl _)
          · intro w1 h1 hk
            have q1 := h1.cell x0; have q2 := h1.cell y0
            have hcw := fun b o => Below.cell (p := ⟨b, o, none⟩) h1
            go_simp; rfl
          simp only [Act.put, List.setIfInBounds_toArray, List.set_cons_succ, List.set_cons_zero, List.nil_append, List.cons_append]
          apply Run.valG (wanted_none rfl _)
          · intro w1 h1 hk
            have q1 := h1.cell x0; have q2 := h1.cell y0
            have hcw := fun b o => Below.cell (p := ⟨b, o, none⟩) h1
            go_simp; rfl
          simp only [Act.put, List.setIfInBounds_toArray, List.set_cons_succ, List.set_cons_zero, List.nil_append, List.cons_append]
          apply Run.valG (by go_simp)
          · intro w1 h1 hk
            have q1 := h1.cell x0; have q2 := h1.cell y0
            have hcw := fun b o => Below.cell (p := ⟨b, o, none⟩) h1
            go_simp; rfl
          simp only [Act.put, List.setIfInBounds_toArray, List.set_cons_succ, List.set_cons_zero, List.nil_append, List.cons_append]
          apply Run.valG (by go_simp)
          · intro w1 h1 hk
            have q1 := h1.cell x0; have q2 := h1.cell y0
            have hcw := fun b o => Below.cell (p := ⟨b, o, none⟩) h1
            go_simp; rfl
          simp only [Act.put, List.setIfInBounds_toArray, List.set_cons_succ, List.set_cons_zero, List.nil_append, List.cons_append]
          apply Run.valG (by go_simp)
          · intro w1 h1 hk
            have q1 := h1.cell x0; have q2 := h1.cell y0
            have hcw := fun b o => Below.cell (p := ⟨b, o, none⟩) h1
            go_simp; rfl
          simp only [Act.put, List.setIfInBounds_toArray, List.set_cons_succ, List.set_cons_zero, List.nil_append, List.cons_append]
          apply Run.valG (by go_simp)
          · intro w1 h1 hk
            have q1 := h1.cell x0; have q2 := h1.cell y0
            have hcw := fun b o => Below.cell (p := ⟨b, o, none⟩) h1
            go_simp; rfl
          simp only [Act.put, List.setIfInBounds_toArray, List.set_cons_succ, List.set_cons_zero, List.nil_append, List.cons_append]
          apply Run.valG (by go_simp)
          · intro w1 h1 hk
            have q1 := h1.cell x0; have q2 := h1.cell y0
            have hcw := fun b o => Below.cell (p := ⟨b, o, none⟩) h1
            go_simp; rfl
          simp only [Act.put, List.setIfInBounds_toArray, List.set_cons_succ, List.set_cons_zero, List.nil_append, List.cons_append]
          apply Run.valG (by go_simp)
          · intro w1 h1 hk
            have q1 := h1.cell x0; have q2 := h1.cell y0
            have hcw := fun b o => Below.cell (p := ⟨b, o, none⟩) h1
            go_simp; rfl
          simp only [Act.put, List.setIfInBounds_toArray, List.set_cons_succ, List.set_cons_zero, List.nil_append, List.cons_append]
          apply Run.valG (by go_simp)
          · intro w1 h1 hk
            have q1 := h1.cell x0; have q2 := h1.cell y0
            have hcw := fun b o => Below.cell (p := ⟨b, o, none⟩) h1
            go_simp; rfl
          simp only [Act.put, List.setIfInBounds_toArray, List.set_cons_succ, List.set_cons_zero, List.nil_append, List.cons_append]
          apply Run.valG (wanted_none rfl _)
          · intro w1 h1 hk
            have q1 := h1.cell x0; have q2 := h1.cell y0
            have hcw := fun b o => Below.cell (p := ⟨b, o, none⟩) h1
            go_simp; rfl
          simp only [Act.put, List.setIfInBounds_toArray, List.set_cons_succ, List.set_cons_zero, List.nil_append, List.cons_append]
          apply Run.done
          intro w2 h2 hk
          clear hk
          have hf2 := Lib.hid (hf.out.trans ((Fut.drew _).trans h2))
          go_wp2
          go_roundw
          case rel => exact ⟨k + 1, by omega, by go_num, by rw [hps] <;> rfl, Lib.hid hst', hf2⟩
          case measure => simp [intOf] <;> omega
        · have hne : (a != a') = true := by simpa using he
          have hst' : fitB m y x (k + 1) = false := by rw [hst]; simpa using he
          have hfin := fitB_mono hst' (show k + 1 ≤ ar by omega)
          clear he hst
          go_wp2_with fail
          refine wp_graph 14 [.d, .d, .d, .d, .d, .d, .d, .d, .d, .d, .d, .d, .d, .d] (by kernel_rfl) (by kernel_rfl) (by kernel_rfl) ?_
          simp only [List.take_succ_cons, List.take_zero, List.drop_succ_cons, List.drop_zero, Exs]
          iterate 14 apply Exists.intro
          apply Run.valG (wanted_none rfl _)
          · intro w1 h1 hk
            have q1 := h1.cell x0; have q2 := h1.cell y0
            have hcw := fun b o => Below.cell (p := ⟨b, o, none⟩) h1
            go_simp; rfl
          simp only [Act.put, List.setIfInBounds_toArray, List.set_cons_succ, List.set_cons_zero, List.nil_append, List.cons_append]
          apply Run.valG (wanted_none rfl _)
          · intro w1 h1 hk
            have q1 := h1.cell x0; have q2 := h1.cell y0
            have hcw := fun b o => Below.cell (p := ⟨b, o, none⟩) h1
            go_simp; rfl
          simp only [Act.put, List.setIfInBounds_toArray, List.set_cons_succ, List.set_cons_zero, List.nil_append, List.cons_append]
          apply Run.valG (wanted_none rfl _)
          · intro w1 h1 hk
            have q1 := h1.cell x0; have q2 := h1.cell y0
            have hcw := fun b o => Below.cell (p := ⟨b, o, none⟩) h1
            go_simp; rfl
          simp only [Act.put, List.setIfInBounds_toArray, List.set_cons_succ, List.set_cons_zero, List.nil_append, List.cons_append]
          apply Run.valG (wanted_none rfl _)
          · intro w1 h1 hk
            have q1 := h1.cell x0; have q2 := h1.cell y0
            have hcw := fun b o => Below.cell (p := ⟨b, o, none⟩) h1
            go_simp; rfl
          simp only [Act.put, List.setIfInBounds_toArray, List.set_cons_succ, List.set_cons_zero, List.nil_append, List.cons_append]
          apply Run.valG (wanted_none rfl _)
          · intro w1 h1 hk
            have q1 := h1.cell x0; have q2 := h1.cell y0
            have hcw := fun b o => Below.cell (p := ⟨b, o, none⟩) h1
            go_simp; rfl
          simp only [Act.put, List.setIfInBounds_toArray, List.set_cons_succ, List.set_cons_zero, List.nil_append, List.cons_append]
          apply Run.valG (wanted_none rfl _)
          · intro w1 h1 hk
            have q1 := h1.cell x0; have q2 := h1.cell y0
            have hcw := fun b o => Below.cell (p := ⟨b, o, none⟩) h1
            go_simp; rfl
          simp only [Act.put, List.setIfInBounds_toArray, List.set_cons_succ, List.set_cons_zero, List.nil_append, List.cons_append]
          apply Run.valG (by go_simp)
          · intro w1 h1 hk
            have q1 := h1.cell x0; have q2 := h1.cell y0
            have hcw := fun b o => Below.cell (p := ⟨b, o, none⟩) h1
            go_simp; rfl
          simp only [Act.put, List.setIfInBounds_toArray, List.set_cons_succ, List.set_cons_zero, List.nil_append, List.cons_append]
          apply Run.valG (by go_simp)
          · intro w1 h1 hk
            have q1 := h1.cell x0; have q2 := h1.cell y0
            have hcw := fun b o => Below.cell (p := ⟨b, o, none⟩) h1
            go_simp; rfl
          simp only [Act.put, List.setIfInBounds_toArray, List.set_cons_succ, List.set_cons_zero, List.nil_append, List.cons_append]
          apply Run.valG (by go_simp)
          · intro w1 h1 hk
            have q1 := h1.cell x0; have q2 := h1.cell y0
            have hcw := fun b o => Below.cell (p := ⟨b, o, none⟩) h1
            go_simp; rfl
          simp only [Act.put, List.setIfInBounds_toArray, List.set_cons_succ, List.set_cons_zero, List.nil_append, List.cons_append]
          apply Run.valG (by go_simp)
          · intro w1 h1 hk
            have q1 := h1.cell x0; have q2 := h1.cell y0
            have hcw := fun b o => Below.cell (p := ⟨b, o, none⟩) h1
            go_simp; rfl
          simp only [Act.put, List.setIfInBounds_toArray, List.set_cons_succ, List.set_cons_zero, List.nil_append, List.cons_append]
          apply Run.valG (by go_simp)
          · intro w1 h1 hk
            have q1 := h1.cell x0; have q2 := h1.cell y0
            have hcw := fun b o => Below.cell (p := ⟨b, o, none⟩) h1
            go_simp; rfl
          simp only [Act.put, List.setIfInBounds_toArray, List.set_cons_succ, List.set_cons_zero, List.nil_append, List.cons_append]
          apply Run.valG (by go_simp)
          · intro w1 h1 hk
            have q1 := h1.cell x0; have q2 := h1.cell y0
            have hcw := fun b o => Below.cell (p := ⟨b, o, none⟩) h1
            go_simp; rfl
          simp only [Act.put, List.setIfInBounds_toArray, List.set_cons_succ, List.set_cons_zero, List.nil_append, List.cons_append]
          apply Run.valG (by go_simp)
          · intro w1 h1 hk
            have q1 := h1.cell x0; have q2 := h1.cell y0
            have hcw := fun b o => Below.cell (p := ⟨b, o, none⟩) h1
            go_simp; rfl
          simp only [Act.put, List.setIfInBounds_toArray, List.set_cons_succ, List.set_cons_zero, List.nil_append, List.cons_append]
          apply Run.valG (wanted_none rfl _)
          · intro w1 h1 hk
            have q1 := h1.cell x0; have q2 := h1.cell y0
            have hcw := fun b o => Below.cell (p := ⟨b, o, none⟩) h1
            go_simp; rfl
          simp only [Act.put, List.setIfInBounds_toArray, List.set_cons_succ, List.set_cons_zero, List.nil_append, List.cons_append]
          apply Run.done
          intro w2 h2 hk
          clear hk
          go_wp2
          go_ret
          rw [hfin]
          exact ⟨rfl, hF.trans (hf.out.trans ((Fut.drew _).trans h2))⟩
    · obtain rfl : k = ar := by omega
      have hz1 := Lib.hid hz.out
      go_wp2
      go_ret
      rw [hz1.out]
      exact ⟨rfl, hF.trans hf.out⟩
end Go.Proofs.Ytcekphjcmippoaa
/- Rows with their numbers, in lists: built, appended. -/
namespace Go.Proofs.Ytcekphjcmippoaa
open Go.RowKit Go.WideMaps
set_option linter.unusedSimpArgs false
set_option linter.unusedVariables false

structure Nb where
  n : Int
  row : Rw
def Nb.cells (t : Nb) : List Value := .int .i64 t.n :: Rw.cells t.row
def RNb (_ : World) (cs : List Value) (t : Nb) : Prop := cs = t.cells ∧ Rw.ok t.row
theorem RNb.stays : Stays RNb := fun _ _ _ _ _ h => h
theorem RNb.one : ∀ (w : World) cs x, RNb w cs x → ∀ u ∈ cs, u.oneCell' = true := fun w cs x h u hu => by
  obtain ⟨rfl, h2⟩ := h
  rcases List.mem_cons.1 hu with rfl | hu
  · rfl
  · exact RR.one w _ x.row ⟨rfl, h2⟩ u hu
def zeroN : Value := .agg (.int .i64 0 :: Rw.cells zeroRow).toArray
theorem infoNb : (Try.prog.info? 106).map (fun i => (i.zero, i.size, i.bytes)) = some (some zeroN, 25, 104) := by kernel_rfl
theorem exec_append_N {o : Oper} {a : Act} {B : Nat} {w : World} {v u : Value} {xs ys : List Nb} {M : Nat} (s x : Operand)
    (ho : o.op = .call { callee := .builtin .append, args := #[s, x], argTypes := #[95, 95] })
    (hs : a.eval s = v) (hx : a.eval x = u) (hown : OwnL 25 B 106 RNb w v xs) (hu : SlRep 25 M RNb w u ys) (hlen : xs.length + ys.length ≤ 1353244080301) (hbase : B ≤ w.heap.size) :
    ∃ v' w', (execOp a.eval o).run Try.prog w = .ok (.value v') w' ∧ OwnL 25 B 106 RNb w' v' (xs ++ ys) ∧ w.grownBy w' v.ownBlock := by
  obtain ⟨i, hi, hz, hs', hb⟩ := info_parts infoNb
  obtain ⟨v', w', hr, h2, h3, _⟩ := run_append_list_at 95 o.type i _ 104 Try.underlying95 hi hz hs' hb rfl (by omega) RNb.one (fun _ _ _ h _ => h) hown hu (by unfold maxLen; omega) (by omega) hbase
  refine ⟨v', w', ?_, h2, h3⟩
  unfold execOp
  simp only [ho, resolve, invoke, builtin, Sem.run_bind, Sem.run_pure, Result.andThen_ok, List.map_toArray, List.map_cons, List.map_nil, hs, hx, hr]
theorem wpList_append_N {ops : Array Oper} {rest : List Oper} {Q : Exit → Act → World → Prop} {o : Oper} {a : Act} {B : Nat} {w : World} {v u : Value} {xs ys : List Nb} {M : Nat} (hgd : Region.wanted o (yielded ops a.tmps) = true) (s x : Operand)
    (ho : o.op = .call { callee := .builtin .append, args := #[s, x], argTypes := #[95, 95] })
    (hs : a.eval s = v) (hx : a.eval x = u) (hown : OwnL 25 B 106 RNb w v xs) (hu : SlRep 25 M RNb w u ys) (hlen : xs.length + ys.length ≤ 1353244080301) (hbase : B ≤ w.heap.size)
    (h : ∀ v' w', OwnL 25 B 106 RNb w' v' (xs ++ ys) → w.grownBy w' v.ownBlock → wpList Try.prog ops Q rest (a.put o.dst v') w') : wpList Try.prog ops Q (o :: rest) a w := by
  obtain ⟨v', w', hr, h2, h3⟩ := exec_append_N s x ho hs hx hown hu hlen hbase
  exact wpList_of_run hgd hr (h v' w' h2 h3)
def Nb.val (t : Nb) : Value := .agg t.cells.toArray
/-- Numbered{N: n, Row: x} -/
theorem exec_numb {o : Oper} {a : Act} {w : World} {t : Nb} (y z : Operand) (ho : o.op = .build 106 #[(0, z), (1, y)]) (hz0 : a.eval z = .int .i64 t.n) (hy : a.eval y = Rw.val t.row) (hx : Rw.ok t.row) :
    (execOp a.eval o).run Try.prog w = .ok (.value t.val) w := by
  have hl := Rw.cells_len hx
  obtain ⟨arr0, g1, g2, g3⟩ := fill_one (place := fun i => (#[(0, 1), (1, 24)] : Array (Nat × Nat))[i]?) (i := 0) (off := 0) (sz := 1) (v := .int .i64 t.n) (zero := (.int .i64 0 :: Rw.cells zeroRow).toArray) rfl rfl (by simp [Rw.cells_len zeroRow_ok]) [(1, Rw.val t.row)]
  obtain ⟨arr', h1, h2, h3⟩ := fill_one (place := fun i => (#[(0, 1), (1, 24)] : Array (Nat × Nat))[i]?) (i := 1) (off := 1) (sz := 24) (v := Rw.val t.row) (zero := arr0) rfl (by simp [Rw.val_cells, hl]) (by rw [g2]; simp [Rw.cells_len zeroRow_ok]) []
  have e1 : arr' = t.cells.toArray := by
    refine Array.ext_getElem? fun j => ?_
    rw [h3, g3]
    cases j with
    | zero => rfl
    | succ j =>
      by_cases hj : j < 24
      · rw [if_pos (by omega)]; simp [Rw.val_cells, Nb.cells]
      · rw [if_neg (by omega), if_neg (by omega)]
        have h0 := Rw.cells_len zeroRow_ok
        rw [Array.getElem?_eq_none (by simp; omega), Array.getElem?_eq_none (by simp [Nb.cells]; omega)]
  have hf : Instr.fill (fun x => (#[(0, 1), (1, 24)] : Array (Nat × Nat))[x]?) zeroN.cells [(0, .int .i64 t.n), (1, Rw.val t.row)] = some t.cells.toArray := by
    rw [← e1]
    exact g1.trans h1
  have hz : ∀ w, (zeroValue 106).run Try.prog w = .ok zeroN w := fun w => by kernel_rfl
  have hu := Try.underlying106
  have hrun : (Instr.build 106 #[(0, .int .i64 t.n), (1, Rw.val t.row)]).run Try.prog w = .ok t.val w := by
    unfold Instr.build
    simp only [Sem.run_bind, hz, Result.andThen_ok, run_underlying hu]
    have hm : (Array.mapM (fun (f : Field) => do pure (f.offset, ← sizeOf f.type)) (#[{ name := "N", type := 3, offset := 0, embedded := false, tag := "", pkgPath := "", byteOffset := 0 }, { name := "Row", type := 32, offset := 1, embedded := false, tag := "", pkgPath := "", byteOffset := 8 }] : Array Field) : Sem (Array (Nat × Nat))).run Try.prog w = .ok #[(0, 1), (1, 24)] w := by kernel_rfl
    rw [hm]
    simp only [Result.andThen_ok]
    rw [hf]
    rfl
  unfold execOp
  simp only [ho, List.map_toArray, List.map_cons, List.map_nil, hy, hz0, hrun, Sem.run_bind, Sem.run_pure, Result.andThen_ok]
theorem numbOne (w : World) {t : Nb} (hx : Rw.ok t.row) : SlRep 25 1 RNb (w.alloc (.cells t.cells.toArray 106)) (.slice (some ⟨w.heap.size, 0, none⟩) 1 1) [t] :=
  ⟨_, _, rfl, Nat.le_refl _, Nat.le_refl _, fun i y hy => by
    have hi : i = 0 := by
      have := (List.getElem?_eq_some_iff.1 hy).1
      simp at this; omega
    subst hi
    simp at hy
    subst hy
    refine ⟨_, 0, t.cells, rfl, by simp [Nb.cells, Rw.cells_len hx], fun j c hj => ?_, rfl, hx⟩
    rw [Nat.zero_mul, show 0 + (0 + j) = j by omega]
    have := heap_alloc_new w (.cells t.cells.toArray 106)
    exact cell_at this j c (by simpa using hj)⟩
theorem exec_one_N {o : Oper} {a : Act} {w : World} {t : Nb} (y : Operand) (ho : o.op = .buildSlice 95 1 #[(0, y)]) (hy : a.eval y = t.val) (hx : Rw.ok t.row) :
    (execOp a.eval o).run Try.prog w = .ok (.value (.slice (some ⟨w.heap.size, 0, none⟩) 1 1)) (w.alloc (.cells t.cells.toArray 106)) := by
  obtain ⟨ie, hi, hz, hs, hb⟩ := info_parts infoNb
  have hl := Rw.cells_len hx
  have hcs : t.val.cells = t.cells.toArray := rfl
  have hcl : t.cells.length = 25 := by simp [Nb.cells, hl]
  obtain ⟨arr', h1, h2, h3⟩ := fill_one (place := fun i => some (i * 25, 25)) (i := 0) (off := 0) (sz := 25) (v := t.val) (zero := ((Array.range (1 * 25)).map (zeroN.cells[· % zeroN.cells.size]!))) rfl (by rw [hcs]; simp [hcl]) (by simp) []
  have e1 : arr' = t.cells.toArray := by
    refine Array.ext_getElem? fun j => ?_
    rw [h3]
    by_cases hj : j < 25
    · rw [if_pos (by omega), hcs]; simp
    · rw [if_neg (by omega)]
      rw [Array.getElem?_eq_none (by simp; omega), Array.getElem?_eq_none (by simp; omega)]
  have hf : Instr.fill (fun i => some (i * 25, 25)) ((Array.range (1 * 25)).map (zeroN.cells[· % zeroN.cells.size]!)) [(0, t.val)] = some t.cells.toArray := by rw [h1, e1]; rfl
  have hrun := run_buildSlice (P := Try.prog) w 95 106 1 #[(0, t.val)] t.cells.toArray ie zeroN Try.underlying95 hi hz (by rw [hs]; omega) (by rw [hs]; omega) (by rw [hs]; exact hf)
  unfold execOp
  simp only [ho, List.map_toArray, List.map_cons, List.map_nil, hy, hrun, Sem.run_bind, Sem.run_pure, Result.andThen_ok]
theorem numb_at {w : World} {A : Option Addr} {n cap M : Nat} {l : List Nb} (h : SlRep 25 M RNb w (.slice A n cap) l) {k : Nat} (hk : k < l.length) :
    ∃ b off, A = some ⟨b, off, none⟩ ∧ w.cell? ⟨b, off + k * 25, none⟩ = some (.int .i64 (l[k]).n) ∧ RowAt w b (off + k * 25 + 1) (l[k]).row := by
  obtain ⟨A1, cap1, hv, _, _, h3⟩ := h
  obtain ⟨b, off, cs, hA, hl, hc, hr, hok⟩ := h3 k _ (List.getElem?_eq_getElem hk)
  injection hv with hv _ _
  subst hr
  refine ⟨b, off, hv.trans hA, by have := hc 0 _ rfl; simpa using this, hok, fun j c hj => ?_⟩
  have := hc (j + 1) c (by simpa [Nb.cells] using hj)
  rwa [show off + (k * 25 + (j + 1)) = off + k * 25 + 1 + j by omega] at this
end Go.Proofs.Ytcekphjcmippoaa
/- The document's relation: Select, Range. -/
namespace Go.Proofs.Ytcekphjcmippoaa
open Go.RowKit Go.WideMaps
set_option linter.unusedSimpArgs false
set_option linter.unusedVariables false

theorem wpList_append_I {ops : Array Oper} {rest : List Oper} {Q : Exit → Act → World → Prop} {o : Oper} {a : Act} {B : Nat} {w : World} {v u : Value} {xs ys : List Int} {M : Nat} (hgd : Region.wanted o (yielded ops a.tmps) = true) (s x : Operand)
    (ho : o.op = .call { callee := .builtin .append, args := #[s, x], argTypes := #[46, 46] })
    (hs : a.eval s = v) (hx : a.eval x = u) (hown : OwnL 1 B 3 RI w v xs) (hu : SlRep 1 M RI w u ys) (hlen : xs.length + ys.length ≤ 17592186044416) (hbase : B ≤ w.heap.size)
    (h : ∀ v' w', OwnL 1 B 3 RI w' v' (xs ++ ys) → w.grownBy w' v.ownBlock → (v'.ownBlock = v.ownBlock ∨ v'.ownBlock = some w.heap.size) → wpList Try.prog ops Q rest (a.put o.dst v') w') : wpList Try.prog ops Q (o :: rest) a w := by
  obtain ⟨v', w', hr, h2, h3, h4⟩ := exec_append_I s x ho hs hx hown hu hlen hbase
  exact wpList_of_run hgd hr (h v' w' h2 h3 h4)
set_option maxHeartbeats 1600000 in
set_option maxRecDepth 100000 in
theorem rselect_any {B : Nat} {w : World} {b : Nat} {v : Value} {ar gone m : Nat} {xs : List Rw} (h : RefI B w b v ar gone xs) (har : ar ≤ 24) (hm : m < 2 ^ 32) (hl : xs.length ≤ 1407374883512) (x : Rw) (hx : Rw.ok x) :
    Calls Try.prog 48 #[.pointer (some ⟨b, 0, none⟩), .int .u32 m, Rw.val x] w fun e w' => ∃ u, e = .returned u ∧ OwnL 1 w.heap.size 3 RI w' u (selL ar m x xs) ∧ Fut w w' := by
  have H := Lib.hid h
  have X := Lib.hid hx
  obtain ⟨A, cap, rfl, hcl, hcm⟩ := h.list.rep.form
  have c1 : w.cell? ⟨b, 1, none⟩ = some (.int .i64 ar) := cell_at h.blk 1 _ rfl
  have c2 : w.cell? ⟨b, 2, none⟩ = some (.slice A xs.length cap) := cell_at h.blk 2 _ rfl
  have hrow := RowAt.new w 32 hx
  have F1 := Fut.alloc w (.cells (Rw.cells x).toArray 32)
  clear h hx
  unfold Rw.val
  go_enter Try.func48, Try.ntmps48
  go_wp2_with fail
  obtain ⟨W1, hW⟩ : ∃ W1, w.alloc (.cells (Rw.cells x).toArray 32) = W1 := ⟨_, rfl⟩
  rw [hW] at hrow F1 ⊢
  clear hW
  have HF := Lib.hid F1
  have HRow := Lib.hid hrow
  clear F1 hrow
  go_loopw [7, 8] (fun u i wr => ∃ k : Nat, k ≤ xs.length ∧ i = .int .i64 k ∧ Hid (OwnL 1 W1.heap.size 3 RI wr u (selK ar m x xs k)) ∧ Hid (Fut W1 wr)) (fun _ i _ => xs.length - (intOf i).toNat)
  case atStart => exact ⟨0, Nat.zero_le _, rfl, Lib.hid OwnL.nil, Lib.hid (Fut.refl _)⟩
  case round =>
    obtain ⟨k, hk, rfl, hO, hG⟩ := hrel
    have HR := Lib.hid (H.out.fut (HF.out.trans hG.out))
    have c1' := (HF.out.trans hG.out).cell c1
    have c2' := (HF.out.trans hG.out).cell c2
    obtain ⟨wq, hwq⟩ : ∃ x, x = wr := ⟨_, rfl⟩
    subst hwq
    go_wp2_with fail
    refine (rlen_any HR.out).mono ?_
    rintro e w1 ⟨rfl, hw1⟩
    have hw1' := hw1.symm
    subst hw1'
    by_cases hlt : k < xs.length
    · have hltI : (k : Int) < xs.length := by omega
      have e1 : (0 : Int) ≤ k ∧ (k : Int) < xs.length := by omega
      obtain ⟨gb, off, rfl, hrk⟩ := rows_at HR.out.list.rep hlt
      have hrx := HRow.out.fut hG.out
      have hst := selK_succ ar m x xs k
      have hsl := selK_len ar m x xs k
      rw [show xs.getD k zeroRow = xs[k] by simp [List.getD, hlt]] at hst
      generalize xs[k] = y at hrk hst
      have hy := hrk.1
      have HFit := Lib.hid (fun W => fits_any y x hy X.out m hm ar har W)
      rw [fit_cut har hy X.out] at HFit
      go_wp2_with fail
      refine wp_graph 14 [.d, .d, .d, .d, .d, .d, .d, .d, .d, .d, .d, .d, .d, .d] (by kernel_rfl) (by kernel_rfl) (by kernel_rfl) ?_
      simp only [List.take_succ_cons, List.take_zero, List.drop_succ_cons, List.drop_zero, Exs]
      iterate 14 apply Exists.intro
      apply Run.valG (wanted_none rfl _)
      · intro w1 h1 hk
        have hg := (Fut.drew _).trans h1; have q1 := h1.cell c1'; have q2 := h1.cell c2'
        have hcw := fun b o => Below.cell (p := ⟨b, o, none⟩) h1
        go_simp; rfl
      simp only [Act.put, List.setIfInBounds_toArray, List.set_cons_succ, List.set_cons_zero, List.nil_append, List.cons_append]
      apply Run.valG (wanted_none rfl _)
      · intro w1 h1 hk
        have hg := (Fut.drew _).trans h1; have q1 := h1.cell c1'; have q2 := h1.cell c2'
        have hcw := fun b o => Below.cell (p := ⟨b, o, none⟩) h1
        go_simp; rfl
      simp only [Act.put, List.setIfInBounds_toArray, List.set_cons_succ, List.set_cons_zero, List.nil_append, List.cons_append]
      apply Run.valG (wanted_none rfl _)
      · intro w1 h1 hk
        have hg := (Fut.drew _).trans h1; have q1 := h1.cell c1'; have q2 := h1.cell c2'
        have hcw := fun b o => Below.cell (p := ⟨b, o, none⟩) h1
        go_simp; rfl
      simp only [Act.put, List.setIfInBounds_toArray, List.set_cons_succ, List.set_cons_zero, List.nil_append, List.cons_append]
      apply Run.valG (wanted_none rfl _)
      · intro w1 h1 hk
        have hg := (Fut.drew _).trans h1; have q1 := h1.cell c1'; have q2 := h1.cell c2'
        have hcw := fun b o => Below.cell (p := ⟨b, o, none⟩) h1
        go_simp; rfl
      simp only [Act.put, List.setIfInBounds_toArray, List.set_cons_succ, List.set_cons_zero, List.nil_append, List.cons_append]
      apply Run.valG (wanted_none rfl _)
      · intro w1 h1 hk
        have hg := (Fut.drew _).trans h1; have q1 := h1.cell c1'; have q2 := h1.cell c2'
        have hcw := fun b o => Below.cell (p := ⟨b, o, none⟩) h1
        go_simp; rfl
      simp only [Act.put, List.setIfInBounds_toArray, List.set_cons_succ, List.set_cons_zero, List.nil_append, List.cons_append]
      apply Run.valG (wanted_none rfl _)
      · intro w1 h1 hk
        have hg := (Fut.drew _).trans h1; have q1 := h1.cell c1'; have q2 := h1.cell c2'
        have hcw := fun b o => Below.cell (p := ⟨b, o, none⟩) h1
        go_simp; rfl
      simp only [Act.put, List.setIfInBounds_toArray, List.set_cons_succ, List.set_cons_zero, List.nil_append, List.cons_append]
      apply Run.valG (wanted_none rfl _)
      · intro w1 h1 hk
        have hg := (Fut.drew _).trans h1; have q1 := h1.cell c1'; have q2 := h1.cell c2'
        have hcw := fun b o => Below.cell (p := ⟨b, o, none⟩) h1
        exact exec_load_R rowTy _ rfl rfl (hrk.fut hg)
      simp only [Act.put, List.setIfInBounds_toArray, List.set_cons_succ, List.set_cons_zero, List.nil_append, List.cons_append]
      apply Run.valG (wanted_none rfl _)
      · intro w1 h1 hk
        have hg := (Fut.drew _).trans h1; have q1 := h1.cell c1'; have q2 := h1.cell c2'
        have hcw := fun b o => Below.cell (p := ⟨b, o, none⟩) h1
        exact exec_load_R rowTy _ rfl rfl (hrx.fut hg)
      simp only [Act.put, List.setIfInBounds_toArray, List.set_cons_succ, List.set_cons_zero, List.nil_append, List.cons_append]
      apply Run.valG (wanted_none rfl _)
      · intro w1 h1 hk
        have hg := (Fut.drew _).trans h1; have q1 := h1.cell c1'; have q2 := h1.cell c2'
        have hcw := fun b o => Below.cell (p := ⟨b, o, none⟩) h1
        go_simp; rfl
      simp only [Act.put, List.setIfInBounds_toArray, List.set_cons_succ, List.set_cons_zero, List.nil_append, List.cons_append]
      apply Run.valG (wanted_none rfl _)
      · intro w1 h1 hk
        have hg := (Fut.drew _).trans h1; have q1 := h1.cell c1'; have q2 := h1.cell c2'
        have hcw := fun b o => Below.cell (p := ⟨b, o, none⟩) h1
        go_simp; rfl
      simp only [Act.put, List.setIfInBounds_toArray, List.set_cons_succ, List.set_cons_zero, List.nil_append, List.cons_append]
      apply Run.valG (wanted_none rfl _)
      · intro w1 h1 hk
        have hg := (Fut.drew _).trans h1; have q1 := h1.cell c1'; have q2 := h1.cell c2'
        have hcw := fun b o => Below.cell (p := ⟨b, o, none⟩) h1
        go_simp; rfl
      simp only [Act.put, List.setIfInBounds_toArray, List.set_cons_succ, List.set_cons_zero, List.nil_append, List.cons_append]
      apply Run.valG (wanted_none rfl _)
      · intro w1 h1 hk
        have hg := (Fut.drew _).trans h1; have q1 := h1.cell c1'; have q2 := h1.cell c2'
        have hcw := fun b o => Below.cell (p := ⟨b, o, none⟩) h1
        go_simp; rfl
      simp only [Act.put, List.setIfInBounds_toArray, List.set_cons_succ, List.set_cons_zero, List.nil_append, List.cons_append]
      apply Run.valG (wanted_none rfl _)
      · intro w1 h1 hk
        have hg := (Fut.drew _).trans h1; have q1 := h1.cell c1'; have q2 := h1.cell c2'
        have hcw := fun b o => Below.cell (p := ⟨b, o, none⟩) h1
        go_simp; rfl
      simp only [Act.put, List.setIfInBounds_toArray, List.set_cons_succ, List.set_cons_zero, List.nil_append, List.cons_append]
      apply Run.call (wanted_none rfl _) (fun _ _ => by go_simp; exact ⟨rfl, rfl⟩)
      · intro w1 h1 hk
        have hg := (Fut.drew _).trans h1; have q1 := h1.cell c1'; have q2 := h1.cell c2'
        exact HFit.out _
      simp only [Act.put, List.setIfInBounds_toArray, List.set_cons_succ, List.set_cons_zero, List.nil_append, List.cons_append]
      apply Run.done
      intro wa ha hk
      clear hk
      have fa := (Fut.drew _).trans ha
      have hGa := Lib.hid (hG.out.trans fa)
      by_cases he : cutL ar m y = cutL ar m x
      · rw [if_pos he] at hst
        rw [decide_eq_true he]
        have hOa := (hO.out.fut RI.stays fa).fut RI.stays (Fut.alloc wa (.cells #[.int .i64 (k : Int)] 3))
        have hRo := intOne wa (k : Int)
        have hLa : (selK ar m x xs k).length + [(k : Int)].length ≤ 17592186044416 := by simp; omega
        have hBa : W1.heap.size ≤ (wa.alloc (.cells #[.int .i64 (k : Int)] 3)).heap.size := by have := hGa.out.size; simp; omega
        go_wp2_with (first | (refine wpList_append_I (wanted_none rfl _) _ _ rfl rfl rfl hOa hRo hLa hBa ?_; intro v6 w6 hO6 hG6 hB6))
        go_roundw
        case rel => exact ⟨k + 1, by omega, by go_num, by rw [hst]; exact Lib.hid hO6, Lib.hid ((hGa.out.trans (Fut.alloc _ _)).grown hG6 fun j hj => (hOa.block j hj).1)⟩
        case measure => simp [intOf] <;> omega
      · rw [if_neg he, List.append_nil] at hst
        rw [decide_eq_false he]
        have hO2 := Lib.hid (hO.out.fut RI.stays fa)
        go_wp2
        go_roundw
        case rel => exact ⟨k + 1, by omega, by go_num, by rw [hst]; exact hO2, hGa⟩
        case measure => simp [intOf] <;> omega
    · obtain rfl : k = xs.length := by omega
      go_wp2
      go_ret
      exact ⟨_, rfl, hO.out.base HF.out.size, HF.out.trans hG.out⟩
end Go.Proofs.Ytcekphjcmippoaa
