/- The order of rows: cmp.Compare, slices.CompareFunc, Sorted's comparison (they make blocks of their own and turn nothing); the document's Below. -/
import Derived.Test.YtcekphjcmippoaaRelR
import Derived.Test.YtcekphjcmippoaaOrdL
import Derived.Test.YtcekphjcmippoaaGr
namespace Go.Proofs.Ytcekphjcmippoaa
open Go.RowKit Go.WideMaps
set_option linter.unusedSimpArgs false
set_option linter.unusedVariables false

/-- The order of rows. -/
def cmpR (x y : Rw) : Int := lcmp cmpI x y
theorem ordR : Ord3 cmpR := lcmp_ord ordI
theorem lcmp_step {c : Int → Int → Int} : ∀ (x y : List Int) (k : Nat), k < x.length → k < y.length → (∀ i, i < k → c (x.getD i 0) (y.getD i 0) = 0) → c (x.getD k 0) (y.getD k 0) ≠ 0 → lcmp c x y = c (x.getD k 0) (y.getD k 0)
  | [], _, _, h, _, _, _ => by simp at h
  | _ :: _, [], _, _, h, _, _ => by simp at h
  | a :: x, b :: y, 0, _, _, _, hn => by
    simp only [List.getD_cons_zero] at hn ⊢
    rw [lcmp, if_pos hn]
  | a :: x, b :: y, k + 1, h1, h2, hz, hn => by
    have h0 := hz 0 (by omega)
    simp only [List.getD_cons_zero] at h0
    rw [lcmp, if_neg (by simpa using h0)]
    simp only [List.getD_cons_succ] at hn ⊢
    exact lcmp_step x y k (by simpa using h1) (by simpa using h2) (fun i hi => by simpa using hz (i + 1) (by omega)) hn
theorem cmpI_zero {a b : Int} : cmpI a b = 0 ↔ a = b := ordI.zero a b
theorem cmpI_lt {a b : Int} : cmpI a b < 0 ↔ a < b := by
  unfold cmpI
  by_cases h : a < b
  · simp [h]
  · by_cases h2 : b < a <;> simp [h, h2]
theorem cmpR_step {x y : Rw} (hx : Rw.ok x) (hy : Rw.ok y) {k : Nat} (hk : k < 24) (hz : ∀ i, i < k → x.getD i 0 = y.getD i 0) (hn : x.getD k 0 ≠ y.getD k 0) : cmpR x y = cmpI (x.getD k 0) (y.getD k 0) :=
  lcmp_step x y k (by rw [hx.1]; exact hk) (by rw [hy.1]; exact hk) (fun i hi => cmpI_zero.2 (hz i hi)) (fun h => hn (cmpI_zero.1 h))
theorem cmpR_same {x y : Rw} (hx : Rw.ok x) (hy : Rw.ok y) (hz : ∀ i, i < 24 → x.getD i 0 = y.getD i 0) : cmpR x y = 0 := (ordR.zero x y).2 (by
  refine List.ext_getElem (by rw [hx.1, hy.1]) fun i h1 h2 => ?_
  have := hz i (by rw [← hx.1]; exact h1)
  simpa [List.getD, h1, h2] using this)
theorem RowAt.get {w : World} {b off : Nat} {x : Rw} (h : RowAt w b off x) {k : Nat} (hk : k < 24) : w.cell? ⟨b, off + k, none⟩ = some (.int .i32 (x.getD k 0)) := by
  have hl : k < x.length := by rw [h.1.1]; exact hk
  exact h.2 k _ (by simp [Rw.cells, List.getD, hl])
theorem RowAt.get0 {w : World} {b : Nat} {x : Rw} (h : RowAt w b 0 x) {k : Nat} (hk : k < 24) : w.cell? ⟨b, k, none⟩ = some (.int .i32 (x.getD k 0)) := by
  have := h.get hk
  rwa [Nat.zero_add] at this

namespace Gr
set_option maxHeartbeats 400000 in
theorem cmpSym_any (a b : Int) (w : World) : Calls Try.prog 41 #[.int .i32 a, .int .i32 b] w fun e w' => e = .returned (.int .i64 (cmpI a b)) ∧ w' = w := by
  rcases Int.lt_trichotomy a b with h | h | h
  · go_enter Try.func41, Try.ntmps41
    go_wp2
    go_ret
    exact ⟨by unfold cmpI; rw [if_pos h]; rfl, rfl⟩
  · subst h
    go_enter Try.func41, Try.ntmps41
    go_wp2
    go_ret
    exact ⟨by unfold cmpI; rw [if_neg (by omega), if_neg (by omega)]; rfl, rfl⟩
  · go_enter Try.func41, Try.ntmps41
    go_wp2
    go_ret
    exact ⟨by unfold cmpI; rw [if_neg (by omega), if_pos h]; rfl, rfl⟩
set_option maxHeartbeats 800000 in
theorem rowFunc_gr (b b' : Nat) (x y : Rw) (w : World) (ha : RowAt w b 0 x) (hb : RowAt w b' 0 y) :
    Calls Try.prog 40 #[.slice (some ⟨b, 0, none⟩) 24 24, .slice (some ⟨b', 0, none⟩) 24 24, .func (.func 41) #[] #[]] w fun e w' => e = .returned (.int .i64 (cmpR x y)) ∧ Fut w w' := by
  have hx := ha.1
  have hy := hb.1
  go_enter Try.func40, Try.ntmps40
  go_wp2
  go_loopw [13] (fun i wr => ∃ k : Nat, k ≤ 24 ∧ i = .int .i64 k ∧ Hid (∀ i, i < k → x.getD i 0 = y.getD i 0) ∧ Hid (Fut w wr)) (fun i _ => 24 - (intOf i).toNat)
  case atStart => exact ⟨0, Nat.zero_le _, rfl, fun i hi => absurd hi (by omega), Fut.refl w⟩
  case round =>
    obtain ⟨k, hk, rfl, hz, hf⟩ := hrel
    by_cases hlt : k < 24
    · have x0 := (ha.fut hf.out.below).get0 hlt
      have y0 := (hb.fut hf.out.below).get0 hlt
      have e1 : (0 : Int) ≤ k ∧ (k : Int) < 24 := by omega
      have e2 : ¬ (24 : Int) ≤ k := by omega
      by_cases he : x.getD k 0 = y.getD k 0
      · have hc : cmpI (x.getD k 0) (y.getD k 0) = 0 := cmpI_zero.2 he
        have HE := Lib.hid he
        clear he
        generalize x.getD k 0 = a at x0 hc
        generalize y.getD k 0 = a' at y0 hc
        go_wp2_with fail
        refine (cmpSym_any a a' _).mono ?_
        rintro e w1 ⟨rfl, hw1⟩
        have hw1' := hw1.symm
        subst hw1'
        rw [hc]
        go_wp2
        go_roundw
        case rel => exact ⟨k + 1, by omega, by go_num, fun i hi => by
          rcases Nat.lt_or_ge i k with h' | h'
          · exact hz.out i h'
          · obtain rfl : i = k := by omega
            exact HE.out, hf⟩
        case measure => simp [intOf]; omega
      · have hc : (cmpI (x.getD k 0) (y.getD k 0) != 0) = true := by
          have := fun h => he (cmpI_zero.1 h)
          simpa using this
        have hs := Lib.hid (cmpR_step hx hy hlt hz.out he)
        clear he
        generalize x.getD k 0 = a at x0 hc hs
        generalize y.getD k 0 = a' at y0 hc hs
        go_wp2_with fail
        refine (cmpSym_any a a' _).mono ?_
        rintro e w1 ⟨rfl, hw1⟩
        have hw1' := hw1.symm
        subst hw1'
        go_wp2
        go_ret
        rw [hs.out]
        exact ⟨rfl, hf.out⟩
    · obtain rfl : k = 24 := by omega
      have hs := Lib.hid (cmpR_same hx hy hz.out)
      go_wp2
      go_ret
      rw [hs.out]
      exact ⟨rfl, hf.out⟩
set_option maxHeartbeats 800000 in
set_option maxRecDepth 100000 in
theorem sorted1_gr (x y : Rw) (w : World) (hx : Rw.ok x) (hy : Rw.ok y) :
    Calls Try.prog 39 #[Rw.val x, Rw.val y] w fun e w' => e = .returned (.int .i64 (cmpR x y)) ∧ Fut w w' := by
  unfold Rw.val
  go_enter Try.func39, Try.ntmps39
  go_wp2_with fail
  have ra := (RowAt.new w 32 hx).fut (Fut.alloc (w.alloc (.cells (Rw.cells x).toArray 32)) (.cells (Rw.cells y).toArray 32)).below
  have rb := RowAt.new (w.alloc (.cells (Rw.cells x).toArray 32)) 32 hy
  rw [World.size_alloc] at rb
  have hF := (Fut.alloc w (.cells (Rw.cells x).toArray 32)).trans (Fut.alloc _ (.cells (Rw.cells y).toArray 32))
  obtain ⟨W, hW⟩ : ∃ W, (w.alloc (.cells (Rw.cells x).toArray 32)).alloc (.cells (Rw.cells y).toArray 32) = W := ⟨_, rfl⟩
  rw [hW] at ra rb hF ⊢
  clear hW
  refine wp_graph 4 [.d, .d, .d, .d] (by kernel_rfl) (by kernel_rfl) (by kernel_rfl) ?_
  simp only [List.take_succ_cons, List.take_zero, List.drop_succ_cons, List.drop_zero, Exs]
  iterate 4 apply Exists.intro
  apply Run.valG (wanted_none rfl _)
  · intro w1 h1 hk
    have hg := (Fut.drew _).trans h1
    go_simp; rfl
  simp only [Act.put, List.setIfInBounds_toArray, List.set_cons_succ, List.set_cons_zero, List.nil_append, List.cons_append]
  apply Run.valG (wanted_none rfl _)
  · intro w1 h1 hk
    have hg := (Fut.drew _).trans h1
    go_simp; rfl
  simp only [Act.put, List.setIfInBounds_toArray, List.set_cons_succ, List.set_cons_zero, List.nil_append, List.cons_append]
  apply Run.call (wanted_none rfl _) (fun _ _ => by go_simp; exact ⟨rfl, rfl⟩)
  · intro w1 h1 hk
    have hg := (Fut.drew _).trans h1
    exact rowFunc_gr _ _ x y _ (ra.fut hg.below) (rb.fut hg.below)
  simp only [Act.put, List.setIfInBounds_toArray, List.set_cons_succ, List.set_cons_zero, List.nil_append, List.cons_append]
  apply Run.valG (wanted_none rfl _)
  · intro w1 h1 hk
    have hg := (Fut.drew _).trans h1
    go_simp; rfl
  simp only [Act.put, List.setIfInBounds_toArray, List.set_cons_succ, List.set_cons_zero, List.nil_append, List.cons_append]
  apply Run.done
  intro w2 h2 hk
  clear hk
  go_wp2
  go_ret
  exact ⟨rfl, hF.trans ((Fut.drew _).trans h2)⟩
end Gr

set_option maxHeartbeats 800000 in
set_option maxRecDepth 100000 in
theorem below_any (x y : Rw) (w : World) (hx : Rw.ok x) (hy : Rw.ok y) :
    Calls Try.prog 22 #[Rw.val x, Rw.val y] w fun e w' => e = .returned (.bool (decide (cmpR x y < 0))) ∧ Fut w w' := by
  unfold Rw.val
  go_enter Try.func22, Try.ntmps22
  go_wp2_with fail
  have ra := (RowAt.new w 32 hx).fut (Fut.alloc (w.alloc (.cells (Rw.cells x).toArray 32)) (.cells (Rw.cells y).toArray 32))
  have rb := RowAt.new (w.alloc (.cells (Rw.cells x).toArray 32)) 32 hy
  rw [World.size_alloc] at rb
  have hF := (Fut.alloc w (.cells (Rw.cells x).toArray 32)).trans (Fut.alloc _ (.cells (Rw.cells y).toArray 32))
  obtain ⟨W, hW⟩ : ∃ W, (w.alloc (.cells (Rw.cells x).toArray 32)).alloc (.cells (Rw.cells y).toArray 32) = W := ⟨_, rfl⟩
  rw [hW] at ra rb hF ⊢
  clear hW
  go_loopw [5] (fun i wr => ∃ k : Nat, k ≤ 24 ∧ i = .int .i64 k ∧ Hid (∀ i, i < k → x.getD i 0 = y.getD i 0) ∧ Hid (Fut W wr)) (fun i _ => 24 - (intOf i).toNat)
  case atStart => exact ⟨0, Nat.zero_le _, rfl, fun i hi => absurd hi (by omega), Fut.refl W⟩
  case round =>
    obtain ⟨k, hk, rfl, hz, hf⟩ := hrel
    by_cases hlt : k < 24
    · have x0 := (ra.fut hf.out).get0 hlt
      have y0 := (rb.fut hf.out).get0 hlt
      have e1 : (0 : Int) ≤ k ∧ (k : Int) < 24 := by omega
      by_cases he : x.getD k 0 = y.getD k 0
      · have hc : (x.getD k 0 != y.getD k 0) = false := by simpa using he
        have HE := Lib.hid he
        clear he
        generalize x.getD k 0 = a at x0 hc
        generalize y.getD k 0 = a' at y0 hc
        go_wp2_with fail
        refine wp_graph 7 [.d, .d, .d, .d, .d, .d, .d] (by kernel_rfl) (by kernel_rfl) (by kernel_rfl) ?_
        simp only [List.take_succ_cons, List.take_zero, List.drop_succ_cons, List.drop_zero, Exs]
        iterate 7 apply Exists.intro
        apply Run.valG (wanted_none rfl _)
        · intro w1 h1 hk
          have q1 := h1.cell x0; have q2 := h1.cell y0
          have hcw := fun b o => Below.cell (p := ⟨b, o, none⟩) h1
          go_simp; rfl
        simp only [Act.put, List.setIfInBounds_toArray, List.set_cons_succ, List.set_cons_zero, List.nil_append, List.cons_append]
        apply Run.valG (wanted_none rfl _)
        · intro w1 h1 hk
          have q1 := h1.cell x0; have q2 := h1.cell y0
          have hcw := fun b o => Below.cell (p := ⟨b, o, none⟩) h1
          go_simp; rfl
        simp only [Act.put, List.setIfInBounds_toArray, List.set_cons_succ, List.set_cons_zero, List.nil_append, List.cons_append]
        apply Run.valG (wanted_none rfl _)
        · intro w1 h1 hk
          have q1 := h1.cell x0; have q2 := h1.cell y0
          have hcw := fun b o => Below.cell (p := ⟨b, o, none⟩) h1
          go_simp; rfl
        simp only [Act.put, List.setIfInBounds_toArray, List.set_cons_succ, List.set_cons_zero, List.nil_append, List.cons_append]
        apply Run.valG (wanted_none rfl _)
        · intro w1 h1 hk
          have q1 := h1.cell x0; have q2 := h1.cell y0
          have hcw := fun b o => Below.cell (p := ⟨b, o, none⟩) h1
          go_simp; rfl
        simp only [Act.put, List.setIfInBounds_toArray, List.set_cons_succ, List.set_cons_zero, List.nil_append, List.cons_append]
        apply Run.valG (wanted_none rfl _)
        · intro w1 h1 hk
          have q1 := h1.cell x0; have q2 := h1.cell y0
          have hcw := fun b o => Below.cell (p := ⟨b, o, none⟩) h1
          go_simp; rfl
        simp only [Act.put, List.setIfInBounds_toArray, List.set_cons_succ, List.set_cons_zero, List.nil_append, List.cons_append]
        apply Run.valG (wanted_none rfl _)
        · intro w1 h1 hk
          have q1 := h1.cell x0; have q2 := h1.cell y0
          have hcw := fun b o => Below.cell (p := ⟨b, o, none⟩) h1
          go_simp; rfl
        simp only [Act.put, List.setIfInBounds_toArray, List.set_cons_succ, List.set_cons_zero, List.nil_append, List.cons_append]
        apply Run.valG (wanted_none rfl _)
        · intro w1 h1 hk
          have q1 := h1.cell x0; have q2 := h1.cell y0
          have hcw := fun b o => Below.cell (p := ⟨b, o, none⟩) h1
          go_simp; rfl
        simp only [Act.put, List.setIfInBounds_toArray, List.set_cons_succ, List.set_cons_zero, List.nil_append, List.cons_append]
        apply Run.done
        intro w2 h2 hk
        clear hk
        have hf2 := Lib.hid (hf.out.trans ((Fut.drew _).trans h2))
        go_wp2
        go_roundw
        case rel => exact ⟨k + 1, by omega, by go_num, fun i hi => by
          rcases Nat.lt_or_ge i k with h' | h'
          · exact hz.out i h'
          · obtain rfl : i = k := by omega
            exact HE.out, hf2⟩
        case measure => simp [intOf]; omega
      · have hc : (x.getD k 0 != y.getD k 0) = true := by simpa using he
        have hs := Lib.hid (cmpR_step hx hy hlt hz.out he)
        have hlt' : decide (cmpI (x.getD k 0) (y.getD k 0) < 0) = decide (x.getD k 0 < y.getD k 0) := by
          rw [Bool.eq_iff_iff, decide_eq_true_iff, decide_eq_true_iff, cmpI_lt]
        clear he
        generalize x.getD k 0 = a at x0 hc hs hlt'
        generalize y.getD k 0 = a' at y0 hc hs hlt'
        go_wp2_with fail
        refine wp_graph 7 [.d, .d, .d, .d, .d, .d, .d] (by kernel_rfl) (by kernel_rfl) (by kernel_rfl) ?_
        simp only [List.take_succ_cons, List.take_zero, List.drop_succ_cons, List.drop_zero, Exs]
        iterate 7 apply Exists.intro
        apply Run.valG (wanted_none rfl _)
        · intro w1 h1 hk
          have q1 := h1.cell x0; have q2 := h1.cell y0
          have hcw := fun b o => Below.cell (p := ⟨b, o, none⟩) h1
          go_simp; rfl
        simp only [Act.put, List.setIfInBounds_toArray, List.set_cons_succ, List.set_cons_zero, List.nil_append, List.cons_append]
        apply Run.valG (wanted_none rfl _)
        · intro w1 h1 hk
          have q1 := h1.cell x0; have q2 := h1.cell y0
          have hcw := fun b o => Below.cell (p := ⟨b, o, none⟩) h1
          go_simp; rfl
        simp only [Act.put, List.setIfInBounds_toArray, List.set_cons_succ, List.set_cons_zero, List.nil_append, List.cons_append]
        apply Run.valG (wanted_none rfl _)
        · intro w1 h1 hk
          have q1 := h1.cell x0; have q2 := h1.cell y0
          have hcw := fun b o => Below.cell (p := ⟨b, o, none⟩) h1
          go_simp; rfl
        simp only [Act.put, List.setIfInBounds_toArray, List.set_cons_succ, List.set_cons_zero, List.nil_append, List.cons_append]
        apply Run.valG (wanted_none rfl _)
        · intro w1 h1 hk
          have q1 := h1.cell x0; have q2 := h1.cell y0
          have hcw := fun b o => Below.cell (p := ⟨b, o, none⟩) h1
          go_simp; rfl
        simp only [Act.put, List.setIfInBounds_toArray, List.set_cons_succ, List.set_cons_zero, List.nil_append, List.cons_append]
        apply Run.valG (wanted_none rfl _)
        · intro w1 h1 hk
          have q1 := h1.cell x0; have q2 := h1.cell y0
          have hcw := fun b o => Below.cell (p := ⟨b, o, none⟩) h1
          go_simp; rfl
        simp only [Act.put, List.setIfInBounds_toArray, List.set_cons_succ, List.set_cons_zero, List.nil_append, List.cons_append]
        apply Run.valG (wanted_none rfl _)
        · intro w1 h1 hk
          have q1 := h1.cell x0; have q2 := h1.cell y0
          have hcw := fun b o => Below.cell (p := ⟨b, o, none⟩) h1
          go_simp; rfl
        simp only [Act.put, List.setIfInBounds_toArray, List.set_cons_succ, List.set_cons_zero, List.nil_append, List.cons_append]
        apply Run.valG (wanted_none rfl _)
        · intro w1 h1 hk
          have q1 := h1.cell x0; have q2 := h1.cell y0
          have hcw := fun b o => Below.cell (p := ⟨b, o, none⟩) h1
          go_simp; rfl
        simp only [Act.put, List.setIfInBounds_toArray, List.set_cons_succ, List.set_cons_zero, List.nil_append, List.cons_append]
        apply Run.done
        intro w2 h2 hk
        clear hk
        have x1 := h2.cell x0
        have y1 := h2.cell y0
        have hf2 := hf.out.trans ((Fut.drew _).trans h2)
        go_wp2_with fail
        refine wp_graph 8 [.d, .d, .d, .d, .d, .d, .d, .d] (by kernel_rfl) (by kernel_rfl) (by kernel_rfl) ?_
        simp only [List.take_succ_cons, List.take_zero, List.drop_succ_cons, List.drop_zero, Exs]
        iterate 8 apply Exists.intro
        apply Run.valG (wanted_none rfl _)
        · intro w1 h1 hk
          have q1 := h1.cell x1; have q2 := h1.cell y1
          have hcw := fun b o => Below.cell (p := ⟨b, o, none⟩) h1
          go_simp; rfl
        simp only [Act.put, List.setIfInBounds_toArray, List.set_cons_succ, List.set_cons_zero, List.nil_append, List.cons_append]
        apply Run.valG (wanted_none rfl _)
        · intro w1 h1 hk
          have q1 := h1.cell x1; have q2 := h1.cell y1
          have hcw := fun b o => Below.cell (p := ⟨b, o, none⟩) h1
          go_simp; rfl
        simp only [Act.put, List.setIfInBounds_toArray, List.set_cons_succ, List.set_cons_zero, List.nil_append, List.cons_append]
        apply Run.valG (wanted_none rfl _)
        · intro w1 h1 hk
          have q1 := h1.cell x1; have q2 := h1.cell y1
          have hcw := fun b o => Below.cell (p := ⟨b, o, none⟩) h1
          go_simp; rfl
        simp only [Act.put, List.setIfInBounds_toArray, List.set_cons_succ, List.set_cons_zero, List.nil_append, List.cons_append]
        apply Run.valG (wanted_none rfl _)
        · intro w1 h1 hk
          have q1 := h1.cell x1; have q2 := h1.cell y1
          have hcw := fun b o => Below.cell (p := ⟨b, o, none⟩) h1
          go_simp; rfl
        simp only [Act.put, List.setIfInBounds_toArray, List.set_cons_succ, List.set_cons_zero, List.nil_append, List.cons_append]
        apply Run.valG (wanted_none rfl _)
        · intro w1 h1 hk
          have q1 := h1.cell x1; have q2 := h1.cell y1
          have hcw := fun b o => Below.cell (p := ⟨b, o, none⟩) h1
          go_simp; rfl
        simp only [Act.put, List.setIfInBounds_toArray, List.set_cons_succ, List.set_cons_zero, List.nil_append, List.cons_append]
        apply Run.valG (wanted_none rfl _)
        · intro w1 h1 hk
          have q1 := h1.cell x1; have q2 := h1.cell y1
          have hcw := fun b o => Below.cell (p := ⟨b, o, none⟩) h1
          go_simp; rfl
        simp only [Act.put, List.setIfInBounds_toArray, List.set_cons_succ, List.set_cons_zero, List.nil_append, List.cons_append]
        apply Run.valG (wanted_none rfl _)
        · intro w1 h1 hk
          have q1 := h1.cell x1; have q2 := h1.cell y1
          have hcw := fun b o => Below.cell (p := ⟨b, o, none⟩) h1
          go_simp; rfl
        simp only [Act.put, List.setIfInBounds_toArray, List.set_cons_succ, List.set_cons_zero, List.nil_append, List.cons_append]
        apply Run.valG (wanted_none rfl _)
        · intro w1 h1 hk
          have q1 := h1.cell x1; have q2 := h1.cell y1
          have hcw := fun b o => Below.cell (p := ⟨b, o, none⟩) h1
          go_simp; rfl
        simp only [Act.put, List.setIfInBounds_toArray, List.set_cons_succ, List.set_cons_zero, List.nil_append, List.cons_append]
        apply Run.done
        intro w3 h3 hk
        clear hk
        go_wp2
        go_ret
        rw [hs.out, hlt']
        exact ⟨rfl, hF.trans (hf2.trans ((Fut.drew _).trans h3))⟩
    · obtain rfl : k = 24 := by omega
      have hs := Lib.hid (cmpR_same hx hy hz.out)
      go_wp2
      go_ret
      rw [hs.out]
      exact ⟨rfl, hF.trans hf.out⟩
end Go.Proofs.Ytcekphjcmippoaa
